/- Package display: Withdrawn. -/
import Derived.Test.YtneanannicacnaaDoorDisp11
namespace Go.Proofs.YtneanannicacnaaDoor
open Go.RowKit Go.Han
attribute [local irreducible] wpStill wpQuiet
set_option maxRecDepth 100000

/-- How many changes withdraw something. -/
def countW (l : List Change) : Nat := (l.filter fun c => !(c.kind == 1)).length
theorem countW_le (l : List Change) : countW l ≤ l.length := List.length_filter_le _ _
theorem countW_app (l l' : List Change) : countW (l ++ l') = countW l + countW l' := by unfold countW; rw [List.filter_append, List.length_append]

def WdTop (l : List Change) (t : Int) (w : World) (e : Ending) (w' : World) : Prop :=
  Below w.heap.size w w' ∧ e = .returned (.tuple #[.int .i64 (if playE l t = 0 then countW (upTo t l) else 0), .int .i64 (playE l t)])

def CellN (b : Nat) (pre : List Change) (W : World) : Prop := W.heap[b]? = some (.cells #[.int .i64 (countW pre)] 3 (0, 0))
theorem told_count (b : Nat) : Told Tryd.prog 60 #[.pointer (some ⟨b, 0, none⟩)] (fun k => k = b) (CellN b) := by
  refine ⟨enters_of Tryd.func60 (by kernel_rfl) rfl, fun pre W W' h hc => (h b rfl (lt_block hc)).trans hc, fun pre c W hp hc => ?_⟩
  obtain ⟨xt, xk, ⟨xi, xv, xs⟩⟩ := c
  have hle := countW_le pre
  have c1 := cell_one hc
  have f1 := frozen_one hc 0
  have hlt := lt_block hc
  have hb1 : ∀ o, (W.alloc o).heap[b]? = some (.cells #[.int .i64 (countW pre)] 3 (0, 0)) := fun o => (Below.heap_alloc _ _ _ hlt).trans hc
  by_cases hk : xk = 1
  · subst hk
    have e : Hid (countW (pre ++ [⟨xt, 1, ⟨xi, xv, xs⟩⟩]) = countW pre) := by show _ = _; rw [countW_app]; rfl
    have hb2 := Lib.hid (hb1 (.cells #[.int .i64 xt, .int .i64 1, .int .i64 xi, .int .i64 xv, .string xs] 26))
    clear hb1 hc
    simp only [Change.val]
    go_enter Tryd.func60, Tryd.ntmps60
    go_wp2
    go_end0
    refine ⟨rfl, (Only.refl _ _).alloc _, ?_⟩
    unfold CellN
    rw [e.out]
    exact hb2.out
  · have hk1 : (xk == 1) = false := by simpa using hk
    have e : Hid ((countW (pre ++ [⟨xt, xk, ⟨xi, xv, xs⟩⟩]) : Int) = countW pre + 1) := by
      show _ = _
      rw [countW_app]
      simp [countW, hk]
    have hb2 := Lib.hid hc
    clear hb1 hc
    simp only [Change.val]
    go_enter Tryd.func60, Tryd.ntmps60
    go_wp2
    go_end0
    refine ⟨rfl, ((Only.refl (fun k => k = b) W).setCell (p := ⟨b, 0, none⟩) (.inl rfl) _).alloc _, ?_⟩
    unfold CellN
    rw [e.out]
    exact (Below.heap_alloc _ _ _ (by simpa [World.setCell] using hlt)).trans (set_one hb2.out _)

theorem wd1_zero (b1 b2 : Nat) (u : FrameMode) (w : World) (h1 : w.heap[b1]? = some (.cells #[.int .i64 0] 29 (0, 0))) :
    CallsD Tryd.prog 59 #[.pointer (some ⟨b1, 0, none⟩), .pointer (some ⟨b2, 0, none⟩)] u w fun e u' w' => u' = u ∧ e = .returned (.tuple #[]) ∧ w' = w := by
  have c1 := cell_one h1
  refine callsD_of_wp (R := fun e w' => e = .returned (.tuple #[]) ∧ w' = w) Tryd.func59 rfl ?_
  simp only [Tryd.ntmps59, List.size_toArray, List.length_cons, List.length_nil, Nat.reduceAdd, Nat.reduceSub, Array.replicate_succ, Array.replicate_zero, List.push_toArray, List.append_toArray, List.nil_append, List.cons_append]
  go_wp2
  go_end0
  exact ⟨rfl, rfl⟩
theorem wd1_err (b1 b2 : Nat) (n : Int) (v : Value) (hn : n ≠ 0) (u : FrameMode) (w : World) (h1 : w.heap[b1]? = some (.cells #[.int .i64 n] 29 (0, 0))) (h2 : w.heap[b2]? = some (.cells #[v] 3 (0, 0))) :
    CallsD Tryd.prog 59 #[.pointer (some ⟨b1, 0, none⟩), .pointer (some ⟨b2, 0, none⟩)] u w fun e u' w' => u' = u ∧ e = .returned (.tuple #[]) ∧ w' = w.setCell ⟨b2, 0, none⟩ (.int .i64 0) := by
  have c1 := cell_one h1
  have c2 := cell_one h2
  have f2 := frozen_one h2 0
  have hn1 : (n == 0) = false := by simpa using hn
  clear hn
  refine callsD_of_wp (R := fun e w' => e = .returned (.tuple #[]) ∧ w' = w.setCell ⟨b2, 0, none⟩ (.int .i64 0)) Tryd.func59 rfl ?_
  simp only [Tryd.ntmps59, List.size_toArray, List.length_cons, List.length_nil, Nat.reduceAdd, Nat.reduceSub, Array.replicate_succ, Array.replicate_zero, List.push_toArray, List.append_toArray, List.nil_append, List.cons_append]
  go_wp2
  go_end0
  exact ⟨rfl, rfl⟩

set_option maxHeartbeats 400000 in
theorem Withdrawn_any (A : Option Addr) (cp : Nat) (l : List Change) (t : Int) (w : World) (hU : Tabs w) (hr : Rd w A (cflat l)) (hm : l.length ≤ 9223372036854775807) :
    Calls Tryd.prog 25 #[.slice A l.length cp, .int .i64 t] w (WdTop l t w) := by
  have hmf : ∀ (fn : Fn) (first cap : Array Value) (w : World), (Instr.makeFunc fn first cap).run Tryd.prog w = .ok (.func fn first cap) w := fun _ _ _ _ => rfl
  obtain ⟨W1, hW1⟩ : ∃ W1, (w.alloc (.cells #[.int .i64 0] 3)).alloc (.cells #[.int .i64 0] 29) = W1 := ⟨_, rfl⟩
  have hn0 : W1.heap[w.heap.size]? = some (.cells #[.int .i64 0] 3 (0, 0)) := by rw [← hW1]; exact (Below.heap_alloc _ _ _ (by simp)).trans (World.alloc_heap_new _ _)
  have he0 : W1.heap[w.heap.size + 1]? = some (.cells #[.int .i64 0] 29 (0, 0)) := by
    rw [← hW1]; have := World.alloc_heap_new (w.alloc (.cells #[.int .i64 0] 3)) (.cells #[.int .i64 0] 29); rwa [World.size_alloc] at this
  have hB1 : Below w.heap.size w W1 := by rw [← hW1]; exact ((Below.refl _ _).alloc (Nat.le_refl _) _).alloc (by simp) _
  have hz1 : W1.heap.size = w.heap.size + 2 := by rw [← hW1]; simp
  go_enter_defers Tryd.func25, Tryd.ntmps25
  go_wp2_with fail
  refine (play_any 60 #[.pointer (some ⟨w.heap.size, 0, none⟩)] (fun k => k = w.heap.size) (CellN w.heap.size) (told_count _) A cp l t W1 (utf_ext hU hB1) (hr.ext hB1) hm ?_ hn0).mono ?_
  · rintro k rfl
    have hlt := utf_lt hU
    refine ⟨by omega, fun hne a ha e => ?_, fun e => by have := hlt _ (.inl e); omega, fun e => by have := hlt _ (.inr e); omega⟩
    rcases hr with h | ⟨b, off, h, hb, _⟩
    · exact absurd h (cflat_ne hne)
    · rw [h] at ha; cases ha; simp at e; omega
  rintro e w2 ⟨ho, h⟩
  have hB2 : Below w.heap.size w w2 := ⟨ho.os.trans hB1.os, ho.tape.trans hB1.tape, ho.output.trans hB1.output, Nat.le_trans hB1.size ho.size, fun k hk => (ho.block k (by omega) (by omega)).trans (hB1.block k hk)⟩
  have he2 : w2.heap[w.heap.size + 1]? = _ := (ho.block _ (by omega) (by omega)).trans he0
  have hz2 := ho.size
  rcases h with ⟨hn, rfl, pre, hv2⟩ | ⟨hn, ⟨v, rfl, _⟩, hc⟩
  · obtain ⟨v2, hv2⟩ : ∃ v2, w2.heap[w.heap.size]? = some (.cells #[v2] 3 (0, 0)) := ⟨_, hv2⟩
    have hfin : Hid (WdTop l t w (.returned (.tuple #[.int .i64 0, .int .i64 (playE l t)])) ((w2.setCell ⟨w.heap.size + 1, 0, none⟩ (.int .i64 (playE l t))).setCell ⟨w.heap.size, 0, none⟩ (.int .i64 0))) := by
      refine ⟨(hB2.setCell (p := ⟨w.heap.size + 1, 0, none⟩) (by simp) _).setCell (p := ⟨w.heap.size, 0, none⟩) (Nat.le_refl _) _, ?_⟩
      rw [if_neg hn]
    have hnE := hn
    generalize playE l t = E at *
    refine leaves_cons (f := 47) (args := #[.pointer (some ⟨w.heap.size + 1, 0, none⟩)]) (by simp) (by simp [go_sem]) ?_
    refine (caught_pan _ _ _ _ he2).mono ?_
    rintro e u' w'' ⟨rfl, rfl, rfl⟩
    have e3 := set_one he2 (.int .i64 E)
    have n3 := (Below.heap_setCell w2 ⟨w.heap.size + 1, 0, none⟩ (.int .i64 E) w.heap.size (by simp)).trans hv2
    refine leaves_cons (f := 59) (args := #[.pointer (some ⟨w.heap.size + 1, 0, none⟩), .pointer (some ⟨w.heap.size, 0, none⟩)]) (by simp [settle]) (by simp [go_sem]) ?_
    refine (wd1_err _ _ E v2 hnE _ _ e3 n3).mono ?_
    rintro e u' w'' ⟨rfl, rfl, rfl⟩
    have n4 := cell_one (set_one n3 (.int .i64 0))
    have e4 := cell_one ((Below.heap_setCell (w2.setCell ⟨w.heap.size + 1, 0, none⟩ (.int .i64 E)) ⟨w.heap.size, 0, none⟩ (.int .i64 0) (w.heap.size + 1) (by simp)).trans e3)
    simp [Leaves, settle, results, Tryd.results25, go_sem, n4, e4]
    exact hfin.out
  · have c0 := cell_one hc
    have f0 := frozen_one hc 0
    have c1 := cell_one he2
    have f1 := frozen_one he2 0
    have hfin : Hid (WdTop l t w (.returned (.tuple #[.int .i64 (countW (upTo t l)), .int .i64 0])) ((w2.setCell ⟨w.heap.size, 0, none⟩ (.int .i64 (countW (upTo t l)))).setCell ⟨w.heap.size + 1, 0, none⟩ (.int .i64 0))) := by
      refine ⟨(hB2.setCell (p := ⟨w.heap.size, 0, none⟩) (Nat.le_refl _) _).setCell (p := ⟨w.heap.size + 1, 0, none⟩) (by simp) _, ?_⟩
      rw [if_pos hn, hn]
    have n3 := (Below.heap_setCell (w2.setCell ⟨w.heap.size, 0, none⟩ (.int .i64 (countW (upTo t l)))) ⟨w.heap.size + 1, 0, none⟩ (.int .i64 0) w.heap.size (by simp)).trans (set_one hc (.int .i64 (countW (upTo t l))))
    have e3 := set_one ((Below.heap_setCell w2 ⟨w.heap.size, 0, none⟩ (.int .i64 (countW (upTo t l))) (w.heap.size + 1) (by simp)).trans he2) (.int .i64 0)
    clear hn hn0 he0 ho
    go_wp2
    refine leaves_cons (f := 47) (args := #[.pointer (some ⟨w.heap.size + 1, 0, none⟩)]) (by simp) (by simp [go_sem]) ?_
    refine (caught_ret _ _).mono ?_
    rintro e u' w'' ⟨rfl, rfl, rfl⟩
    refine leaves_cons (f := 59) (args := #[.pointer (some ⟨w.heap.size + 1, 0, none⟩), .pointer (some ⟨w.heap.size, 0, none⟩)]) (by simp [settle]) (by simp [go_sem]) ?_
    refine (wd1_zero _ _ _ _ e3).mono ?_
    rintro e u' w'' ⟨rfl, rfl, rfl⟩
    simp [Leaves, settle, results, Tryd.results25, go_sem, cell_one n3, cell_one e3]
    exact hfin.out
end Go.Proofs.YtneanannicacnaaDoor
