/- package text: the code points of a string: the function that recovers. -/
import Derived.Test.YtneanannicacnaaDoorPoints
import Derived.Test.YtneanannicacnaaDoorCollect
namespace Go.Proofs.YtneanannicacnaaDoor
open Go.RowKit Go.Han

theorem runes1_ret (b1 b2 : Nat) (w : World) :
    CallsD Tryd.prog 133 #[.pointer (some ⟨b1, 0, none⟩), .pointer (some ⟨b2, 0, none⟩)] .returning w fun e u' w' => u' = .returning ∧ e = .returned (.tuple #[]) ∧ w' = w := by
  refine callsD_of_wpS Tryd.func133 rfl fun c₀ cs hu => ?_
  simp only [Tryd.ntmps133, List.size_toArray, List.length_cons, List.length_nil, Nat.reduceAdd, Nat.reduceSub, Array.replicate_succ, Array.replicate_zero, List.push_toArray, List.append_toArray, List.nil_append, List.cons_append]
  apply wpS_seq
  apply wpS_region
  simp [wpOpsS, go_sem, recoverD, hu, Exit.thenS]
  refine wpS_of_wp ?_
  go_wp2
  cases c₀
  simp_all [bodyPostS, results, Tryd.results133]

def RecPost (b1 b2 : Nat) (u : FrameMode) (w : World) (e : Ending) (u' : FrameMode) (w' : World) : Prop :=
  u' = u ∧ e = .returned (.tuple #[]) ∧ Only (fun k => k = b1 ∨ k = b2) w w' ∧ w'.heap[b1]? = some (.cells #[.slice none 0 0] 126 (0, 0)) ∧ w'.heap[b2]? = some (.cells #[.int .i64 90] 29 (0, 0))
set_option maxRecDepth 100000 in
set_option maxHeartbeats 400000 in
theorem runes1_pan (b1 b2 : Nat) (v1 v2 : Value) (w : World) (h1 : w.heap[b1]? = some (.cells #[v1] 126 (0, 0))) (h2 : w.heap[b2]? = some (.cells #[v2] 29 (0, 0))) :
    CallsD Tryd.prog 133 #[.pointer (some ⟨b1, 0, none⟩), .pointer (some ⟨b2, 0, none⟩)] (.panicking [{ v := .iface 154 (.agg #[]), recovered := false }]) w (RecPost b1 b2 (.panicking [{ v := .iface 154 (.agg #[]), recovered := true }]) w) := by
  have hne : b1 ≠ b2 := by
    rintro rfl
    rw [h1] at h2; simp at h2
  have c1 := cell_one h1
  have c2 := cell_one h2
  have f1 := frozen_one h1 0
  have f2 := frozen_one h2 0
  have hta : ∀ w, (Instr.typeAssert (.iface 154 (.agg #[])) 20 154 true).run Tryd.prog w = .ok (.tuple #[.agg #[], .bool true]) w := fun _ => by kernel_rfl
  have l1 := lt_block h1
  have l2 := lt_block h2
  refine callsD_of_wpS Tryd.func133 rfl fun c₀ cs hu => ?_
  simp only [Tryd.ntmps133, List.size_toArray, List.length_cons, List.length_nil, Nat.reduceAdd, Nat.reduceSub, Array.replicate_succ, Array.replicate_zero, List.push_toArray, List.append_toArray, List.nil_append, List.cons_append]
  apply wpS_seq
  apply wpS_region
  simp [wpOpsS, go_sem, recoverD, hu, Exit.thenS]
  refine wpS_of_wp ?_
  go_wp2
  have hb1 := (Below.heap_setCell (w.setCell ⟨b1, 0, none⟩ (.slice none 0 0)) ⟨b2, 0, none⟩ (.int .i64 90) b1 hne).trans (set_one h1 (.slice none 0 0))
  have hb2 := set_one (w := w.setCell ⟨b1, 0, none⟩ (.slice none 0 0)) ((Below.heap_setCell w ⟨b1, 0, none⟩ (.slice none 0 0) b2 hne.symm).trans h2) (.int .i64 90)
  exact ⟨rfl, _, rfl, _, results_none rfl _ _ _, rfl, rfl, (((Only.refl (fun k => k = b1 ∨ k = b2) w).setCell (p := ⟨b1, 0, none⟩) (.inl (.inl rfl)) _).setCell (p := ⟨b2, 0, none⟩) (.inl (.inr rfl)) _).alloc _,
    (Below.heap_alloc _ _ _ (lt_block hb1)).trans hb1, (Below.heap_alloc _ _ _ (lt_block hb2)).trans hb2⟩

def RunesPost (s : ByteArray) (w : World) (e : Ending) (w' : World) : Prop :=
  Below w.heap.size w w' ∧
    ((s.size > 4096 ∧ e = .returned (.tuple #[.slice none 0 0, .int .i64 2])) ∨
     (s.size ≤ 4096 ∧ (runes s.data.toList).2 = false ∧ e = .returned (.tuple #[.slice none 0 0, .int .i64 90])) ∨
     (s.size ≤ 4096 ∧ (runes s.data.toList).2 = true ∧ ∃ A c, e = .returned (.tuple #[.slice A (runes s.data.toList).1.length c, .int .i64 0]) ∧ Rd w' A ((runes s.data.toList).1.map fun r : Nat => .int .i64 (r : Int))))

theorem points_any (s : ByteArray) (w : World) : Calls Tryd.prog 135 #[.string s] w fun e w' =>
    e = .returned (.func (.func 147) #[] #[.pointer (some ⟨w.heap.size, 0, none⟩)]) ∧ w.alloc (.cells #[.string s] 9) = w' := by
  have hmf : ∀ (fn : Fn) (first cap : Array Value) (w : World), (Instr.makeFunc fn first cap).run Tryd.prog w = .ok (.func fn first cap) w := fun _ _ _ _ => rfl
  go_enter Tryd.func135, Tryd.ntmps135
  go_wp2
  go_ret
  exact ⟨rfl, rfl⟩

set_option maxRecDepth 100000 in
set_option maxHeartbeats 400000 in
theorem runes_any (s : ByteArray) (w : World) (hT : Tabs w) : Calls Tryd.prog 121 #[.string s] w (RunesPost s w) := by
  have hmf : ∀ (fn : Fn) (first cap : Array Value) (w : World), (Instr.makeFunc fn first cap).run Tryd.prog w = .ok (.func fn first cap) w := fun _ _ _ _ => rfl
  by_cases hs : s.size ≤ 4096
  · have h1 : ¬ (4096 : Int) < (s.size : Int) := by omega
    go_enter_defers Tryd.func121, Tryd.ntmps121
    go_wp2_with fail
    refine (points_any _ _).mono ?_
    rintro e w1 ⟨rfl, rfl⟩
    go_wp2_with fail
    have hb0 : ((w.alloc (.cells #[.slice none 0 0] 126)).alloc (.cells #[.int .i64 0] 29)).heap[w.heap.size]? = some (.cells #[.slice none 0 0] 126 (0, 0)) := (Below.heap_alloc _ _ _ (by simp)).trans (World.alloc_heap_new _ _)
    have hb1 : ((w.alloc (.cells #[.slice none 0 0] 126)).alloc (.cells #[.int .i64 0] 29)).heap[w.heap.size + 1]? = some (.cells #[.int .i64 0] 29 (0, 0)) := by
      have := World.alloc_heap_new (w.alloc (.cells #[.slice none 0 0] 126)) (.cells #[.int .i64 0] 29); rwa [World.size_alloc] at this
    obtain ⟨W2, hW2⟩ : ∃ W2, (w.alloc (.cells #[.slice none 0 0] 126)).alloc (.cells #[.int .i64 0] 29) = W2 := ⟨_, rfl⟩
    have hB2 : Below w.heap.size w W2 := by rw [← hW2]; exact ((Below.refl _ _).alloc (Nat.le_refl _) _).alloc (by simp) _
    have hz2 : W2.heap.size = w.heap.size + 2 := by rw [← hW2]; simp
    simp only [hW2] at hb0 hb1 ⊢
    have hT2 : Tabs W2 := utf_ext hT hB2
    have hit := points1 W2.heap.size s (W2.alloc (.cells #[.string s] 9)) (utf_ext hT2 ((Below.refl _ _).alloc (Nat.le_refl _) _)) (World.alloc_heap_new _ _)
    have hlt := utf_lt hT2
    rw [show w.heap.size + 1 + 1 = W2.heap.size by omega]
    have hrl := runes_length s.data.toList
    have hsz := Lib.size_eq s
    refine (collect_int _ _ _ _ _ _ _ _ _ hit (enters_of Tryd.func147 (by kernel_rfl) rfl) (fun k hk => ⟨?_, rfl⟩) (by omega)).mono ?_
    · rcases hk with rfl | hk
      · simp
      · have := hlt k hk; simp; omega
    rintro e w3 ⟨hon, h⟩
    have hB3 : Below w.heap.size w w3 := ⟨hon.os.trans hB2.os, hon.tape.trans hB2.tape, hon.output.trans hB2.output, Nat.le_trans hB2.size (Nat.le_trans (by simp) hon.size), fun k hk => (hon.block k (by simp; omega) (by omega)).trans ((Below.heap_alloc _ _ _ (by omega)).trans (hB2.block k hk))⟩
    have hb03 : w3.heap[w.heap.size]? = some (.cells #[.slice none 0 0] 126 (0, 0)) := (hon.block _ (by simp; omega) (by omega)).trans ((Below.heap_alloc _ _ _ (by omega)).trans hb0)
    have hb13 : w3.heap[w.heap.size + 1]? = some (.cells #[.int .i64 0] 29 (0, 0)) := (hon.block _ (by simp; omega) (by omega)).trans ((Below.heap_alloc _ _ _ (by omega)).trans hb1)
    clear hW2 hit
    rcases h with ⟨hpn, v, he, hrow⟩ | ⟨ch, hpn, he⟩
    · have c0 := cell_one hb03
      have c1 := cell_one hb13
      have f0 := frozen_one hb03 0
      have f1 := frozen_one hb13 0
      have hsz3 := lt_block hb13
      have hok : (runes s.data.toList).2 = true := by
        unfold runesEnd at hpn
        split at hpn
        · assumption
        · cases hpn
      have hsl := SlOf.of_own hrow
      obtain ⟨A, c, rfl, hn, hm, hl2, hrd⟩ := hsl
      subst he
      clear hl2 hn hm hb0 hb1 hlt hrl hsz hpn hsz3 hon hT2 hB2
      rw [List.length_map]
      go_wp2
      refine leaves_cons (f := 133) (args := #[.pointer (some ⟨w.heap.size, 0, none⟩), .pointer (some ⟨w.heap.size + 1, 0, none⟩)]) (by simp) (by simp [go_sem]) ?_
      refine (runes1_ret _ _ _).mono ?_
      rintro e u' w'' ⟨rfl, rfl, rfl⟩
      simp [Leaves, settle, results, Tryd.results121, go_sem, c0, c1]
      have hB4 : Below w.heap.size w ((w3.setCell ⟨w.heap.size, 0, none⟩ (.slice A (runes s.data.toList).1.length c)).setCell ⟨w.heap.size + 1, 0, none⟩ (.int .i64 0)) := (hB3.setCell (p := ⟨w.heap.size, 0, none⟩) (Nat.le_refl _) _).setCell (p := ⟨w.heap.size + 1, 0, none⟩) (by simp) _
      refine ⟨hB4, .inr (.inr ⟨hs, hok, A, c, rfl, ?_⟩)⟩
      refine hrd.block (by simp [World.setCell]) fun a ha => ?_
      subst ha
      have hage := hrow.lt a.block rfl
      simp at hage
      rw [Below.heap_setCell _ _ _ _ (by simp; omega), Below.heap_setCell _ _ _ _ (by simp; omega)]
    · subst he
      have hok : (runes s.data.toList).2 = false ∧ ch = wrongChain := by
        unfold runesEnd at hpn
        split at hpn
        · cases hpn
        · rename_i hf
          exact ⟨by simpa using hf, by injection hpn with h; exact h.symm⟩
      obtain ⟨hok, rfl⟩ := hok
      refine leaves_cons (f := 133) (args := #[.pointer (some ⟨w.heap.size, 0, none⟩), .pointer (some ⟨w.heap.size + 1, 0, none⟩)]) (by simp) (by simp [go_sem]) ?_
      refine (runes1_pan _ _ _ _ _ hb03 hb13).mono ?_
      rintro e u' w'' ⟨rfl, rfl, hon4, hx0, hx1⟩
      simp [Leaves, settle, results, Tryd.results121, go_sem, cell_one hx0, cell_one hx1]
      exact ⟨⟨hon4.os.trans hB3.os, hon4.tape.trans hB3.tape, hon4.output.trans hB3.output, Nat.le_trans hB3.size hon4.size, fun k hk => (hon4.block k (Nat.lt_of_lt_of_le hk hB3.size) (by omega)).trans (hB3.block k hk)⟩, .inr (.inl ⟨hs, hok, rfl⟩)⟩
  · have h1 : (4096 : Int) < (s.size : Int) := by omega
    go_enter_defers Tryd.func121, Tryd.ntmps121
    go_wp2_with fail
    refine leaves_cons (f := 133) (args := #[.pointer (some ⟨w.heap.size, 0, none⟩), .pointer (some ⟨w.heap.size + 1, 0, none⟩)]) (by simp) (by simp [go_sem]) ?_
    refine (runes1_ret _ _ _).mono ?_
    rintro e u' w'' ⟨rfl, rfl, rfl⟩
    simp [Leaves, settle, results, Tryd.results121, go_sem]
    refine ⟨((Below.refl _ _).alloc (Nat.le_refl _) _).alloc (by simp) _, .inl ⟨by omega, rfl⟩⟩
end Go.Proofs.YtneanannicacnaaDoor
