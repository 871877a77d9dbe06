/- Package display: what is right, the check of a display, the function that recovers. -/
import Derived.Test.YtneanannicacnaaDoorWord
import Derived.Defers
namespace Go.Proofs.YtneanannicacnaaDoor
open Go.RowKit Go.Han

structure Spot where
  id : Int
  ver : Int
  text : ByteArray
  deriving DecidableEq
def Spot.cells (x : Spot) : List Value := [.int .i64 x.id, .int .i64 x.ver, .string x.text]
def Spot.val (x : Spot) : Value := .agg #[.int .i64 x.id, .int .i64 x.ver, .string x.text]
theorem Spot.size_cells (x : Spot) : x.cells.length = 3 := rfl

def idB (n : Int) : Bool := decide (0 ≤ n) && decide (n ≤ 1048576)
def timeB (n : Int) : Bool := decide (0 ≤ n) && decide (n < 1099511627776)
def Spot.ok (x : Spot) : Bool := idB x.id && idB x.ver && wordB x.text
def checkFrom : Int → List Spot → Bool
  | _, [] => true
  | last, x :: l => x.ok && decide (last < x.id) && checkFrom x.id l
def checkE (l : List Spot) : Int := if 1024 < l.length then 2 else if checkFrom (-1) l then 0 else 490

def errChain (n : Int) : List PanicEntry := [{ v := .iface 29 (.int .i64 n), recovered := false }]
/-- The call returns nothing (n is 0), or panics with the error n; nothing that was there has turned. -/
def NeedPost (n : Int) (w : World) (e : Ending) (w' : World) : Prop :=
  Below w.heap.size w w' ∧ ((n = 0 ∧ e = .returned (.tuple #[])) ∨ (n ≠ 0 ∧ e = .panicked (errChain n)))

theorem need_t (b : Bool) (k : Int) (w : World) (h : b = true) :
    Calls Tryd.prog 77 #[.bool b, .int .i64 k] w fun e w' => e = .returned (.tuple #[]) ∧ w = w' := by
  subst h
  go_enter Tryd.func77, Tryd.ntmps77
  go_wp2
  go_end0
  exact ⟨rfl, rfl⟩
theorem need_f (b : Bool) (k : Int) (w : World) (h : b = false) :
    Calls Tryd.prog 77 #[.bool b, .int .i64 k] w fun e w' => e = .panicked (errChain k) ∧ w = w' := by
  subst h
  go_enter Tryd.func77, Tryd.ntmps77
  go_wp2
  exact ⟨rfl, rfl, rfl⟩
theorem id_any (n : Int) (w : World) :
    Calls Tryd.prog 105 #[.int .i64 n] w fun e w' => e = .returned (.bool (idB n)) ∧ w = w' := by
  go_enter Tryd.func105, Tryd.ntmps105
  go_wp2
  all_goals go_ret
  · simp [idB, *]
  · have : ¬ 0 ≤ n := by omega
    simp [idB, *]
theorem time_any (n : Int) (w : World) :
    Calls Tryd.prog 87 #[.int .i64 n] w fun e w' => e = .returned (.bool (timeB n)) ∧ w = w' := by
  go_enter Tryd.func87, Tryd.ntmps87
  go_wp2
  all_goals go_ret
  · simp [timeB, *]
  · have : ¬ 0 ≤ n := by omega
    simp [timeB, *]
theorem right_any (x : Spot) (w : World) (hT : Tabs w) :
    Calls Tryd.prog 78 #[x.val] w fun e w' => e = .returned (.bool x.ok) ∧ Below w.heap.size w w' := by
  obtain ⟨i, v, s⟩ := x
  have hB : Below w.heap.size w (w.alloc (.cells #[.int .i64 i, .int .i64 v, .string s] 24)) := (Below.refl _ _).alloc (Nat.le_refl _) _
  have hT' := utf_ext hT hB
  have Hok : Hid (Spot.ok ⟨i, v, s⟩ = (idB i && idB v && wordB s)) := rfl
  unfold Spot.val
  go_enter Tryd.func78, Tryd.ntmps78
  go_wp2_with fail
  refine (id_any _ _).mono ?_
  rintro e w' ⟨rfl, rfl⟩
  generalize idB i = b1 at *
  cases b1
  · go_wp2
    go_ret
    exact ⟨by rw [Hok.out]; rfl, hB⟩
  go_wp2_with fail
  refine (id_any _ _).mono ?_
  rintro e w' ⟨rfl, rfl⟩
  generalize idB v = b2 at *
  cases b2
  · go_wp2
    go_ret
    exact ⟨by rw [Hok.out]; rfl, hB⟩
  go_wp2_with fail
  refine (word_any s _ hT').mono ?_
  rintro e w2 ⟨rfl, hb2⟩
  go_wp2
  go_ret
  exact ⟨by rw [Hok.out]; rfl, ext_trans hB hb2⟩

theorem checkFrom_drop (l : List Spot) (k : Nat) (h : k < l.length) (last : Int) :
    checkFrom last (l.drop k) = (l[k].ok && decide (last < l[k].id) && checkFrom l[k].id (l.drop (k + 1))) := by
  rw [List.drop_eq_getElem_cons h]; rfl

set_option maxRecDepth 100000 in
set_option maxHeartbeats 400000 in
theorem check_any (A : Option Addr) (c : Nat) (l : List Spot) (w : World) (hT : Tabs w) (hr : Rd w A (l.flatMap Spot.cells)) (hm : l.length ≤ 9223372036854775807) :
    Calls Tryd.prog 48 #[.slice A l.length c] w (NeedPost (checkE l) w) := by
  by_cases hl : l.length ≤ 1024
  · go_enter Tryd.func48, Tryd.ntmps48
    go_wp2_with fail
    refine (need_t _ _ _ (by simp; omega)).mono ?_
    rintro e w' ⟨rfl, rfl⟩
    go_wp2_with fail
    go_loopw [2, 11] (fun t i wr => ∃ (k : Nat) (last : Int), k ≤ l.length ∧ i = .int .i64 k ∧ t = .int .i64 last ∧ Below w.heap.size w wr ∧ Hid (checkFrom (-1) l = checkFrom last (l.drop k))) (fun _ i _ => l.length - (intOf i).toNat)
    case atStart => exact ⟨0, _, Nat.zero_le _, rfl, rfl, Below.refl _ _, rfl⟩
    case round =>
      obtain ⟨k, last, hk, rfl, rfl, hB, HR⟩ := hrel
      have hz := hB.size
      by_cases hlt : k < l.length
      · obtain ⟨b, off, rfl, hb, hc⟩ := hr.elem Spot.size_cells (by omega) hlt
        have h1 := (hB.cell (p := ⟨b, off + k * 3 + 0, none⟩) hb).trans (hc 0 _ rfl)
        have h2 := (hB.cell (p := ⟨b, off + k * 3 + 1, none⟩) hb).trans (hc 1 _ rfl)
        have h3 := (hB.cell (p := ⟨b, off + k * 3 + 2, none⟩) hb).trans (hc 2 _ rfl)
        have hT1 := utf_ext (utf_ext hT hB) ((Below.refl _ wr).alloc (Nat.le_refl _) (.cells #[.int .i64 l[k].id, .int .i64 l[k].ver, .string l[k].text] 24))
        have Hd := Lib.hid (checkFrom_drop l k hlt last)
        clear hc hr
        simp only [Nat.add_zero] at h1
        go_wp2_with fail
        refine (right_any l[k] _ hT1).mono ?_
        rintro e w1 ⟨rfl, hb1⟩
        obtain ⟨hc1, hf1⟩ := bcell hb1
        have hz1 := hb1.size
        have hB1 : Below w.heap.size w w1 := (hB.alloc hz _).trans (hb1.mono (by simp; omega))
        simp at hz1
        generalize hrb : l[k].ok = rb at *
        have Hrb := Lib.hid hrb; clear hrb
        have hfin : ∀ b : Bool, b = (rb && decide (last < l[k].id)) → checkE l = if b then (if checkFrom l[k].id (l.drop (k + 1)) then 0 else 490) else 490 := by
          rintro b rfl
          unfold checkE
          rw [if_neg (by omega), HR.out, Hd.out]
          cases rb <;> simp
          by_cases h : last < l[k].id <;> simp [h]
        have Hfin := Lib.hid hfin
        clear hfin
        cases rb
        · go_wp2_with fail
          refine (need_f _ _ _ rfl).mono ?_
          rintro e w' ⟨rfl, rfl⟩
          have h5 := Hfin.out false rfl
          simp at h5
          exact ⟨rfl, hB1, .inr ⟨by rw [h5]; decide, by rw [h5]⟩⟩
        · by_cases hlast : last < l[k].id
          · go_wp2_with fail
            refine (need_t _ _ _ (by simp)).mono ?_
            rintro e w' ⟨rfl, rfl⟩
            go_wp2
            go_roundw
            case rel => exact ⟨k + 1, l[k].id, by omega, by go_num, rfl, hB1, by show checkFrom (-1) l = _; rw [HR.out, Hd.out]; simp [hlast]⟩
            case measure => simp [intOf]; omega
          · go_wp2_with fail
            refine (need_f _ _ _ (by simp [hlast])).mono ?_
            rintro e w' ⟨rfl, rfl⟩
            have h5 := Hfin.out false (by simp [hlast])
            simp at h5
            exact ⟨rfl, hB1, .inr ⟨by rw [h5]; decide, by rw [h5]⟩⟩
      · have hk' : k = l.length := by omega
        have h5 : Hid (checkE l = 0) := by
          unfold checkE
          rw [if_neg (by omega), HR.out, hk']; simp [checkFrom, Hid]
        clear hk' HR
        go_wp2
        go_end0
        exact ⟨hB, .inl ⟨h5.out, rfl⟩⟩
  · have h5 : checkE l = 2 := by unfold checkE; rw [if_pos (by omega)]
    go_enter Tryd.func48, Tryd.ntmps48
    have H5 := Lib.hid h5
    clear h5
    go_wp2_with fail
    refine (need_f _ _ _ (by simp; omega)).mono ?_
    rintro e w' ⟨rfl, rfl⟩
    exact ⟨rfl, Below.refl _ _, .inr ⟨by rw [H5.out]; decide, by rw [H5.out]⟩⟩

/-! ### caught: the deferred function -/
theorem caught_ret (b : Nat) (w : World) :
    CallsD Tryd.prog 47 #[.pointer (some ⟨b, 0, none⟩)] .returning w fun e u' w' => u' = .returning ∧ e = .returned (.tuple #[]) ∧ w' = w := by
  refine callsD_of_wpS Tryd.func47 rfl fun c₀ cs hu => ?_
  simp only [Tryd.ntmps47, List.size_toArray, List.length_cons, List.length_nil, Nat.reduceAdd, Nat.reduceSub, Array.replicate_succ, Array.replicate_zero, List.push_toArray, List.append_toArray, List.nil_append, List.cons_append]
  apply wpS_seq
  apply wpS_region
  simp [wpOpsS, go_sem, recoverD, hu, Exit.thenS]
  refine wpS_of_wp ?_
  go_wp2
  cases c₀
  simp_all [bodyPostS, results, Tryd.results47]

def CaughtPost (n : Int) (b : Nat) (w : World) (e : Ending) (u' : FrameMode) (w' : World) : Prop :=
  u' = .panicking [{ v := .iface 29 (.int .i64 n), recovered := true }] ∧ e = .returned (.tuple #[]) ∧ w' = w.setCell ⟨b, 0, none⟩ (.int .i64 n)
theorem caught_pan (b : Nat) (v : Value) (n : Int) (w : World) (h1 : w.heap[b]? = some (.cells #[v] 29 (0, 0))) :
    CallsD Tryd.prog 47 #[.pointer (some ⟨b, 0, none⟩)] (.panicking (errChain n)) w (CaughtPost n b w) := by
  have c1 := cell_one h1
  have f1 := frozen_one h1 0
  have hta : ∀ w, (Instr.typeAssert (.iface 29 (.int .i64 n)) 20 29 true).run Tryd.prog w = .ok (.tuple #[.int .i64 n, .bool true]) w := fun _ => by kernel_rfl
  unfold errChain
  refine callsD_of_wpS Tryd.func47 rfl fun c₀ cs hu => ?_
  simp only [Tryd.ntmps47, List.size_toArray, List.length_cons, List.length_nil, Nat.reduceAdd, Nat.reduceSub, Array.replicate_succ, Array.replicate_zero, List.push_toArray, List.append_toArray, List.nil_append, List.cons_append]
  apply wpS_seq
  apply wpS_region
  simp [wpOpsS, go_sem, recoverD, hu, Exit.thenS]
  refine wpS_of_wp ?_
  go_wp2
  exact ⟨rfl, _, rfl, _, results_none rfl _ _ _, rfl, rfl, rfl⟩

/-- The error of a display. -/
theorem Check_any (A : Option Addr) (c : Nat) (l : List Spot) (w : World) (hT : Tabs w) (hr : Rd w A (l.flatMap Spot.cells)) (hm : l.length ≤ 9223372036854775807) :
    Calls Tryd.prog 19 #[.slice A l.length c] w fun e w' => e = .returned (.int .i64 (checkE l)) ∧ Below w.heap.size w w' := by
  obtain ⟨W1, hW1⟩ : ∃ W1, w.alloc (.cells #[.int .i64 0] 29) = W1 := ⟨_, rfl⟩
  have hb0 : W1.heap[w.heap.size]? = some (.cells #[.int .i64 0] 29 (0, 0)) := by rw [← hW1]; exact World.alloc_heap_new _ _
  have hB1 : Below w.heap.size w W1 := by rw [← hW1]; exact (Below.refl _ _).alloc (Nat.le_refl _) _
  have hz1 : W1.heap.size = w.heap.size + 1 := by rw [← hW1]; simp
  go_enter_defers Tryd.func19, Tryd.ntmps19
  go_wp2_with fail
  refine (check_any A c l W1 (utf_ext hT hB1) (hr.ext hB1) hm).mono ?_
  rintro e w2 ⟨hb2, h⟩
  have hB2 := ext_trans hB1 hb2
  have hb02 : w2.heap[w.heap.size]? = _ := (hb2.block _ (by omega)).trans hb0
  clear hb0 hz1 hW1
  rcases h with ⟨hn, rfl⟩ | ⟨hn, rfl⟩
  · have c0 := cell_one hb02
    have f0 := frozen_one hb02 0
    have Hn := Lib.hid hn
    clear hn
    go_wp2
    refine leaves_cons (f := 47) (args := #[.pointer (some ⟨w.heap.size, 0, none⟩)]) (by simp) (by simp [go_sem]) ?_
    refine (caught_ret _ _).mono ?_
    rintro e u' w'' ⟨rfl, rfl, rfl⟩
    simp [Leaves, settle, results, Tryd.results19, go_sem, c0]
    refine ⟨by rw [Hn.out], hB2.setCell (p := ⟨w.heap.size, 0, none⟩) (Nat.le_refl _) _⟩
  · refine leaves_cons (f := 47) (args := #[.pointer (some ⟨w.heap.size, 0, none⟩)]) (by simp) (by simp [go_sem]) ?_
    refine (caught_pan _ _ _ _ hb02).mono ?_
    rintro e u' w'' ⟨rfl, rfl, rfl⟩
    simp [Leaves, settle, results, Tryd.results19, go_sem, cell_one hb02]
    exact hB2.setCell (p := ⟨w.heap.size, 0, none⟩) (Nat.le_refl _) _
end Go.Proofs.YtneanannicacnaaDoor
