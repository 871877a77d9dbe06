/- Package display: the map of kinds; a change is examined. -/
import Derived.Test.YtneanannicacnaaDoorDisp1
import Derived.Laws.EntriesVeiled
namespace Go.Proofs.YtneanannicacnaaDoor
open Go.RowKit Go.Han

structure Change where
  at_ : Int
  kind : Int
  spot : Spot
def Change.cells (x : Change) : List Value := [.int .i64 x.at_, .int .i64 x.kind, .int .i64 x.spot.id, .int .i64 x.spot.ver, .string x.spot.text]
def Change.val (x : Change) : Value := .agg #[.int .i64 x.at_, .int .i64 x.kind, .int .i64 x.spot.id, .int .i64 x.spot.ver, .string x.spot.text]
theorem Change.size_cells (x : Change) : x.cells.length = 5 := rfl

def fv (f : Nat) : Value := .func (.func f) #[] #[]
def kEs : Array MapEntry := #[⟨.int .i64 1, .agg #[fv 79, fv 80], 0⟩, ⟨.int .i64 2, .agg #[fv 82, fv 83], 1⟩, ⟨.int .i64 3, .agg #[fv 85, fv 86], 2⟩]
/-- Block g is the map of kinds. -/
def KMap (w : World) (g : Nat) : Prop := w.heap[g]? = some (.map kEs 3)
theorem KMap.ext {w w' : World} {g : Nat} (h : KMap w g) (hb : Below w.heap.size w w') : KMap w' g := (hb.block g (lt_block h)).trans h

theorem kinds_any (w : World) : Calls Tryd.prog 49 #[] w fun e w' => e = .returned (.map (some w.heap.size)) ∧ w.alloc (.map kEs 3) = w' := by
  have hmm := @run_makeMap Tryd.prog
  have hk1 : ∀ (W : World) (v : Value), (Instr.mapUpdate 73 (.map (some W.heap.size)) (.int .i64 1) v).run Tryd.prog (W.alloc (.map #[] 0)) = .ok () (W.alloc (.map #[⟨.int .i64 1, v, 0⟩] 1)) := fun W v => by
    rw [run_mapUpdate_new 1 v Tryd.underlying73 Tryd.underlying3 (World.alloc_heap_new _ _) rfl, putObj_alloc]; rfl
  have hk2 : ∀ (W : World) (u v : Value), (Instr.mapUpdate 73 (.map (some W.heap.size)) (.int .i64 2) v).run Tryd.prog (W.alloc (.map #[⟨.int .i64 1, u, 0⟩] 1)) = .ok () (W.alloc (.map #[⟨.int .i64 1, u, 0⟩, ⟨.int .i64 2, v, 1⟩] 2)) := fun W u v => by
    rw [run_mapUpdate_new 2 v Tryd.underlying73 Tryd.underlying3 (World.alloc_heap_new _ _) rfl, putObj_alloc]; rfl
  have hk3 : ∀ (W : World) (u x v : Value), (Instr.mapUpdate 73 (.map (some W.heap.size)) (.int .i64 3) v).run Tryd.prog (W.alloc (.map #[⟨.int .i64 1, u, 0⟩, ⟨.int .i64 2, x, 1⟩] 2)) = .ok () (W.alloc (.map #[⟨.int .i64 1, u, 0⟩, ⟨.int .i64 2, x, 1⟩, ⟨.int .i64 3, v, 2⟩] 3)) := fun W u x v => by
    rw [run_mapUpdate_new 3 v Tryd.underlying73 Tryd.underlying3 (World.alloc_heap_new _ _) rfl, putObj_alloc]; rfl
  go_enter Tryd.func49, Tryd.ntmps49
  go_wp2
  go_ret
  exact ⟨rfl, rfl⟩

def kindB (n : Int) : Bool := decide (1 ≤ n) && decide (n ≤ 3)
def Change.ok (c : Change) : Bool := kindB c.kind && timeB c.at_ && c.spot.ok
/-- What the map of kinds has at a number. -/
def kVal (a b : Nat) : Value := .agg #[fv a, fv b]
theorem kinds_look (n : Int) {W : World} {g : Nat} (h : KMap W g) (ok : Bool) :
    (n = 1 ∧ (Instr.lookup 73 (.map (some g)) (.int .i64 1) ok).run Tryd.prog W = .ok (if ok then .tuple #[kVal 79 80, .bool true] else kVal 79 80) W) ∨
    (n = 2 ∧ (Instr.lookup 73 (.map (some g)) (.int .i64 2) ok).run Tryd.prog W = .ok (if ok then .tuple #[kVal 82 83, .bool true] else kVal 82 83) W) ∨
    (n = 3 ∧ (Instr.lookup 73 (.map (some g)) (.int .i64 3) ok).run Tryd.prog W = .ok (if ok then .tuple #[kVal 85 86, .bool true] else kVal 85 86) W) ∨
    (kindB n = false ∧ (Instr.lookup 73 (.map (some g)) (.int .i64 n) ok).run Tryd.prog W = .ok (if ok then .tuple #[.agg #[.nilFunc, .nilFunc], .bool false] else .agg #[.nilFunc, .nilFunc]) W) := by
  have key := @run_lookup_int Tryd.prog W g 3 kEs 73 3 109 .i64
  by_cases h1 : n = 1
  · exact .inl ⟨h1, key 1 Tryd.underlying73 Tryd.underlying3 h (i := 0) rfl ok⟩
  by_cases h2 : n = 2
  · exact .inr (.inl ⟨h2, key 2 Tryd.underlying73 Tryd.underlying3 h (i := 1) rfl ok⟩)
  by_cases h3 : n = 3
  · exact .inr (.inr (.inl ⟨h3, key 3 Tryd.underlying73 Tryd.underlying3 h (i := 2) rfl ok⟩))
  refine .inr (.inr (.inr ⟨?_, ?_⟩))
  · unfold kindB
    by_cases h : 1 ≤ n
    · have : ¬ n ≤ 3 := by omega
      simp [this]
    · simp [h]
  · refine run_lookup_none n _ Tryd.underlying73 Tryd.underlying3 (fun _ => by kernel_rfl) h ?_ ok
    have e1 : (n == 1) = false := by simpa using h1
    have e2 : (n == 2) = false := by simpa using h2
    have e3 : (n == 3) = false := by simpa using h3
    simp [kEs, Instr.findNow, Instr.sameNow, e1, e2, e3]

set_option maxRecDepth 100000 in
set_option maxHeartbeats 800000 in
theorem examine_any (c : Change) (g : Nat) (w : World) (hT : Tabs w) (hg : KMap w g) :
    Calls Tryd.prog 50 #[c.val, .map (some g)] w (NeedPost (if c.ok then 0 else 490) w) := by
  obtain ⟨t, k, ⟨i, v, s⟩⟩ := c
  obtain ⟨n, hn⟩ : ∃ n : Int, n = (if Change.ok ⟨t, k, ⟨i, v, s⟩⟩ then 0 else 490) := ⟨_, rfl⟩
  rw [← hn]
  unfold Change.ok at hn
  simp only at hn
  obtain ⟨W1, hW1⟩ : ∃ W1, w.alloc (.cells #[.int .i64 t, .int .i64 k, .int .i64 i, .int .i64 v, .string s] 26) = W1 := ⟨_, rfl⟩
  have hB1 : Below w.heap.size w W1 := by rw [← hW1]; exact (Below.refl _ _).alloc (Nat.le_refl _) _
  have hz1 : W1.heap.size = w.heap.size + 1 := by rw [← hW1]; simp
  have hg1 := hg.ext hB1
  have hT1 := utf_ext hT hB1
  have c0 : W1.cell? ⟨w.heap.size, 0, none⟩ = some (.int .i64 t) := by rw [← hW1]; simp [go_sem]
  have c1 : W1.cell? ⟨w.heap.size, 1, none⟩ = some (.int .i64 k) := by rw [← hW1]; simp [go_sem]
  have c2 : W1.cell? ⟨w.heap.size, 2, none⟩ = some (.int .i64 i) := by rw [← hW1]; simp [go_sem]
  have c3 : W1.cell? ⟨w.heap.size, 3, none⟩ = some (.int .i64 v) := by rw [← hW1]; simp [go_sem]
  have c4 : W1.cell? ⟨w.heap.size, 4, none⟩ = some (.string s) := by rw [← hW1]; simp [go_sem]
  have hlt : w.heap.size < W1.heap.size := by omega
  clear hz1
  unfold Change.val
  have Hn : Hid (∀ b, b = kindB k → n = (if (b && timeB t && Spot.ok ⟨i, v, s⟩) = true then 0 else 490)) := fun b hb => by subst hb; exact hn
  clear hn
  rcases kinds_look k hg1 true with ⟨rfl, hl⟩ | ⟨rfl, hl⟩ | ⟨rfl, hl⟩ | ⟨hk, hl⟩
  all_goals simp only [if_true, kVal, fv] at hl
  case inl | inr.inl | inr.inr.inl =>
    have Hn1 := Lib.hid (Hn.out true rfl)
    clear Hn
    go_enter Tryd.func50, Tryd.ntmps50
    go_wp2_with fail
    refine (time_any _ _).mono ?_
    rintro e w' ⟨rfl, rfl⟩
    generalize timeB t = b1 at *
    cases b1
    · go_wp2_with fail
      refine (need_f _ _ _ rfl).mono ?_
      rintro e w' ⟨rfl, rfl⟩
      have h5 := Hn1.out
      simp at h5
      exact ⟨rfl, ext_alloc hB1 _, .inr ⟨by omega, by rw [h5]⟩⟩
    · go_wp2_with fail
      refine (right_any ⟨i, v, s⟩ _ (by exact utf_ext hT1 ((Below.refl _ W1).alloc (Nat.le_refl _) _))).mono ?_
      rintro e w2 ⟨rfl, hb2⟩
      have hB2 := ext_trans (ext_alloc hB1 _) hb2
      generalize Spot.ok ⟨i, v, s⟩ = b2 at *
      cases b2
      · go_wp2_with fail
        refine (need_f _ _ _ rfl).mono ?_
        rintro e w' ⟨rfl, rfl⟩
        have h5 := Hn1.out
        simp at h5
        exact ⟨rfl, hB2, .inr ⟨by omega, by rw [h5]⟩⟩
      · go_wp2_with fail
        refine (need_t _ _ _ rfl).mono ?_
        rintro e w' ⟨rfl, rfl⟩
        have h5 := Hn1.out
        simp at h5
        have H5 := Lib.hid h5
        clear h5
        go_wp2
        go_end0
        exact ⟨hB2, .inl ⟨H5.out, rfl⟩⟩
  case inr.inr.inr =>
    have h5 := Hn.out false hk.symm
    simp at h5
    have H5 := Lib.hid h5
    clear h5 Hn hk
    go_enter Tryd.func50, Tryd.ntmps50
    go_wp2_with fail
    refine (need_f _ _ _ rfl).mono ?_
    rintro e w' ⟨rfl, rfl⟩
    have h5 := H5.out
    exact ⟨rfl, ext_alloc hB1 _, .inr ⟨by omega, by rw [h5]⟩⟩
end Go.Proofs.YtneanannicacnaaDoor
