/- Package display: perform. -/
import Derived.Test.YtneanannicacnaaDoorDisp5
namespace Go.Proofs.YtneanannicacnaaDoor
open Go.RowKit Go.Han
attribute [local irreducible] wpStill wpQuiet

theorem own_form {w : World} {base : Nat} {v : Value} {l : List Spot} (h : Own w base v l) : ∃ A c, v = .slice A l.length c ∧ Rd w A (flat l) ∧ (A = none → l = []) := by
  obtain ⟨A, c, rfl, _, _, hl, hr⟩ := SlOf.of_own h
  refine ⟨A, c, rfl, hr, ?_⟩
  rintro rfl
  rcases hr with h | ⟨b, off, h, _⟩
  · have := flat_length l
    rw [h] at this
    exact List.eq_nil_of_length_eq_zero (by simp at this; omega)
  · cases h

def PerfPost (base : Nat) (v : Value) (ok : Bool) (l' : List Spot) (w : World) (e : Ending) (w' : World) : Prop :=
  (ok = false ∧ e = .panicked (errChain 490) ∧ w.grownBy w' v.ownBlock) ∨ (ok = true ∧ 1024 < l'.length ∧ e = .panicked (errChain 2) ∧ w.grownBy w' v.ownBlock) ∨ (ok = true ∧ l'.length ≤ 1024 ∧ EditPost base v l' w e w')

theorem below_grownBy {w w' : World} (h : Below w.heap.size w w') (row : Option Nat) : w.grownBy w' row := ⟨h.os, h.tape, h.output, h.size, fun i hi _ => h.block i hi⟩

set_option maxRecDepth 100000 in
set_option maxHeartbeats 1000000 in
theorem perform_gen (base g f1 f2 : Nat) (v : Value) (l : List Spot) (c : Change) (tb : Nat → Bool → Bool) (ed : Nat → List Spot) (w : World) (hown : Own w base v l) (hs : Asc l) (hn : l.length ≤ 1024) (hbase : base ≤ w.heap.size) (hg : KMap w g)
    (hl : ∀ W, KMap W g → (Instr.lookup 73 (.map (some g)) (.int .i64 c.kind) false).run Tryd.prog W = .ok (.agg #[.func (.func f1) #[] #[], .func (.func f2) #[] #[]]) W)
    (e1 : ∀ args w, (callFunc f1 args).run Tryd.prog w = .ok (.enter f1 args) w) (e2 : ∀ args w, (callFunc f2 args).run Tryd.prog w = .ok (.enter f2 args) w)
    (htest : ∀ W k t, Own W base v l → (t = true → k < l.length) → Calls Tryd.prog f1 #[v, .int .i64 k, .bool t, c.spot.val] W (TestPost (tb k t) W))
    (hedit : ∀ W k t, Own W base v l → base ≤ W.heap.size → k ≤ l.length → (t = true → k < l.length) → tb k t = true → Calls Tryd.prog f2 #[v, .int .i64 k, c.spot.val] W (EditPost base v (ed k) W))
    (hel : ∀ k, (ed k).length ≤ l.length + 1) :
    Calls Tryd.prog 51 #[v, c.val, .map (some g)] w (fun e w' => ∃ k, Cut c.spot.id l k ∧ PerfPost base v (tb k (headB c.spot.id l k)) (ed k) w e w') := by
  obtain ⟨t, kd, ⟨i, vr, s⟩⟩ := c
  obtain ⟨A, cp, rfl, hr, hA⟩ := own_form hown
  obtain ⟨W1, hW1⟩ : ∃ W1, w.alloc (.cells #[.int .i64 t, .int .i64 kd, .int .i64 i, .int .i64 vr, .string s] 26) = W1 := ⟨_, rfl⟩
  have hB1 : Below w.heap.size w W1 := by rw [← hW1]; exact (Below.refl _ _).alloc (Nat.le_refl _) _
  have hz1 : W1.heap.size = w.heap.size + 1 := by rw [← hW1]; simp
  have c1 : W1.cell? ⟨w.heap.size, 1, none⟩ = some (.int .i64 kd) := by rw [← hW1]; simp [go_sem]
  have c2 : W1.cell? ⟨w.heap.size, 2, none⟩ = some (.int .i64 i) := by rw [← hW1]; simp [go_sem]
  have c3 : W1.cell? ⟨w.heap.size, 3, none⟩ = some (.int .i64 vr) := by rw [← hW1]; simp [go_sem]
  have c4 : W1.cell? ⟨w.heap.size, 4, none⟩ = some (.string s) := by rw [← hW1]; simp [go_sem]
  have hl1 := hl W1 (hg.ext hB1)
  obtain ⟨W2, hW2⟩ : ∃ W2, W1.alloc (.cells #[.func (.func f1) #[] #[], .func (.func f2) #[] #[]] 109) = W2 := ⟨_, rfl⟩
  have hb2 : Below W1.heap.size W1 W2 := by rw [← hW2]; exact (Below.refl _ _).alloc (Nat.le_refl _) _
  have hB2 : Below w.heap.size w W2 := ext_trans hB1 hb2
  have hz2 : W2.heap.size = w.heap.size + 2 := by rw [← hW2]; simp [hz1]
  obtain ⟨hc2, _⟩ := bcell hb2
  have d2 := (hc2 w.heap.size 2 (by omega)).trans c2
  have d3 := (hc2 w.heap.size 3 (by omega)).trans c3
  have d4 := (hc2 w.heap.size 4 (by omega)).trans c4
  have k0 : W2.cell? ⟨w.heap.size + 1, 0, none⟩ = some (.func (.func f1) #[] #[]) := by rw [← hW2, ← hz1]; simp [go_sem]
  have k1 : W2.cell? ⟨w.heap.size + 1, 1, none⟩ = some (.func (.func f2) #[] #[]) := by rw [← hW2, ← hz1]; simp [go_sem]
  clear c2 c3 c4 hc2
  unfold Change.val
  simp only [Spot.val] at hl1 htest hedit ⊢
  go_enter Tryd.func51, Tryd.ntmps51
  go_wp2_with fail
  refine (search_any i A cp l W2 (hr.ext hB2) (by omega) hs).mono ?_
  rintro e W3 ⟨hb3, k, hcut, he⟩
  have hB3 := ext_trans hB2 hb3
  obtain ⟨hc3, _⟩ := bcell hb3
  rw [← hc3 _ _ (by omega)] at d2 d3 d4 k0 k1
  have hz3 := hb3.size
  have hown3 := own_ext hown hB3
  have Hcut := Lib.hid hcut
  clear hc3 hcut
  have hth : headB i l k = true → k < l.length := by
    intro h
    unfold headB at h
    rcases Nat.lt_or_ge k l.length with h2 | h2
    · exact h2
    · rw [List.getElem?_eq_none h2] at h; cases h
  obtain ⟨th, hthe⟩ : ∃ th, headB i l k = th := ⟨_, rfl⟩
  rw [hthe] at hth he
  subst he
  have Hth := Lib.hid hthe
  clear hthe
  have Hl := Lib.hid hl
  clear hl hl1 hW1 hW2 c1
  have Htest := Lib.hid (htest W3 k th hown3 hth)
  have Hedit := Lib.hid hedit
  clear htest hedit
  obtain ⟨tv, htv⟩ : ∃ tv, tb k th = tv := ⟨_, rfl⟩
  rw [htv] at Htest
  go_wp2_with fail
  refine (Htest.out).mono ?_
  rintro e W4 ⟨rfl, hb4⟩
  have hB4 := ext_trans hB3 hb4
  obtain ⟨hc4, _⟩ := bcell hb4
  rw [← hc4 _ _ (by omega)] at d2 d3 d4 k0 k1
  have hz4 := hb4.size
  have hown4 := own_ext hown hB4
  clear hc4 Htest
  cases tv with
  | false =>
    go_wp2_with fail
    refine (need_f _ _ _ rfl).mono ?_
    rintro e w' ⟨rfl, rfl⟩
    exact ⟨rfl, k, Hcut.out, .inl ⟨by rw [Hth.out]; exact htv, rfl, below_grownBy hB4 _⟩⟩
  | true =>
    go_wp2_with fail
    refine (need_t _ _ _ rfl).mono ?_
    rintro e w' ⟨rfl, rfl⟩
    go_wp2_with fail
    refine (Hedit.out W4 k th hown4 (by omega) Hcut.out.le hth htv).mono ?_
    rintro e W5 ⟨v', rfl, hown5, hg5, hat5⟩
    obtain ⟨A', cp', rfl, hr5, _⟩ := own_form hown5
    have hgB := ext_grown hB4 hg5
    have hln := hel k
    by_cases hlen : (ed k).length ≤ 1024
    · go_wp2_with fail
      refine (need_t _ _ _ (by simp; omega)).mono ?_
      rintro e w' ⟨rfl, rfl⟩
      go_wp2
      go_ret
      refine ⟨k, Hcut.out, .inr (.inr ⟨by rw [Hth.out]; exact htv, hlen, _, rfl, hown5, hgB, ?_⟩)⟩
      rcases hat5 with h | ⟨j, h1, h2⟩
      · exact .inl h
      · exact .inr ⟨j, h1, by omega⟩
    · go_wp2_with fail
      refine (need_f _ _ _ (by simp; omega)).mono ?_
      rintro e w' ⟨rfl, rfl⟩
      exact ⟨rfl, k, Hcut.out, .inr (.inl ⟨by rw [Hth.out]; exact htv, by omega, rfl, hgB⟩)⟩
end Go.Proofs.YtneanannicacnaaDoor
