/- Package house: Add, walked. -/
import Derived.Test.YtmindojbkedmlaaAddH
namespace Go.Proofs.Ytmindojbkedmlaa
open Go.RowKit Go.Han
attribute [local irreducible] wpStill wpQuiet
set_option maxRecDepth 100000

theorem insH_ne {w : World} {base vb : Nat} {v : Value} {l : List House} (h : OwnH w base v l) (hv : vb = w.heap.size ∨ vb < base) : v.ownBlock ≠ some vb := by
  intro e
  have := h.lt vb e
  omega
/-- Clone, in the midst of a region: the box of x is where it was. -/
def CloneHIn (l : List House) (x : House) (b : Nat) (w3 W : World) (e : Ending) (w' : World) : Prop := ∃ v', e = .returned v' ∧ OwnH w' W.heap.size v' l ∧ Below W.heap.size W w' ∧ Below w3.heap.size w3 w' ∧ w'.cell? ⟨b, 0, none⟩ = some (.int .i64 x.no) ∧ w'.cell? ⟨b, 1, none⟩ = some (.int .i64 x.kind) ∧ w'.cell? ⟨b, 2, none⟩ = some (.int .i64 x.speaker) ∧ w'.cell? ⟨b, 3, none⟩ = some (.int .i64 x.first) ∧ w'.cell? ⟨b, 4, none⟩ = some (.int .i64 x.last) ∧ w'.cell? ⟨b, 5, none⟩ = some (.int .i64 x.lang) ∧ w'.cell? ⟨b, 6, none⟩ = some (.int .i64 x.frm) ∧ w'.cell? ⟨b, 7, none⟩ = some (.int .i64 x.until_) ∧ w'.cell? ⟨b, 8, none⟩ = some (.int .i64 x.known) ∧ w'.cell? ⟨b, 9, none⟩ = some (.int .i64 x.ms)
set_option maxHeartbeats 4000000 in
theorem AddHouse_any (A : Option Addr) (cp : Nat) (l : List House) (x : House) (w : World) (hr : Rd w A (hflat l)) (hm : l.length ≤ 9223372036854775807) :
    Calls Try.prog 28 #[.slice A l.length cp, .agg #[.int .i64 x.no, .int .i64 x.kind, .int .i64 x.speaker, .int .i64 x.first, .int .i64 x.last, .int .i64 x.lang, .int .i64 x.frm, .int .i64 x.until_, .int .i64 x.known, .int .i64 x.ms]] w (AddHPost l x w) := by
  obtain ⟨W0, hW0⟩ : ∃ W0, w.alloc (.cells #[.int .i64 x.no, .int .i64 x.kind, .int .i64 x.speaker, .int .i64 x.first, .int .i64 x.last, .int .i64 x.lang, .int .i64 x.frm, .int .i64 x.until_, .int .i64 x.known, .int .i64 x.ms] 52) = W0 := ⟨_, rfl⟩
  have hB0 : Below w.heap.size w W0 := by rw [← hW0]; exact ext_alloc (Below.refl _ _) _
  have hz0 : W0.heap.size = w.heap.size + 1 := by rw [← hW0]; simp
  have hk : Hid (∀ W, Below W0.heap.size W0 W → W.cell? ⟨w.heap.size, 0, none⟩ = some (.int .i64 x.no) ∧ W.cell? ⟨w.heap.size, 1, none⟩ = some (.int .i64 x.kind) ∧ W.cell? ⟨w.heap.size, 2, none⟩ = some (.int .i64 x.speaker) ∧ W.cell? ⟨w.heap.size, 3, none⟩ = some (.int .i64 x.first) ∧ W.cell? ⟨w.heap.size, 4, none⟩ = some (.int .i64 x.last) ∧ W.cell? ⟨w.heap.size, 5, none⟩ = some (.int .i64 x.lang) ∧ W.cell? ⟨w.heap.size, 6, none⟩ = some (.int .i64 x.frm) ∧ W.cell? ⟨w.heap.size, 7, none⟩ = some (.int .i64 x.until_) ∧ W.cell? ⟨w.heap.size, 8, none⟩ = some (.int .i64 x.known) ∧ W.cell? ⟨w.heap.size, 9, none⟩ = some (.int .i64 x.ms)) := by
    intro W hb
    have h0 : W0.heap[w.heap.size]? = some (.cells #[.int .i64 x.no, .int .i64 x.kind, .int .i64 x.speaker, .int .i64 x.first, .int .i64 x.last, .int .i64 x.lang, .int .i64 x.frm, .int .i64 x.until_, .int .i64 x.known, .int .i64 x.ms] 52 (0, 0)) := by rw [← hW0]; exact World.alloc_heap_new _ _
    have h1 := (hb.block _ (by omega)).trans h0
    exact ⟨gblk h1 0, gblk h1 1, gblk h1 2, gblk h1 3, gblk h1 4, gblk h1 5, gblk h1 6, gblk h1 7, gblk h1 8, gblk h1 9⟩
  have cC := Lib.hid (fun W (hb : Below w.heap.size w W) => CheckH_any A cp l W (hr.ext hb) hm)
  have cR := Lib.hid (fun W (hb : Below w.heap.size w W) => rightH_any x W)
  have Hr := Lib.hid hr
  have hA : A = none → l = [] := fun e => by
    rcases hr with h | ⟨b, off, he, _, _⟩
    · cases l with
      | nil => rfl
      | cons y t => simp [hflat, House.cells] at h
    · rw [e] at he; cases he
  have HA := Lib.hid hA
  have HE : Hid (addHE l x = if hchk l ≠ 0 then hchk l else if x.ok = false then 350 else if hasH x.no l = true then 181 else if l.length = 1024 then 2 else 0) := rfl
  clear hr hA
  go_enter Try.func28, Try.ntmps28
  go_wp2_with fail
  refine (cC.out W0 hB0).mono ?_
  rintro e w1 ⟨rfl, hb1⟩
  have hB1 := ext_trans hB0 hb1
  by_cases hc : hchk l = 0
  · have HC := Lib.hid hc
    obtain ⟨hl, hasc0⟩ := hchk_ok hc
    have hasc : AscH l := (ascH_iff l).2 (asc_hasc hasc0)
    rw [hc]
    clear hc hasc0
    obtain ⟨d0, d1, d2, d3, d4, d5, d6, d7, d8, d9⟩ := hk.out w1 hb1
    go_wp2_with fail
    refine (cR.out w1 hB1).mono ?_
    rintro e w2 ⟨rfl, hb2⟩
    have hB2 := ext_trans hB1 hb2
    have hb02 := ext_trans hb1 hb2
    clear d0 d1 d2 d3 d4 d5 d6 d7 d8 d9
    obtain ⟨d0, d1, d2, d3, d4, d5, d6, d7, d8, d9⟩ := hk.out w2 hb02
    cases hok : x.ok
    · have HF : Hid (addHE l x = 350) := by show _ = _; rw [HE.out, HC.out, hok]; rfl
      clear hok
      go_wp2_with fail
      go_ret2
      exact ⟨hB2, .inl ⟨by rw [HF.out]; decide, by rw [HF.out]; rfl⟩⟩
    · have Hok := Lib.hid hok
      have cS := searchH_any x.no A cp l w2 (Hr.out.ext hB2) (by omega) hasc
      unfold numFnH at cS
      have CS := Lib.hid cS
      have Hasc := Lib.hid hasc
      clear hok cS hasc
      go_wp2_with fail
      refine CS.out.mono ?_
      rintro e w3 ⟨hb3, k, hcut, rfl⟩
      have hB3 := ext_trans hB2 hb3
      have hb03 := ext_trans hb02 hb3
      have hkp := cutH_pos hcut
      have hkl := hcut.le
      rw [headH_has hcut Hasc.out]
      clear d0 d1 d2 d3 d4 d5 d6 d7 d8 d9 hcut
      obtain ⟨d0, d1, d2, d3, d4, d5, d6, d7, d8, d9⟩ := hk.out w3 hb03
      cases hh : hasH x.no l
      · by_cases h1024 : l.length = 1024
        · have HF : Hid (addHE l x = 2) := by show _ = _; rw [HE.out, HC.out, Hok.out, hh, if_pos h1024]; rfl
          have g1 : ((l.length : Int) == 1024) = true := by simp [h1024]
          clear hh hkp hkl h1024 hl
          go_wp2_with fail
          go_ret2
          exact ⟨hB3, .inl ⟨by rw [HF.out]; decide, by rw [HF.out]; rfl⟩⟩
        · have HF : Hid (addHE l x = 0) := by show _ = _; rw [HE.out, HC.out, Hok.out, hh, if_neg h1024]; rfl
          have g1 : ((l.length : Int) == 1024) = false := beq_eq_false_iff_ne.2 (by omega)
          have cK : Hid (∀ W, Below w3.heap.size w3 W → Calls Try.prog 68 #[.slice A l.length cp] W (CloneHIn l x w.heap.size w3 W)) := by
            intro W hb
            refine (cloneH_any A cp l W (Hr.out.ext (ext_trans hB3 hb)) HA.out (by omega)).mono ?_
            rintro e w4 ⟨v4, rfl, hown4, hb4⟩
            obtain ⟨h0, h1, h2, h3, h4, h5, h6, h7, h8, h9⟩ := hk.out w4 (ext_trans hb03 (ext_trans hb hb4))
            exact ⟨v4, rfl, hown4, hb4, ext_trans hb hb4, h0, h1, h2, h3, h4, h5, h6, h7, h8, h9⟩
          have Hkp := Lib.hid hkp
          clear hh hkp
          go_wp2_with fail
          have hl6 : l.length ≤ 1000000 := by omega
          go_region_with (first | (go_at_call 68; refine (cK.out _ ?_).mono ?_; (repeat (first | exact Below.refl _ _ | refine ext_drew ?_ | refine ext_alloc ?_ _)); rintro e w4 ⟨v4, rfl, hown4, hb4, hb34, q0, q1, q2, q3, q4, q5, q6, q7, q8, q9⟩) | (go_at_call 67; refine (insH_any _ _ k v4 l x _ (OwnL.ext hown4 ?_) hkl ?_ (insH_ne hown4 ?_) hl6 ?_).mono ?_; (repeat (first | (with_reducible exact Below.refl _ _) | (with_reducible refine ext_drew ?_) | (with_reducible refine ext_alloc ?_ _))); (first | exact World.alloc_heap_new _ _ | exact (hb4.block _ (by simp)).trans (World.alloc_heap_new _ _)); (first | exact .inl rfl | exact .inr (by simp)); (first | exact hb4.size | exact Nat.le_trans hb4.size (by simp)); rintro e w5 ⟨v5, rfl, hown5, hg5⟩))
          all_goals
            have hal : l.take k ++ x :: l.drop k = addH l x := by rw [Hkp.out]; rfl
            rw [hal] at hown5
            have hB35 : Below w3.heap.size w3 w5 := by
              refine Below.grown ?_ hg5 ?_ (fun j hj => by have h1 := (hown4.lt j hj).1; simp at h1; omega)
              · repeat (first | (with_reducible exact hb34) | (with_reducible refine ext_drew ?_) | (with_reducible refine ext_alloc ?_ _))
              · first | exact hb34.size | exact Nat.le_trans hb34.size (by simp)
            have hB5 := ext_trans hB3 hB35
            obtain ⟨A5, c5, rfl, hrd5, hn5⟩ := OwnL.form (by omega) hown5
            have hfin : Hid (AddHPost l x w (.returned (.tuple #[.slice A5 (addH l x).length c5, .int .i64 0])) w5) := by
              exact ⟨hB5, .inr ⟨HF.out, A5, c5, rfl, hrd5⟩⟩
            clear hown5 hg5 hown4 hb4 hb34 hrd5 hn5 q0 q1 q2 q3 q4 q5 q6 q7 q8 q9
            go_wp2
            go_ret2
            exact hfin.out
      · have HF : Hid (addHE l x = 181) := by show _ = _; rw [HE.out, HC.out, Hok.out, hh]; rfl
        clear hh hkp hkl
        go_wp2_with fail
        go_ret2
        exact ⟨hB3, .inl ⟨by rw [HF.out]; decide, by rw [HF.out]; rfl⟩⟩
  · have HF : Hid (addHE l x = hchk l) := by show _ = _; rw [HE.out, if_pos hc]
    have n1 : (hchk l == 0) = false := by simpa using hc
    have n2 : (hchk l != 0) = true := by simpa using hc
    have Hc := Lib.hid hc
    clear hc
    go_wp2_with fail
    go_ret2
    exact ⟨hB1, .inl ⟨by rw [HF.out]; exact Hc.out, by rw [HF.out]; rfl⟩⟩
end Go.Proofs.Ytmindojbkedmlaa
