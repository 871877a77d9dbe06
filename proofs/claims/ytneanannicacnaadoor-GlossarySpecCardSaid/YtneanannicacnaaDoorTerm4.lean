/- The check of a term, in the package and in the reference. -/
import Derived.Test.YtneanannicacnaaDoorTerm3
import Derived.Test.YtneanannicacnaaDoorGen
namespace Go.Proofs.YtneanannicacnaaDoor
open Go.RowKit Go.Han
attribute [local irreducible] wpStill wpQuiet
set_option maxRecDepth 100000

set_option maxHeartbeats 1000000 in
theorem rightT_any (x : Term) (w : World) (hT : Tabs w) (hx : x.lies w) : Calls Tryd.prog 62 #[x.val] w fun e w' => e = .returned (.bool x.ok) ∧ Below w.heap.size w w' := by
  obtain ⟨no, at_, known, lang, ⟨sA, sc, sx⟩, ⟨tA, tc, tx⟩, cat, gone⟩ := x
  have Hok : Hid (Term.ok ⟨no, at_, known, lang, ⟨sA, sc, sx⟩, ⟨tA, tc, tx⟩, cat, gone⟩ = (noB no && tmB at_ && tmB known && langB lang && phraseB sx && (if gone then decide (tx.length = 0) && decide (cat.size = 0) else phraseB tx && nameB cat))) := rfl
  have hv : Term.val ⟨no, at_, known, lang, ⟨sA, sc, sx⟩, ⟨tA, tc, tx⟩, cat, gone⟩ = .agg #[.int .i64 no, .int .i64 at_, .int .i64 known, .int .i64 lang, .slice sA sx.length sc, .slice tA tx.length tc, .string cat, .bool gone] := rfl
  obtain ⟨ok, hok⟩ : ∃ ok, Term.ok ⟨no, at_, known, lang, ⟨sA, sc, sx⟩, ⟨tA, tc, tx⟩, cat, gone⟩ = ok := ⟨_, rfl⟩
  rw [hok] at Hok ⊢
  rw [hv]
  obtain ⟨W0, hW0⟩ : ∃ W0, w.alloc (.cells #[.int .i64 no, .int .i64 at_, .int .i64 known, .int .i64 lang, .slice sA sx.length sc, .slice tA tx.length tc, .string cat, .bool gone] 51) = W0 := ⟨_, rfl⟩
  have hB0 : Below w.heap.size w W0 := by rw [← hW0]; exact ext_alloc (Below.refl _ _) _
  have hz0 : W0.heap.size = w.heap.size + 1 := by rw [← hW0]; simp
  have hk : Hid (∀ W, Below W0.heap.size W0 W → W.cell? ⟨w.heap.size, 0, none⟩ = some (.int .i64 no) ∧ W.cell? ⟨w.heap.size, 1, none⟩ = some (.int .i64 at_) ∧ W.cell? ⟨w.heap.size, 2, none⟩ = some (.int .i64 known) ∧ W.cell? ⟨w.heap.size, 3, none⟩ = some (.int .i64 lang) ∧ W.cell? ⟨w.heap.size, 4, none⟩ = some (.slice sA sx.length sc) ∧ W.cell? ⟨w.heap.size, 5, none⟩ = some (.slice tA tx.length tc) ∧ W.cell? ⟨w.heap.size, 6, none⟩ = some (.string cat) ∧ W.cell? ⟨w.heap.size, 7, none⟩ = some (.bool gone)) := by
    intro W hb
    have h0 : W0.heap[w.heap.size]? = some (.cells #[.int .i64 no, .int .i64 at_, .int .i64 known, .int .i64 lang, .slice sA sx.length sc, .slice tA tx.length tc, .string cat, .bool gone] 51 (0, 0)) := by rw [← hW0]; exact World.alloc_heap_new _ _
    have h1 := (hb.block _ (by omega)).trans h0
    exact ⟨gblk h1 0, gblk h1 1, gblk h1 2, gblk h1 3, gblk h1 4, gblk h1 5, gblk h1 6, gblk h1 7⟩
  have cS : Hid (∀ W, Below W0.heap.size W0 W → Calls Tryd.prog 95 #[.slice sA sx.length sc] W fun e w' => e = .returned (.bool (phraseB sx)) ∧ Below W.heap.size W w') := fun W hb => phrase_any ⟨sA, sc, sx⟩ W (utf_ext hT (ext_trans hB0 hb)) (hx.1.ext (ext_trans hB0 hb))
  have cT : Hid (∀ W, Below W0.heap.size W0 W → Calls Tryd.prog 95 #[.slice tA tx.length tc] W fun e w' => e = .returned (.bool (phraseB tx)) ∧ Below W.heap.size W w') := fun W hb => phrase_any ⟨tA, tc, tx⟩ W (utf_ext hT (ext_trans hB0 hb)) (hx.2.ext (ext_trans hB0 hb))
  have htl : tx.length ≤ 9223372036854775807 := Nat.le_trans hx.2.cap hx.2.max
  clear hok hv hx
  by_cases n0 : no < 0
  · have H : Hid (ok = false) := by show _ = _; rw [Hok.out]; unfold noB; rw [decide_eq_false (show ¬ 0 ≤ no by omega)]; rfl
    go_enter Tryd.func62, Tryd.ntmps62
    obtain ⟨d0, d1, d2, d3, d4, d5, d6, d7⟩ := hk.out W0 (Below.refl _ _)
    go_wp2_with fail
    go_ret
    exact ⟨by rw [H.out]; rfl, hB0⟩
  by_cases n1 : 1048576 < no
  · have H : Hid (ok = false) := by show _ = _; rw [Hok.out]; unfold noB; rw [decide_eq_false (show ¬ no ≤ 1048576 by omega), Bool.and_false]; rfl
    go_enter Tryd.func62, Tryd.ntmps62
    obtain ⟨d0, d1, d2, d3, d4, d5, d6, d7⟩ := hk.out W0 (Below.refl _ _)
    go_wp2_with fail
    go_ret
    exact ⟨by rw [H.out]; rfl, hB0⟩
  have hno : noB no = true := by unfold noB; rw [decide_eq_true (show 0 ≤ no by omega), decide_eq_true (show no ≤ 1048576 by omega)]; rfl
  rw [hno] at Hok
  clear hno
  have c1 := Lib.hid (fun w => isTime_any at_ w)
  have c2 := Lib.hid (fun w => isTime_any known w)
  have c3 := Lib.hid (fun w => isLang_any lang w)
  generalize tmB at_ = b1 at *
  generalize tmB known = b2 at *
  generalize langB lang = b3 at *
  generalize phraseB sx = b4 at *
  go_enter Tryd.func62, Tryd.ntmps62
  obtain ⟨d0, d1, d2, d3, d4, d5, d6, d7⟩ := hk.out W0 (Below.refl _ _)
  go_wp2_with fail
  refine (c1.out _).mono ?_
  rintro e w' ⟨rfl, rfl⟩
  cases b1
  · have H : Hid (ok = false) := by show _ = _; rw [Hok.out]; simp
    go_wp2_with fail
    go_ret
    exact ⟨by rw [H.out]; rfl, hB0⟩
  go_wp2_with fail
  refine (c2.out _).mono ?_
  rintro e w' ⟨rfl, rfl⟩
  cases b2
  · have H : Hid (ok = false) := by show _ = _; rw [Hok.out]; simp
    go_wp2_with fail
    go_ret
    exact ⟨by rw [H.out]; rfl, hB0⟩
  go_wp2_with fail
  refine (c3.out _).mono ?_
  rintro e w' ⟨rfl, rfl⟩
  cases b3
  · have H : Hid (ok = false) := by show _ = _; rw [Hok.out]; simp
    go_wp2_with fail
    go_ret
    exact ⟨by rw [H.out]; rfl, hB0⟩
  go_wp2_with fail
  refine (cS.out _ (Below.refl _ _)).mono ?_
  rintro e w1 ⟨rfl, hb1⟩
  have hB1 := ext_trans hB0 hb1
  clear d0 d1 d2 d3 d4 d5 d6 d7
  obtain ⟨d0, d1, d2, d3, d4, d5, d6, d7⟩ := hk.out w1 hb1
  cases b4
  · have H : Hid (ok = false) := by show _ = _; rw [Hok.out]; simp
    go_wp2_with fail
    go_ret
    exact ⟨by rw [H.out]; rfl, hB1⟩
  cases gone
  · have H : Hid (ok = (phraseB tx && nameB cat)) := by show _ = _; rw [Hok.out]; simp
    have cN := Lib.hid (fun w => name_any cat w)
    generalize phraseB tx = b5 at *
    generalize nameB cat = b6 at *
    clear Hok
    go_wp2_with fail
    refine (cT.out w1 hb1).mono ?_
    rintro e w2 ⟨rfl, hb2⟩
    have hB2 := ext_trans hB1 hb2
    clear d0 d1 d2 d3 d4 d5 d6 d7
    obtain ⟨d0, d1, d2, d3, d4, d5, d6, d7⟩ := hk.out w2 (ext_trans hb1 hb2)
    cases b5
    · go_wp2_with fail
      go_ret
      exact ⟨by rw [H.out]; rfl, hB2⟩
    · go_wp2_with fail
      refine (cN.out w2).mono ?_
      rintro e w' ⟨rfl, rfl⟩
      go_wp2_with fail
      go_ret
      exact ⟨by rw [H.out]; rfl, hB2⟩
  · have H : Hid (ok = (decide (tx.length = 0) && decide (cat.size = 0))) := by show _ = _; rw [Hok.out]; simp
    clear Hok
    by_cases h1 : tx.length = 0
    · have g1 : ((tx.length : Int) == 0) = true := by simp [h1]
      by_cases h2 : 0 < cat.size
      · have g2 := str_ne h2
        have H2 : Hid (ok = false) := by show _ = _; rw [H.out, decide_eq_false (show ¬ cat.size = 0 by omega), Bool.and_false]
        clear h1
        go_wp2_with fail
        go_ret
        exact ⟨by rw [H2.out]; rfl, hB1⟩
      · have g2 := str_no h2
        have H2 : Hid (ok = true) := by show _ = _; rw [H.out, decide_eq_true h1, decide_eq_true (show cat.size = 0 by omega)]; rfl
        clear h1
        go_wp2_with fail
        go_ret
        exact ⟨by rw [H2.out]; rfl, hB1⟩
    · have g1 : ((tx.length : Int) == 0) = false := beq_eq_false_iff_ne.2 (by omega)
      have H2 : Hid (ok = false) := by show _ = _; rw [H.out, decide_eq_false h1]; rfl
      clear h1
      go_wp2_with fail
      go_ret
      exact ⟨by rw [H2.out]; rfl, hB1⟩
set_option maxHeartbeats 1000000 in
theorem rightT27_any (x : Term) (w : World) (hx : x.lies w) : Calls Tryd.prog 68 #[x.val] w fun e w' => e = .returned (.bool x.ok) ∧ Below w.heap.size w w' := by
  obtain ⟨no, at_, known, lang, ⟨sA, sc, sx⟩, ⟨tA, tc, tx⟩, cat, gone⟩ := x
  have Hok : Hid (Term.ok ⟨no, at_, known, lang, ⟨sA, sc, sx⟩, ⟨tA, tc, tx⟩, cat, gone⟩ = (noB no && tmB at_ && tmB known && langB lang && phraseB sx && (if gone then decide (tx.length = 0) && decide (cat.size = 0) else phraseB tx && nameB cat))) := rfl
  have hv : Term.val ⟨no, at_, known, lang, ⟨sA, sc, sx⟩, ⟨tA, tc, tx⟩, cat, gone⟩ = .agg #[.int .i64 no, .int .i64 at_, .int .i64 known, .int .i64 lang, .slice sA sx.length sc, .slice tA tx.length tc, .string cat, .bool gone] := rfl
  obtain ⟨ok, hok⟩ : ∃ ok, Term.ok ⟨no, at_, known, lang, ⟨sA, sc, sx⟩, ⟨tA, tc, tx⟩, cat, gone⟩ = ok := ⟨_, rfl⟩
  rw [hok] at Hok ⊢
  rw [hv]
  obtain ⟨W0, hW0⟩ : ∃ W0, w.alloc (.cells #[.int .i64 no, .int .i64 at_, .int .i64 known, .int .i64 lang, .slice sA sx.length sc, .slice tA tx.length tc, .string cat, .bool gone] 51) = W0 := ⟨_, rfl⟩
  have hB0 : Below w.heap.size w W0 := by rw [← hW0]; exact ext_alloc (Below.refl _ _) _
  have hz0 : W0.heap.size = w.heap.size + 1 := by rw [← hW0]; simp
  have hk : Hid (∀ W, Below W0.heap.size W0 W → W.cell? ⟨w.heap.size, 0, none⟩ = some (.int .i64 no) ∧ W.cell? ⟨w.heap.size, 1, none⟩ = some (.int .i64 at_) ∧ W.cell? ⟨w.heap.size, 2, none⟩ = some (.int .i64 known) ∧ W.cell? ⟨w.heap.size, 3, none⟩ = some (.int .i64 lang) ∧ W.cell? ⟨w.heap.size, 4, none⟩ = some (.slice sA sx.length sc) ∧ W.cell? ⟨w.heap.size, 5, none⟩ = some (.slice tA tx.length tc) ∧ W.cell? ⟨w.heap.size, 6, none⟩ = some (.string cat) ∧ W.cell? ⟨w.heap.size, 7, none⟩ = some (.bool gone)) := by
    intro W hb
    have h0 : W0.heap[w.heap.size]? = some (.cells #[.int .i64 no, .int .i64 at_, .int .i64 known, .int .i64 lang, .slice sA sx.length sc, .slice tA tx.length tc, .string cat, .bool gone] 51 (0, 0)) := by rw [← hW0]; exact World.alloc_heap_new _ _
    have h1 := (hb.block _ (by omega)).trans h0
    exact ⟨gblk h1 0, gblk h1 1, gblk h1 2, gblk h1 3, gblk h1 4, gblk h1 5, gblk h1 6, gblk h1 7⟩
  have cS : Hid (∀ W, Below W0.heap.size W0 W → Calls Tryd.prog 100 #[.slice sA sx.length sc] W fun e w' => e = .returned (.bool (phraseB sx)) ∧ Below W.heap.size W w') := fun W hb => words_any ⟨sA, sc, sx⟩ W (hx.1.ext (ext_trans hB0 hb))
  have cT : Hid (∀ W, Below W0.heap.size W0 W → Calls Tryd.prog 100 #[.slice tA tx.length tc] W fun e w' => e = .returned (.bool (phraseB tx)) ∧ Below W.heap.size W w') := fun W hb => words_any ⟨tA, tc, tx⟩ W (hx.2.ext (ext_trans hB0 hb))
  have htl : tx.length ≤ 9223372036854775807 := Nat.le_trans hx.2.cap hx.2.max
  clear hok hv hx
  by_cases n0 : no < 0
  · have H : Hid (ok = false) := by show _ = _; rw [Hok.out]; unfold noB; rw [decide_eq_false (show ¬ 0 ≤ no by omega)]; rfl
    go_enter Tryd.func68, Tryd.ntmps68
    obtain ⟨d0, d1, d2, d3, d4, d5, d6, d7⟩ := hk.out W0 (Below.refl _ _)
    go_wp2_with fail
    go_ret
    exact ⟨by rw [H.out]; rfl, hB0⟩
  by_cases n1 : 1048576 < no
  · have H : Hid (ok = false) := by show _ = _; rw [Hok.out]; unfold noB; rw [decide_eq_false (show ¬ no ≤ 1048576 by omega), Bool.and_false]; rfl
    go_enter Tryd.func68, Tryd.ntmps68
    obtain ⟨d0, d1, d2, d3, d4, d5, d6, d7⟩ := hk.out W0 (Below.refl _ _)
    go_wp2_with fail
    go_ret
    exact ⟨by rw [H.out]; rfl, hB0⟩
  have hno : noB no = true := by unfold noB; rw [decide_eq_true (show 0 ≤ no by omega), decide_eq_true (show no ≤ 1048576 by omega)]; rfl
  rw [hno] at Hok
  clear hno
  have c1 := Lib.hid (fun w => time27_any at_ w)
  have c2 := Lib.hid (fun w => time27_any known w)
  have c3 := Lib.hid (fun w => language27_any lang w)
  generalize tmB at_ = b1 at *
  generalize tmB known = b2 at *
  generalize langB lang = b3 at *
  generalize phraseB sx = b4 at *
  go_enter Tryd.func68, Tryd.ntmps68
  obtain ⟨d0, d1, d2, d3, d4, d5, d6, d7⟩ := hk.out W0 (Below.refl _ _)
  go_wp2_with fail
  refine (c1.out _).mono ?_
  rintro e w' ⟨rfl, rfl⟩
  cases b1
  · have H : Hid (ok = false) := by show _ = _; rw [Hok.out]; simp
    go_wp2_with fail
    go_ret
    exact ⟨by rw [H.out]; rfl, hB0⟩
  go_wp2_with fail
  refine (c2.out _).mono ?_
  rintro e w' ⟨rfl, rfl⟩
  cases b2
  · have H : Hid (ok = false) := by show _ = _; rw [Hok.out]; simp
    go_wp2_with fail
    go_ret
    exact ⟨by rw [H.out]; rfl, hB0⟩
  go_wp2_with fail
  refine (c3.out _).mono ?_
  rintro e w' ⟨rfl, rfl⟩
  cases b3
  · have H : Hid (ok = false) := by show _ = _; rw [Hok.out]; simp
    go_wp2_with fail
    go_ret
    exact ⟨by rw [H.out]; rfl, hB0⟩
  go_wp2_with fail
  refine (cS.out _ (Below.refl _ _)).mono ?_
  rintro e w1 ⟨rfl, hb1⟩
  have hB1 := ext_trans hB0 hb1
  clear d0 d1 d2 d3 d4 d5 d6 d7
  obtain ⟨d0, d1, d2, d3, d4, d5, d6, d7⟩ := hk.out w1 hb1
  cases b4
  · have H : Hid (ok = false) := by show _ = _; rw [Hok.out]; simp
    go_wp2_with fail
    go_ret
    exact ⟨by rw [H.out]; rfl, hB1⟩
  cases gone
  · have H : Hid (ok = (phraseB tx && nameB cat)) := by show _ = _; rw [Hok.out]; simp
    have cN := Lib.hid (fun w => name3_any cat w)
    generalize phraseB tx = b5 at *
    generalize nameB cat = b6 at *
    clear Hok
    go_wp2_with fail
    refine (cT.out w1 hb1).mono ?_
    rintro e w2 ⟨rfl, hb2⟩
    have hB2 := ext_trans hB1 hb2
    clear d0 d1 d2 d3 d4 d5 d6 d7
    obtain ⟨d0, d1, d2, d3, d4, d5, d6, d7⟩ := hk.out w2 (ext_trans hb1 hb2)
    cases b5
    · go_wp2_with fail
      go_ret
      exact ⟨by rw [H.out]; rfl, hB2⟩
    · go_wp2_with fail
      refine (cN.out w2).mono ?_
      rintro e w' ⟨rfl, rfl⟩
      go_wp2_with fail
      go_ret
      exact ⟨by rw [H.out]; rfl, hB2⟩
  · have H : Hid (ok = (decide (tx.length = 0) && decide (cat.size = 0))) := by show _ = _; rw [Hok.out]; simp
    clear Hok
    by_cases h1 : tx.length = 0
    · have g1 : ((tx.length : Int) == 0) = true := by simp [h1]
      by_cases h2 : 0 < cat.size
      · have g2 := str_ne h2
        have H2 : Hid (ok = false) := by show _ = _; rw [H.out, decide_eq_false (show ¬ cat.size = 0 by omega), Bool.and_false]
        clear h1
        go_wp2_with fail
        go_ret
        exact ⟨by rw [H2.out]; rfl, hB1⟩
      · have g2 := str_no h2
        have H2 : Hid (ok = true) := by show _ = _; rw [H.out, decide_eq_true h1, decide_eq_true (show cat.size = 0 by omega)]; rfl
        clear h1
        go_wp2_with fail
        go_ret
        exact ⟨by rw [H2.out]; rfl, hB1⟩
    · have g1 : ((tx.length : Int) == 0) = false := beq_eq_false_iff_ne.2 (by omega)
      have H2 : Hid (ok = false) := by show _ = _; rw [H.out, decide_eq_false h1]; rfl
      clear h1
      go_wp2_with fail
      go_ret
      exact ⟨by rw [H2.out]; rfl, hB1⟩
end Go.Proofs.YtneanannicacnaaDoor
