/- Laws 38: ReleasesMore. -/
import Derived.Test.YtmindojbkedmlaaLaw38b
import Derived.Test.YtmindojbkedmlaaSpa4
import Derived.Test.YtmindojbkedmlaaAddH2
namespace Go.Proofs.Ytmindojbkedmlaa
open Go.RowKit Go.Han
attribute [local irreducible] wpStill wpQuiet
set_option maxRecDepth 100000

theorem addHE_in {l : List House} {x : House} (h0 : hchk l = 0) (hx : x.ok = true) : addHE l x = 0 ∨ addHE l x = 181 ∨ addHE l x = 2 := by
  unfold addHE
  rw [if_neg (by simp [h0]), if_neg (by simp [hx])]
  split
  · exact .inr (.inl rfl)
  · split
    · exact .inr (.inr rfl)
    · exact .inl rfl
theorem kd5 {k : Int} (h : (k == 4) = true ∨ (k == 5) = true) : k = 4 ∨ k = 5 := by simpa using h
theorem kd0 {k : Int} (h : (k == 4) = false ∧ (k == 5) = false) : ¬ (k = 4 ∨ k = 5) := by simp at h; omega
set_option maxHeartbeats 16000000 in
theorem ReleasesMore_any (A : Option Addr) (c : Nat) (l : List House) (x : House) (s b g kn : Int) (w : World) (h : ArgsR w A l) :
    Calls Try.prog 8 #[.slice A l.length c, .agg #[.int .i64 x.no, .int .i64 x.kind, .int .i64 x.speaker, .int .i64 x.first, .int .i64 x.last, .int .i64 x.lang, .int .i64 x.frm, .int .i64 x.until_, .int .i64 x.known, .int .i64 x.ms], .int .i64 s, .int .i64 b, .int .i64 g, .int .i64 kn] w fun e w' => e = .returned (.bool true) ∧ Below w.heap.size w w' := by
  obtain ⟨W0, hW0, hBW, hx0, hz0⟩ := hou_new x w
  have HX : Hid (∀ W, Below W0.heap.size W0 W → HouAt x w.heap.size W) := fun W hW => hou_at ((hW.block _ (lt_block hx0)).trans hx0)
  have h0 := h.ext hBW
  have cS := Lib.hid (sane38_any W0)
  have cR := Lib.hid (fun W (hW : Below W0.heap.size W0 W) => right38_any A c l s b g kn W (h0.ext hW).hr h0.hm)
  have cX := Lib.hid (fun W (_ : Below W0.heap.size W0 W) => right35_any x W)
  have cA := Lib.hid (fun W (hW : Below W0.heap.size W0 W) => AddHouse_any A c l x W (h0.ext hW).hr h0.hm)
  have HW0 := Lib.hid hW0
  clear hW0 hx0 hz0 h
  cases hrt : (fewHB l.length && (relE l s b g kn == 0))
  · rw [hrt] at cR
    clear hrt
    go_enter Try.func8, Try.ntmps8
    go_wp2_with fail
    rw [HW0.out]
    refine cS.out.mono ?_
    rintro e w1 ⟨rfl, hb1⟩
    clear cS
    go_wp2_with fail
    refine (cR.out w1 hb1).mono ?_
    rintro e w2 ⟨rfl, hb2⟩
    have hB2 := ext_trans hb1 hb2
    clear cR hb1 hb2
    go_wp2_with fail
    go_ret
    exact ⟨rfl, ext_trans hBW hB2⟩
  · have hre : relE l s b g kn = 0 := by simp only [Bool.and_eq_true, beq_iff_eq] at hrt; exact hrt.2
    rw [hrt] at cR
    have hok := rel_ok.1 hre
    clear hrt
    cases hxo : x.ok
    · rw [hxo] at cX
      clear hxo
      go_enter Try.func8, Try.ntmps8
      go_wp2_with fail
      rw [HW0.out]
      refine cS.out.mono ?_
      rintro e w1 ⟨rfl, hb1⟩
      clear cS
      go_wp2_with fail
      refine (cR.out w1 hb1).mono ?_
      rintro e w2 ⟨rfl, hb2⟩
      have hB2 := ext_trans hb1 hb2
      clear cR hb1 hb2
      obtain ⟨d0, d1, d2, d3, d4, d5, d6, d7, d8, d9⟩ := HX.out w2 hB2
      go_wp2_with fail
      refine (cX.out w2 hB2).mono ?_
      rintro e w3 ⟨rfl, hb3⟩
      have hB3 := ext_trans hB2 hb3
      clear cX hb3 hB2 d0 d1 d2 d3 d4 d5 d6 d7 d8 d9
      go_wp2_with fail
      go_ret
      exact ⟨rfl, ext_trans hBW hB3⟩
    · rw [hxo] at cX
      have hxk := House.ok_iff.1 hxo
      rcases addHE_in hok.chk hxo with hae | hae | hae
      · obtain ⟨_, _, hmc⟩ := addH_chk hae
        have hok2 : RelOk (addH l x) s b g kn := ⟨hmc, hok.s0, hok.s1, hok.b0, hok.b1, hok.g0, hok.g1, hok.k0, hok.k1⟩
        have hre2 := rel_ok.2 hok2
        have hml := (hchk_ok hmc).1
        have hll := (hchk_ok hok.chk).1
        have hX1 : spnR l s b g kn = spnL l s b g kn := by unfold spnR; rw [if_pos hre]
        have hX2 : spnR (addH l x) s b g kn = spnL (addH l x) s b g kn := by unfold spnR; rw [if_pos hre2]
        have c1 := fun W (hW : Below W0.heap.size W0 W) => Shows_any A c l s b g kn W (h0.ext hW).hr h0.hm
        have c2 := fun W A5 c5 (hW : Rd W A5 (hflat (addH l x))) => Shows_any A5 c5 (addH l x) s b g kn W hW (by omega)
        unfold ShowPost at c1 c2
        rw [hre, hX1] at c1
        rw [hre2, hX2] at c2
        have l1 : (spnL l s b g kn).length ≤ 4096 := Nat.le_trans (spansF_len _) (Nat.le_trans stpL_len (by omega))
        have l2 : (spnL (addH l x) s b g kn).length ≤ 4096 := Nat.le_trans (spansF_len _) (Nat.le_trans stpL_len (by omega))
        have k1 := (spnL_say l s b g kn).2
        have k2 := (spnL_say (addH l x) s b g kn).2
        have HOff : Hid (offB x s b g kn = true → spnL l s b g kn = spnL (addH l x) s b g kn) := fun ho => (spnL_off hxk ho).symm
        have HM : Hid (¬ (x.kind = 4 ∨ x.kind = 5) → ∀ z ∈ stL (bl (spnL (addH l x) s b g kn)) (bl (spnL l s b g kn)) false false, z.a = true → z.b = true) := fun hk => stL_within k2 k1 (spnL_more hok.hok hxk hk)
        have HF : Hid (x.kind = 4 ∨ x.kind = 5 → ∀ z ∈ stL (bl (spnL l s b g kn)) (bl (spnL (addH l x) s b g kn)) false false, z.a = true → z.b = true) := fun hk => stL_within k1 k2 (spnL_fewer hok.hok hxk hk)
        generalize spnL l s b g kn = X1 at *
        generalize spnL (addH l x) s b g kn = X2 at *
        have cA2 : Hid (∀ W (hW : Below W0.heap.size W0 W), Calls Try.prog 28 #[.slice A l.length c, .agg #[.int .i64 x.no, .int .i64 x.kind, .int .i64 x.speaker, .int .i64 x.first, .int .i64 x.last, .int .i64 x.lang, .int .i64 x.frm, .int .i64 x.until_, .int .i64 x.known, .int .i64 x.ms]] W fun e w' => ∃ A5 c5, e = .returned (.tuple #[.slice A5 (addH l x).length c5, .int .i64 0]) ∧ Rd w' A5 (hflat (addH l x)) ∧ Below W.heap.size W w') := fun W hW => by
          refine (cA.out W hW).mono ?_
          rintro e w' ⟨hb, ⟨hn, _⟩ | ⟨_, A5, c5, rfl, hrd⟩⟩
          · exact absurd hae hn
          · exact ⟨A5, c5, rfl, hrd, hb⟩
        have cA := cA2
        have C1 := Lib.hid c1
        have C2 := Lib.hid c2
        have K1 := Lib.hid k1
        have K2 := Lib.hid k2
        clear cA2 c1 c2 hae hmc hok2 hre2 hml hll hX1 hX2 hre hok hxo hxk k1 k2 h0
        generalize addH l x = M at *
        go_enter Try.func8, Try.ntmps8
        go_wp2_with fail
        rw [HW0.out]
        refine cS.out.mono ?_
        rintro e w1 ⟨rfl, hb1⟩
        clear cS
        go_wp2_with fail
        refine (cR.out w1 hb1).mono ?_
        rintro e w2 ⟨rfl, hb2⟩
        have hB2 := ext_trans hb1 hb2
        clear cR hb1 hb2
        obtain ⟨d0, d1, d2, d3, d4, d5, d6, d7, d8, d9⟩ := HX.out w2 hB2
        go_wp2_with fail
        refine (cX.out w2 hB2).mono ?_
        rintro e w3 ⟨rfl, hb3⟩
        have hB3 := ext_trans hB2 hb3
        clear cX hb3 hB2 d0 d1 d2 d3 d4 d5 d6 d7 d8 d9
        obtain ⟨d0, d1, d2, d3, d4, d5, d6, d7, d8, d9⟩ := HX.out w3 hB3
        go_wp2_with fail
        refine (cA.out w3 hB3).mono ?_
        rintro e w4 ⟨A5, c5, rfl, hr4, hb4⟩
        have hB4 := ext_trans hB3 hb4
        clear cA hb4 hB3 d0 d1 d2 d3 d4 d5 d6 d7 d8 d9
        go_wp2_with fail
        refine (C1.out w4 hB4).mono ?_
        rintro e w5 ⟨A6, c6, rfl, hr5, _, hb5⟩
        have hB5 := ext_trans hB4 hb5
        have cM := Lib.hid (C2.out w5 A5 c5 (hr4.ext hb5))
        clear C1 C2 hr4 hb5 hB4
        go_wp2_with fail
        refine cM.out.mono ?_
        rintro e w6 ⟨A7, c7, rfl, hr6, _, hb6⟩
        have hB6 := ext_trans hB5 hb6
        have hs1 : Hid ((SpS.mk A6 c6 X1).Ok w6) := ⟨hr5.ext hb6, K1.out, l1⟩
        have hs2 : Hid ((SpS.mk A7 c7 X2).Ok w6) := ⟨hr6, K2.out, l2⟩
        clear cM hr5 hr6 hb6 hB5 K1 K2 l1 l2
        obtain ⟨d0, d1, d2, d3, d4, d5, d6, d7, d8, d9⟩ := HX.out w6 hB6
        have hBE := ext_trans hBW hB6
        go_wp2_with fail
        all_goals first
          | (refine (sameSpans_any A6 A7 c6 c7 X1 X2 w6 hs1.out.rd hs2.out.rd (by have := hs1.out.len; simp only at this; omega)).mono ?_
             rintro e w7 ⟨rfl, hb7⟩
             have ho : offB x s b g kn = true := by
               unfold offB
               simp only [Bool.or_eq_true, Bool.and_eq_true, decide_eq_true_eq]
               omega
             have HQ : Hid (decide (X1 = X2) = true) := decide_eq_true (HOff.out ho)
             rw [HQ.out]
             clear ho HOff HM HF HX
             go_wp2_with fail
             go_ret
             exact ⟨rfl, ext_trans hBE hb7⟩)
          | (refine (Minus_any ⟨A6, c6, X1⟩ ⟨A7, c7, X2⟩ w6 hs1.out hs2.out (HF.out (by first | omega | exact kd5 ‹_›))).mono ?_
             rintro e w7 ⟨rfl, hb7⟩
             clear HOff HM HF HX
             go_wp2_with fail
             go_ret
             exact ⟨rfl, ext_trans hBE hb7⟩)
          | (refine (Minus_any ⟨A7, c7, X2⟩ ⟨A6, c6, X1⟩ w6 hs2.out hs1.out (HM.out (by first | omega | exact kd0 ‹_›))).mono ?_
             rintro e w7 ⟨rfl, hb7⟩
             clear HOff HM HF HX
             go_wp2_with fail
             go_ret
             exact ⟨rfl, ext_trans hBE hb7⟩)
      · have cA2 : Hid (∀ W (hW : Below W0.heap.size W0 W), Calls Try.prog 28 #[.slice A l.length c, .agg #[.int .i64 x.no, .int .i64 x.kind, .int .i64 x.speaker, .int .i64 x.first, .int .i64 x.last, .int .i64 x.lang, .int .i64 x.frm, .int .i64 x.until_, .int .i64 x.known, .int .i64 x.ms]] W fun e w' => e = .returned (.tuple #[.slice none 0 0, .int .i64 181]) ∧ Below W.heap.size W w') := fun W hW => by
          refine (cA.out W hW).mono ?_
          rintro e w' ⟨hb, ⟨_, rfl⟩ | ⟨hn, _⟩⟩
          · exact ⟨by rw [hae], hb⟩
          · rw [hae] at hn; cases hn
        have cA := cA2
        clear cA2 hae hre hok hxo hxk h0
        go_enter Try.func8, Try.ntmps8
        go_wp2_with fail
        rw [HW0.out]
        refine cS.out.mono ?_
        rintro e w1 ⟨rfl, hb1⟩
        clear cS
        go_wp2_with fail
        refine (cR.out w1 hb1).mono ?_
        rintro e w2 ⟨rfl, hb2⟩
        have hB2 := ext_trans hb1 hb2
        clear cR hb1 hb2
        obtain ⟨d0, d1, d2, d3, d4, d5, d6, d7, d8, d9⟩ := HX.out w2 hB2
        go_wp2_with fail
        refine (cX.out w2 hB2).mono ?_
        rintro e w3 ⟨rfl, hb3⟩
        have hB3 := ext_trans hB2 hb3
        clear cX hb3 hB2 d0 d1 d2 d3 d4 d5 d6 d7 d8 d9
        obtain ⟨d0, d1, d2, d3, d4, d5, d6, d7, d8, d9⟩ := HX.out w3 hB3
        go_wp2_with fail
        refine (cA.out w3 hB3).mono ?_
        rintro e w4 ⟨rfl, hb4⟩
        go_wp2_with fail
        go_ret
        exact ⟨rfl, ext_trans hBW (ext_trans hB3 hb4)⟩
      · have cA2 : Hid (∀ W (hW : Below W0.heap.size W0 W), Calls Try.prog 28 #[.slice A l.length c, .agg #[.int .i64 x.no, .int .i64 x.kind, .int .i64 x.speaker, .int .i64 x.first, .int .i64 x.last, .int .i64 x.lang, .int .i64 x.frm, .int .i64 x.until_, .int .i64 x.known, .int .i64 x.ms]] W fun e w' => e = .returned (.tuple #[.slice none 0 0, .int .i64 2]) ∧ Below W.heap.size W w') := fun W hW => by
          refine (cA.out W hW).mono ?_
          rintro e w' ⟨hb, ⟨_, rfl⟩ | ⟨hn, _⟩⟩
          · exact ⟨by rw [hae], hb⟩
          · rw [hae] at hn; cases hn
        have cA := cA2
        clear cA2 hae hre hok hxo hxk h0
        go_enter Try.func8, Try.ntmps8
        go_wp2_with fail
        rw [HW0.out]
        refine cS.out.mono ?_
        rintro e w1 ⟨rfl, hb1⟩
        clear cS
        go_wp2_with fail
        refine (cR.out w1 hb1).mono ?_
        rintro e w2 ⟨rfl, hb2⟩
        have hB2 := ext_trans hb1 hb2
        clear cR hb1 hb2
        obtain ⟨d0, d1, d2, d3, d4, d5, d6, d7, d8, d9⟩ := HX.out w2 hB2
        go_wp2_with fail
        refine (cX.out w2 hB2).mono ?_
        rintro e w3 ⟨rfl, hb3⟩
        have hB3 := ext_trans hB2 hb3
        clear cX hb3 hB2 d0 d1 d2 d3 d4 d5 d6 d7 d8 d9
        obtain ⟨d0, d1, d2, d3, d4, d5, d6, d7, d8, d9⟩ := HX.out w3 hB3
        go_wp2_with fail
        refine (cA.out w3 hB3).mono ?_
        rintro e w4 ⟨rfl, hb4⟩
        go_wp2_with fail
        go_ret
        exact ⟨rfl, ext_trans hBW (ext_trans hB3 hb4)⟩
end Go.Proofs.Ytmindojbkedmlaa
