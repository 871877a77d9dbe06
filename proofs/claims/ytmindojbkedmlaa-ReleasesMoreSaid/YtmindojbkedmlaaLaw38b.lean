/- Laws 38: ReleasesNext. -/
import Derived.Test.YtmindojbkedmlaaM8
namespace Go.Proofs.Ytmindojbkedmlaa
open Go.RowKit Go.Han
attribute [local irreducible] wpStill wpQuiet
set_option maxRecDepth 100000

theorem verd_at {l : List House} {s b g kn : Int} (A : Option Addr) (c : Nat) (W : World) (hr : Rd W A (hflat l)) (hm : l.length ≤ 9223372036854775807) (hok : RelOk l s b g kn) {t : Int} (h0 : 0 ≤ t) (h1 : t < 1099511627776) :
    Calls Try.prog 24 #[.slice A l.length c, .int .i64 s, .int .i64 b, .int .i64 g, .int .i64 t, .int .i64 kn] W (VtP (vAt l s b g kn t) W) := by
  have h := Verdict_any A c l ⟨s, b, g, t, kn⟩ W hr hm
  unfold VerdPost at h
  rw [(hok.ask h0 h1).1, (hok.ask h0 h1).2] at h
  refine h.mono ?_
  rintro e w' ⟨rfl, hb⟩
  exact ⟨_, rfl, hb⟩
theorem next_say {l : List House} {s b g kn t : Int} (ht0 : 0 ≤ t) : (∃ u, nextF t (spnL l s b g kn) = some u ∧ t ≤ u ∧ u < 1099511627776 ∧ vAt l s b g kn u = 0 ∧ ∀ o, t ≤ o → o < u → vAt l s b g kn o ≠ 0) ∨ (nextF t (spnL l s b g kn) = none ∧ ∀ o, t ≤ o → o < 1099511627776 → vAt l s b g kn o ≠ 0) := by
  obtain ⟨h1, h2⟩ := spnL_say l s b g kn
  cases h : nextF t (spnL l s b g kn) with
  | none => exact .inr ⟨rfl, fun o ho ho1 hz => next_none h o ho ((h1 o (by omega) ho1).2 hz)⟩
  | some u =>
    obtain ⟨i1, i2, i3⟩ := next_some h2 h
    have hu : u < 1099511627776 := by
      obtain ⟨p, hp, h3, h4⟩ := i2
      have := (spnB_low h2 p hp).2.2.2
      omega
    exact .inl ⟨u, rfl, i1, hu, (h1 u (by omega) hu).1 i2, fun o ho ho1 hz => i3 o ho ho1 ((h1 o (by omega) (by omega)).2 hz)⟩
set_option maxHeartbeats 4000000 in
theorem ReleasesNext_any (A : Option Addr) (c : Nat) (l : List House) (s b g kn t other : Int) (w : World) (h : ArgsR w A l) :
    Calls Try.prog 6 #[.slice A l.length c, .int .i64 s, .int .i64 b, .int .i64 g, .int .i64 kn, .int .i64 t, .int .i64 other] w fun e w' => e = .returned (.bool true) ∧ Below w.heap.size w w' := by
  have cR := Lib.hid (fun W (hW : Below w.heap.size w W) => right38_any A c l s b g kn W (h.ext hW).hr h.hm)
  cases hrt : (fewHB l.length && (relE l s b g kn == 0))
  · rw [hrt] at cR
    clear hrt
    go_enter Try.func6, Try.ntmps6
    go_wp2_with fail
    refine (sane38_any w).mono ?_
    rintro e w1 ⟨rfl, hb1⟩
    go_wp2_with fail
    refine (cR.out w1 hb1).mono ?_
    rintro e w2 ⟨rfl, hb2⟩
    have hB2 := ext_trans hb1 hb2
    clear cR hb1 hb2
    go_wp2_with fail
    go_ret
    exact ⟨rfl, hB2⟩
  · have hre : relE l s b g kn = 0 := by simp only [Bool.and_eq_true, beq_iff_eq] at hrt; exact hrt.2
    rw [hrt] at cR
    have hok := rel_ok.1 hre
    clear hrt
    by_cases h1 : t < 0
    · have q1 : decide (t < 0) = true := decide_eq_true h1
      clear h1
      go_enter Try.func6, Try.ntmps6
      go_wp2_with fail
      refine (sane38_any w).mono ?_
      rintro e w1 ⟨rfl, hb1⟩
      go_wp2_with fail
      refine (cR.out w1 hb1).mono ?_
      rintro e w2 ⟨rfl, hb2⟩
      have hB2 := ext_trans hb1 hb2
      clear cR hb1 hb2
      go_wp2_with fail
      go_ret
      exact ⟨rfl, hB2⟩
    · have q1 : decide (t < 0) = false := decide_eq_false h1
      by_cases h2 : 1099511627776 ≤ t
      · have q2 : decide (1099511627776 ≤ t) = true := decide_eq_true h2
        clear h1 h2
        go_enter Try.func6, Try.ntmps6
        go_wp2_with fail
        refine (sane38_any w).mono ?_
        rintro e w1 ⟨rfl, hb1⟩
        go_wp2_with fail
        refine (cR.out w1 hb1).mono ?_
        rintro e w2 ⟨rfl, hb2⟩
        have hB2 := ext_trans hb1 hb2
        clear cR hb1 hb2
        go_wp2_with fail
        go_ret
        exact ⟨rfl, hB2⟩
      · have q2 : decide (1099511627776 ≤ t) = false := decide_eq_false h2
        have hE : nxtE l s b g kn t = 0 := by unfold nxtE; rw [if_pos hre, timeB_iff.2 ⟨by omega, by omega⟩]; rfl
        have hR : nxtR l s b g kn t = nextV (nextF t (spnL l s b g kn)) := by unfold nxtR; rw [if_pos hE]
        have cN := fun W (hW : Below w.heap.size w W) => NextR_any A c l s b g kn t W (h.ext hW).hr h.hm
        unfold NextPost at cN
        rw [hE, hR] at cN
        have cV : Hid (∀ W, Below w.heap.size w W → ∀ t : Int, 0 ≤ t → t < 1099511627776 → Calls Try.prog 24 #[.slice A l.length c, .int .i64 s, .int .i64 b, .int .i64 g, .int .i64 t, .int .i64 kn] W (VtP (vAt l s b g kn t) W)) := fun W hW t h0 h1 => verd_at A c W (h.ext hW).hr h.hm hok h0 h1
        rcases next_say (l := l) (s := s) (b := b) (g := g) (kn := kn) (show 0 ≤ t by omega) with ⟨u, hn, hu1, hu2, hu3, hu4⟩ | ⟨hn, hu4⟩
        · rw [hn] at cN
          unfold nextV at cN
          have cN := Lib.hid cN
          have cU := Lib.hid (fun W hW => cV.out W hW u (by omega) hu2)
          rw [hu3] at cU
          have qu : decide (u < t) = false := decide_eq_false (by omega)
          have HU4 := Lib.hid hu4
          clear hE hR hn hu4 hu3 hok hre h
          by_cases h3 : other < t
          · have r1 : decide (other < t) = true := decide_eq_true h3
            clear h1 h2 h3 hu1 hu2
            go_enter Try.func6, Try.ntmps6
            go_wp2_with fail
            refine (sane38_any w).mono ?_
            rintro e w1 ⟨rfl, hb1⟩
            go_wp2_with fail
            refine (cR.out w1 hb1).mono ?_
            rintro e w2 ⟨rfl, hb2⟩
            have hB2 := ext_trans hb1 hb2
            clear cR hb1 hb2
            go_wp2_with fail
            refine (cN.out w2 hB2).mono ?_
            rintro e w3 ⟨rfl, hb3⟩
            have hB3 := ext_trans hB2 hb3
            clear cN hb3 hB2
            go_wp2_with fail
            refine (cU.out w3 hB3).mono ?_
            rintro e w4 ⟨n4, rfl, hb4⟩
            have hB4 := ext_trans hB3 hb4
            clear cU hb4 hB3
            go_wp2_with fail
            go_ret
            exact ⟨rfl, hB4⟩
          · have r1 : decide (other < t) = false := decide_eq_false h3
            by_cases h4 : 1099511627776 ≤ other
            · have r2 : decide (1099511627776 ≤ other) = true := decide_eq_true h4
              clear h1 h2 h3 h4 hu1 hu2
              go_enter Try.func6, Try.ntmps6
              go_wp2_with fail
              refine (sane38_any w).mono ?_
              rintro e w1 ⟨rfl, hb1⟩
              go_wp2_with fail
              refine (cR.out w1 hb1).mono ?_
              rintro e w2 ⟨rfl, hb2⟩
              have hB2 := ext_trans hb1 hb2
              clear cR hb1 hb2
              go_wp2_with fail
              refine (cN.out w2 hB2).mono ?_
              rintro e w3 ⟨rfl, hb3⟩
              have hB3 := ext_trans hB2 hb3
              clear cN hb3 hB2
              go_wp2_with fail
              refine (cU.out w3 hB3).mono ?_
              rintro e w4 ⟨n4, rfl, hb4⟩
              have hB4 := ext_trans hB3 hb4
              clear cU hb4 hB3
              go_wp2_with fail
              go_ret
              exact ⟨rfl, hB4⟩
            · have r2 : decide (1099511627776 ≤ other) = false := decide_eq_false h4
              by_cases h5 : u ≤ other
              · have r3 : decide (u ≤ other) = true := decide_eq_true h5
                clear h1 h2 h3 h4 h5 hu1 hu2
                go_enter Try.func6, Try.ntmps6
                go_wp2_with fail
                refine (sane38_any w).mono ?_
                rintro e w1 ⟨rfl, hb1⟩
                go_wp2_with fail
                refine (cR.out w1 hb1).mono ?_
                rintro e w2 ⟨rfl, hb2⟩
                have hB2 := ext_trans hb1 hb2
                clear cR hb1 hb2
                go_wp2_with fail
                refine (cN.out w2 hB2).mono ?_
                rintro e w3 ⟨rfl, hb3⟩
                have hB3 := ext_trans hB2 hb3
                clear cN hb3 hB2
                go_wp2_with fail
                refine (cU.out w3 hB3).mono ?_
                rintro e w4 ⟨n4, rfl, hb4⟩
                have hB4 := ext_trans hB3 hb4
                clear cU hb4 hB3
                go_wp2_with fail
                go_ret
                exact ⟨rfl, hB4⟩
              · have r3 : decide (u ≤ other) = false := decide_eq_false h5
                have hv := HU4.out other (by omega) (by omega)
                have cO := Lib.hid (fun W hW => cV.out W hW other (by omega) (by omega))
                generalize vAt l s b g kn other = v at *
                have g1 : (v != 0) = true := by simpa using hv
                clear h1 h2 h3 h4 h5 hu1 hu2 HU4 cV hv
                go_enter Try.func6, Try.ntmps6
                go_wp2_with fail
                refine (sane38_any w).mono ?_
                rintro e w1 ⟨rfl, hb1⟩
                go_wp2_with fail
                refine (cR.out w1 hb1).mono ?_
                rintro e w2 ⟨rfl, hb2⟩
                have hB2 := ext_trans hb1 hb2
                clear cR hb1 hb2
                go_wp2_with fail
                refine (cN.out w2 hB2).mono ?_
                rintro e w3 ⟨rfl, hb3⟩
                have hB3 := ext_trans hB2 hb3
                clear cN hb3 hB2
                go_wp2_with fail
                refine (cU.out w3 hB3).mono ?_
                rintro e w4 ⟨n4, rfl, hb4⟩
                have hB4 := ext_trans hB3 hb4
                clear cU hb4 hB3
                go_wp2_with fail
                refine (cO.out w4 hB4).mono ?_
                rintro e w5 ⟨n5, rfl, hb5⟩
                have hB5 := ext_trans hB4 hb5
                clear cO hb5
                go_wp2_with fail
                go_ret
                exact ⟨rfl, hB5⟩
        · rw [hn] at cN
          unfold nextV at cN
          have cN := Lib.hid cN
          have HU4 := Lib.hid hu4
          clear hE hR hn hu4 hok hre h
          by_cases h3 : other < t
          · have r1 : decide (other < t) = true := decide_eq_true h3
            clear h1 h2 h3
            go_enter Try.func6, Try.ntmps6
            go_wp2_with fail
            refine (sane38_any w).mono ?_
            rintro e w1 ⟨rfl, hb1⟩
            go_wp2_with fail
            refine (cR.out w1 hb1).mono ?_
            rintro e w2 ⟨rfl, hb2⟩
            have hB2 := ext_trans hb1 hb2
            clear cR hb1 hb2
            go_wp2_with fail
            refine (cN.out w2 hB2).mono ?_
            rintro e w3 ⟨rfl, hb3⟩
            have hB3 := ext_trans hB2 hb3
            clear cN hb3 hB2
            go_wp2_with fail
            go_ret
            exact ⟨rfl, hB3⟩
          · have r1 : decide (other < t) = false := decide_eq_false h3
            by_cases h4 : 1099511627776 ≤ other
            · have r2 : decide (1099511627776 ≤ other) = true := decide_eq_true h4
              clear h1 h2 h3 h4
              go_enter Try.func6, Try.ntmps6
              go_wp2_with fail
              refine (sane38_any w).mono ?_
              rintro e w1 ⟨rfl, hb1⟩
              go_wp2_with fail
              refine (cR.out w1 hb1).mono ?_
              rintro e w2 ⟨rfl, hb2⟩
              have hB2 := ext_trans hb1 hb2
              clear cR hb1 hb2
              go_wp2_with fail
              refine (cN.out w2 hB2).mono ?_
              rintro e w3 ⟨rfl, hb3⟩
              have hB3 := ext_trans hB2 hb3
              clear cN hb3 hB2
              go_wp2_with fail
              go_ret
              exact ⟨rfl, hB3⟩
            · have r2 : decide (1099511627776 ≤ other) = false := decide_eq_false h4
              have hv := HU4.out other (by omega) (by omega)
              have cO := Lib.hid (fun W hW => cV.out W hW other (by omega) (by omega))
              generalize vAt l s b g kn other = v at *
              have g1 : (v != 0) = true := by simpa using hv
              clear h1 h2 h3 h4 HU4 cV hv
              go_enter Try.func6, Try.ntmps6
              go_wp2_with fail
              refine (sane38_any w).mono ?_
              rintro e w1 ⟨rfl, hb1⟩
              go_wp2_with fail
              refine (cR.out w1 hb1).mono ?_
              rintro e w2 ⟨rfl, hb2⟩
              have hB2 := ext_trans hb1 hb2
              clear cR hb1 hb2
              go_wp2_with fail
              refine (cN.out w2 hB2).mono ?_
              rintro e w3 ⟨rfl, hb3⟩
              have hB3 := ext_trans hB2 hb3
              clear cN hb3 hB2
              go_wp2_with fail
              refine (cO.out w3 hB3).mono ?_
              rintro e w5 ⟨n5, rfl, hb5⟩
              have hB5 := ext_trans hB3 hb5
              clear cO hb5
              go_wp2_with fail
              go_ret
              exact ⟨rfl, hB5⟩
end Go.Proofs.Ytmindojbkedmlaa
