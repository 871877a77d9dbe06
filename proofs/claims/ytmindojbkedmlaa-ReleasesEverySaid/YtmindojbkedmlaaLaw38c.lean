/- Laws 38: ReleasesEvery. -/
import Derived.Test.YtmindojbkedmlaaLaw38b
import Derived.Test.YtmindojbkedmlaaSpa3
namespace Go.Proofs.Ytmindojbkedmlaa
open Go.RowKit Go.Han
attribute [local irreducible] wpStill wpQuiet
set_option maxRecDepth 100000

theorem stpB_at : ∀ {S : List Stp} {o : Option Stp} {k : Nat}, stpB o S = true → (h : k + 1 < S.length) → S[k].at_ < S[k + 1].at_ ∧ S[k].state ≠ S[k + 1].state
  | [], _, k, _, h => by simp at h
  | [y], _, k, _, h => by simp at h
  | y :: z :: r, o, k, hs, h => by
    have h2 : stpB (some y) (z :: r) = true := by
      cases o with
      | none => exact hs
      | some x =>
        rw [stpB] at hs
        simp only [Bool.and_eq_true] at hs
        exact hs.2.2
    cases k with
    | zero =>
      rw [stpB] at h2
      simp only [Bool.and_eq_true, decide_eq_true_eq] at h2
      exact ⟨h2.1, h2.2.1⟩
    | succ k =>
      have := stpB_at h2 (k := k) (by simpa using h)
      simpa using this
theorem hasB_say {l : List House} {s b g kn t : Int} (h0 : 0 ≤ t) (h1 : t < 1099511627776) : hasB (spnL l s b g kn) t = (vAt l s b g kn t == 0) := by
  obtain ⟨i1, i2⟩ := spnL_say l s b g kn
  rw [Bool.eq_iff_iff]
  unfold hasB
  rw [par_in i2, i1 t h0 h1]
  simp
theorem ownF_drop {o t : Int} {S : List Stp} {k : Nat} (h : k < S.length) : ownF o t (S.drop k) = ownF (if S[k].at_ ≤ t then S[k].state else o) t (S.drop (k + 1)) := by
  rw [List.drop_eq_getElem_cons h]; rfl
set_option maxHeartbeats 8000000 in
theorem ReleasesEvery_any (A : Option Addr) (c : Nat) (l : List House) (s b g kn t : Int) (w : World) (h : ArgsR w A l) :
    Calls Try.prog 7 #[.slice A l.length c, .int .i64 s, .int .i64 b, .int .i64 g, .int .i64 kn, .int .i64 t] w fun e w' => e = .returned (.bool true) ∧ Below w.heap.size w w' := by
  have cR := Lib.hid (fun W (hW : Below w.heap.size w W) => right38_any A c l s b g kn W (h.ext hW).hr h.hm)
  cases hrt : (fewHB l.length && (relE l s b g kn == 0))
  · rw [hrt] at cR
    clear hrt
    go_enter Try.func7, Try.ntmps7
    go_wp2_with fail
    refine (sane38_any w).mono ?_
    rintro e w1 ⟨rfl, hb1⟩
    go_wp2_with fail
    refine (cR.out w1 hb1).mono ?_
    rintro e w2 ⟨rfl, hb2⟩
    have hB2 := ext_trans hb1 hb2
    clear cR hb1 hb2
    go_wp2_with fail
    go_ret
    exact ⟨rfl, hB2⟩
  · have hre : relE l s b g kn = 0 := by simp only [Bool.and_eq_true, beq_iff_eq] at hrt; exact hrt.2
    rw [hrt] at cR
    have hok := rel_ok.1 hre
    clear hrt
    by_cases h1 : t < 0
    · have q1 : decide (t < 0) = true := decide_eq_true h1
      clear h1
      go_enter Try.func7, Try.ntmps7
      go_wp2_with fail
      refine (sane38_any w).mono ?_
      rintro e w1 ⟨rfl, hb1⟩
      go_wp2_with fail
      refine (cR.out w1 hb1).mono ?_
      rintro e w2 ⟨rfl, hb2⟩
      have hB2 := ext_trans hb1 hb2
      clear cR hb1 hb2
      go_wp2_with fail
      go_ret
      exact ⟨rfl, hB2⟩
    · have q1 : decide (t < 0) = false := decide_eq_false h1
      by_cases h2 : 1099511627776 ≤ t
      · have q2 : decide (1099511627776 ≤ t) = true := decide_eq_true h2
        clear h1 h2
        go_enter Try.func7, Try.ntmps7
        go_wp2_with fail
        refine (sane38_any w).mono ?_
        rintro e w1 ⟨rfl, hb1⟩
        go_wp2_with fail
        refine (cR.out w1 hb1).mono ?_
        rintro e w2 ⟨rfl, hb2⟩
        have hB2 := ext_trans hb1 hb2
        clear cR hb1 hb2
        go_wp2_with fail
        go_ret
        exact ⟨rfl, hB2⟩
      · have q2 : decide (1099511627776 ≤ t) = false := decide_eq_false h2
        have hS : stpR l s b g kn = stpL l s b g kn := by unfold stpR; rw [if_pos hre]
        have hX : spnR l s b g kn = spnL l s b g kn := by unfold spnR; rw [if_pos hre]
        have cT := fun W (hW : Below w.heap.size w W) => Timeline_any A c l s b g kn W (h.ext hW).hr h.hm
        have cX := fun W (hW : Below w.heap.size w W) => Shows_any A c l s b g kn W (h.ext hW).hr h.hm
        unfold LinePost at cT
        unfold ShowPost at cX
        rw [hre, hS] at cT
        rw [hre, hX] at cX
        have cV : Hid (∀ W, Below w.heap.size w W → Calls Try.prog 24 #[.slice A l.length c, .int .i64 s, .int .i64 b, .int .i64 g, .int .i64 t, .int .i64 kn] W (VtP (vAt l s b g kn t) W)) := fun W hW => verd_at A c W (h.ext hW).hr h.hm hok (by omega) (by omega)
        have hlen := (hchk_ok hok.chk).1
        have hsl := stpL_len (l := l) (s := s) (b := b) (g := g) (kn := kn)
        have hxl : (spnL l s b g kn).length ≤ 4096 := Nat.le_trans (spansF_len _) (by omega)
        have hck := (spnL_say l s b g kn).2
        have hhas := hasB_say (l := l) (s := s) (b := b) (g := g) (kn := kn) (t := t) (by omega) (by omega)
        have hown := stpL_say l s b g kn t (by omega) (by omega) (-1)
        obtain ⟨ho1, ⟨y0, r0, ho2, ho3⟩, ho4⟩ := stpL_order l s b g kn
        have hpos : 0 < (stpL l s b g kn).length := by rw [ho2]; simp
        have hz0 : (stpL l s b g kn)[0].at_ = 0 := by simp only [ho2]; exact ho3
        have hat := fun k (hk : k < (stpL l s b g kn).length) => ho4 _ (List.getElem_mem hk)
        have hnb := fun k (hk : k + 1 < (stpL l s b g kn).length) => stpB_at ho1 hk
        have Ht0 : Hid (0 ≤ t ∧ t < 1099511627776) := ⟨by omega, by omega⟩
        generalize vAt l s b g kn t = v at *
        generalize stpL l s b g kn = S at *
        generalize spnL l s b g kn = X at *
        have cT := Lib.hid cT
        have cX := Lib.hid cX
        have Hck := Lib.hid hck
        have Hhas := Lib.hid hhas
        have Hown := Lib.hid hown
        have Hz0 := Lib.hid hz0
        have Hat := Lib.hid hat
        have Hnb := Lib.hid hnb
        clear hS hX hre hok ho1 ho2 ho4 hck hhas hown hz0 hat hnb h h1 h2 hlen hsl
        go_enter Try.func7, Try.ntmps7
        go_wp2_with fail
        refine (sane38_any w).mono ?_
        rintro e w1 ⟨rfl, hb1⟩
        go_wp2_with fail
        refine (cR.out w1 hb1).mono ?_
        rintro e w2 ⟨rfl, hb2⟩
        have hB2 := ext_trans hb1 hb2
        clear cR hb1 hb2
        go_wp2_with fail
        refine (cT.out w2 hB2).mono ?_
        rintro e w3 ⟨A3, c3, rfl, hr3, hl3, hb3⟩
        have hB3 := ext_trans hB2 hb3
        clear cT hb3 hB2
        go_wp2_with fail
        refine (cX.out w3 hB3).mono ?_
        rintro e w4 ⟨A4, c4, rfl, hr4, hl4, hb4⟩
        have hB4 := ext_trans hB3 hb4
        have hr34 := hr3.ext hb4
        clear cX hb4 hB3 hr3
        go_wp2_with fail
        refine (cV.out w4 hB4).mono ?_
        rintro e w5 ⟨n5, rfl, hb5⟩
        have hB5 := ext_trans hB4 hb5
        have hr5 := hr34.ext hb5
        have hx5 := hr4.ext hb5
        clear cV hb5 hB4 hr34 hr4
        obtain ⟨b9, off9, rfl, hb9, hc9⟩ := stp_elem hr5 hpos
        have d0 := (hc9 w5 (Below.refl _ _)).1
        rw [Hz0.out] at d0
        simp only [Nat.zero_mul, Nat.add_zero] at d0
        have hxo : (SpS.mk A4 c4 X).Ok w5 := ⟨hx5, Hck.out, hxl⟩
        have cK := Lib.hid (Check13_any ⟨A4, c4, X⟩ w5 hxo)
        have hne : ((S.length : Int) == 0) = false := beq_eq_false_iff_ne.2 (by omega)
        have hne2 : S ≠ [] := by intro hh; rw [hh] at hpos; simp at hpos
        have hp2 : (0 : Int) < S.length := by omega
        have Hxo := Lib.hid hxo
        clear hc9 hxo
        go_wp2_with fail
        refine cK.out.mono ?_
        rintro e w6 ⟨rfl, hb6⟩
        have hB6 := ext_trans hB5 hb6
        have Hx6 := Lib.hid (Hxo.out.ext hb6)
        have hr6 := hr5.ext hb6
        clear cK d0 hne hne2 hp2 hB5 hr5 Hxo hx5
        go_wp2_with fail
        go_loopw [20, 100] (fun vo i wr => ∃ (k : Nat) (o : Int), k ≤ S.length ∧ i = .int .i64 k ∧ vo = .int .i64 o ∧ Below w6.heap.size w6 wr ∧ Hid (ownF o t (S.drop k) = v)) (fun _ i _ => S.length - (intOf i).toNat)
        case atStart => exact ⟨0, -1, Nat.zero_le _, rfl, rfl, Below.refl _ _, Hown⟩
        case round =>
          obtain ⟨k, o, hk, rfl, rfl, hBr, HO⟩ := hrel
          by_cases hlt : k < S.length
          · obtain ⟨b1, off, he, hb, hc⟩ := stp_elem hr6 hlt
            cases he
            obtain ⟨d0, d1, d2⟩ := hc wr hBr
            have hat := Hat.out k hlt
            have hod := ownF_drop (o := o) (t := t) hlt
            have hlt2 : (k : Int) < S.length := by omega
            have prev : 1 ≤ k → ∃ p : Stp, p.at_ < S[k].at_ ∧ p.state ≠ S[k].state ∧ ∀ W, Below w6.heap.size w6 W → W.cell? ⟨b9, off9 + (k - 1) * 3, none⟩ = some (.int .i64 p.at_) ∧ W.cell? ⟨b9, off9 + (k - 1) * 3 + 1, none⟩ = some (.int .i64 p.state) := fun h1 => by
              have hk1 : k - 1 < S.length := by omega
              obtain ⟨b1', off', he', hb', hc'⟩ := stp_elem hr6 hk1
              cases he'
              have hn := Hnb.out (k - 1) (by omega)
              have e : k - 1 + 1 = k := by omega
              simp only [e] at hn
              exact ⟨S[k - 1], hn.1, hn.2, fun W hW => ⟨(hc' W hW).1, (hc' W hW).2.1⟩⟩
            clear hc
            generalize S[k] = y at *
            obtain ⟨V, hV⟩ : ∃ V, wr.alloc (.cells #[.int .i64 y.at_, .int .i64 y.state, .bool true] 47) = V := ⟨_, rfl⟩
            have hbV : Below wr.heap.size wr V := by subst hV; exact ext_alloc (Below.refl _ _) _
            have hxV : V.heap[wr.heap.size]? = some (.cells #[.int .i64 y.at_, .int .i64 y.state, .bool true] 47 (0, 0)) := by subst hV; exact galloc_at _ _ _ rfl
            have hBV := ext_trans hBr hbV
            have p0 : V.cell? ⟨wr.heap.size, 0, none⟩ = some (.int .i64 y.at_) := gblk hxV 0
            have p1 : V.cell? ⟨wr.heap.size, 1, none⟩ = some (.int .i64 y.state) := gblk hxV 1
            have p2 : V.cell? ⟨wr.heap.size, 2, none⟩ = some (.bool true) := gblk hxV 2
            have HxV := Lib.hid hxV
            have g1 : decide (y.at_ < 0) = false := decide_eq_false (by omega)
            have g2 : decide (1099511627776 ≤ y.at_) = false := decide_eq_false (by omega)
            have Hod := Lib.hid hod
            have HBV := Lib.hid hBV
            clear hod hbV hxV hat hBr hBV
            by_cases hk1 : 1 ≤ k
            · obtain ⟨p, hp1, hp2, hpc⟩ := prev hk1
              obtain ⟨e0, e1⟩ := hpc V HBV.out
              have g3 : decide (0 < k) = true := decide_eq_true hk1
              have g4 : decide (y.at_ ≤ p.at_) = false := decide_eq_false (by omega)
              have g5 : (p.state == y.state) = false := by simpa using hp2
              have z2 : IntKind.i64.wrap ((k : Int) - 1) = (k : Int) - 1 := IntWalk.i64_in _ (by omega)
              have z3 : (0 : Int) ≤ (k : Int) - 1 := by omega
              have z4 : (k : Int) - 1 < S.length := by omega
              have z5 : ((k : Int) - 1).toNat = k - 1 := by omega
              have z6 : (1 : Int) ≤ (k : Int) := by omega
              clear prev hpc hp1 hp2 hk1
              go_wp2_with fail
              go_still (by kernel_rfl)
              obtain ⟨VD, hVD⟩ : ∃ VD, V.drew = VD := ⟨_, rfl⟩
              have hBD : Below w6.heap.size w6 VD := by subst hVD; exact ext_drew HBV.out
              have r0 : VD.cell? ⟨wr.heap.size, 0, none⟩ = some (.int .i64 y.at_) := by subst hVD; exact p0
              have r1 : VD.cell? ⟨wr.heap.size, 1, none⟩ = some (.int .i64 y.state) := by subst hVD; exact p1
              have hVE : ({ heap := V.heap, tape := V.tape, drawn := V.drawn + 1, os := V.os, output := V.output } : World) = VD := hVD
              rw [hVE]
              clear hVE p0 p1 p2 hVD HxV HBV d0 d1 d2
              by_cases hyt : y.at_ ≤ t
              · have HN : Hid (ownF y.state t (S.drop (k + 1)) = v) := by
                  show _ = _
                  have h := Hod.out
                  rw [if_pos hyt] at h
                  exact h.symm.trans HO.out
                clear Hod HO
                go_wp2_with fail
                go_roundw
                case rel => exact ⟨k + 1, y.state, by omega, by go_num, rfl, hBD, HN⟩
                case measure => simp [intOf]; omega
              · have HN : Hid (ownF o t (S.drop (k + 1)) = v) := by
                  show _ = _
                  have h := Hod.out
                  rw [if_neg hyt] at h
                  exact h.symm.trans HO.out
                have g6 : decide (y.at_ ≤ t) = false := decide_eq_false hyt
                clear Hod HO hyt
                go_wp2_with fail
                go_roundw
                case rel => exact ⟨k + 1, o, by omega, by go_num, rfl, hBD, HN⟩
                case measure => simp [intOf]; omega
            · obtain rfl : k = 0 := by omega
              simp only [Nat.zero_mul, Nat.add_zero] at d0 d1 d2
              clear prev hk1
              go_wp2_with fail
              go_still (by kernel_rfl)
              obtain ⟨VD, hVD⟩ : ∃ VD, V.drew = VD := ⟨_, rfl⟩
              have hBD : Below w6.heap.size w6 VD := by subst hVD; exact ext_drew HBV.out
              have r0 : VD.cell? ⟨wr.heap.size, 0, none⟩ = some (.int .i64 y.at_) := by subst hVD; exact p0
              have r1 : VD.cell? ⟨wr.heap.size, 1, none⟩ = some (.int .i64 y.state) := by subst hVD; exact p1
              have hVE : ({ heap := V.heap, tape := V.tape, drawn := V.drawn + 1, os := V.os, output := V.output } : World) = VD := hVD
              rw [hVE]
              clear hVE p0 p1 p2 hVD HxV HBV d0 d1 d2
              by_cases hyt : y.at_ ≤ t
              · have HN : Hid (ownF y.state t (S.drop (0 + 1)) = v) := by
                  show _ = _
                  have h := Hod.out
                  rw [if_pos hyt] at h
                  exact h.symm.trans HO.out
                clear Hod HO
                go_wp2_with fail
                go_roundw
                case rel => exact ⟨0 + 1, y.state, by omega, by go_num, rfl, hBD, HN⟩
                case measure => simp [intOf]; omega
              · have HN : Hid (ownF o t (S.drop (0 + 1)) = v) := by
                  show _ = _
                  have h := Hod.out
                  rw [if_neg hyt] at h
                  exact h.symm.trans HO.out
                have g6 : decide (y.at_ ≤ t) = false := decide_eq_false hyt
                clear Hod HO hyt
                go_wp2_with fail
                go_roundw
                case rel => exact ⟨0 + 1, o, by omega, by go_num, rfl, hBD, HN⟩
                case measure => simp [intOf]; omega
          · obtain rfl : k = S.length := by omega
            have HV : Hid (o = v) := by
              have h := HO.out
              rw [List.drop_length] at h
              exact h
            have cH := Lib.hid (Has_any ⟨A4, c4, X⟩ t wr (Hx6.out.ext hBr) Ht0.out.1 Ht0.out.2)
            simp only [Hhas.out] at cH
            obtain rfl := HV.out
            clear HO HV
            go_wp2_with fail
            refine cH.out.mono ?_
            rintro e w7 ⟨rfl, hb7⟩
            have hB7 := ext_trans hB6 (ext_trans hBr hb7)
            clear cH
            go_wp2_with fail
            go_ret
            exact ⟨by simp, hB7⟩
end Go.Proofs.Ytmindojbkedmlaa
