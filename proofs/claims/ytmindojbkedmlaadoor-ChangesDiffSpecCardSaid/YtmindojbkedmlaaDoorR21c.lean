/- Reference 21: Error and Align of right lists. -/
import Derived.Test.YtmindojbkedmlaaDoorR21b
import Derived.Test.YtmindojbkedmlaaDoorM5
namespace Go.Proofs.YtmindojbkedmlaaDoor
open Go.RowKit Go.Han
attribute [local irreducible] wpStill wpQuiet
set_option maxRecDepth 100000

theorem all_at {l : Ws} (h : l.all wordB = true) {k : Nat} (hk : k < l.length) : wordB l[k] = true := List.all_eq_true.1 h _ (List.getElem_mem hk)
set_option maxHeartbeats 2000000 in
theorem Error21_any (a b : StrS) (w : World) (ha : a.lies w) (hb : b.lies w) (h1 : a.xs.length ≤ 64) (h2 : b.xs.length ≤ 64) (h3 : a.xs.all wordB = true) (h4 : b.xs.all wordB = true) :
    Calls Tryd.prog 58 #[.slice a.addr a.xs.length a.cap, .slice b.addr b.xs.length b.cap] w fun e w' => e = .returned (.int .i64 0) ∧ Below w.heap.size w w' := by
  have g1 : ¬ (64 : Int) < a.xs.length := by omega
  have g2 : ¬ (64 : Int) < b.xs.length := by omega
  have Ha := Lib.hid ha
  have Hb := Lib.hid hb
  have H3 := Lib.hid h3
  have H4 := Lib.hid h4
  clear ha hb h3 h4
  go_enter Tryd.func58, Tryd.ntmps58
  go_wp2_with fail
  go_loopw [5] (fun vi wr => ∃ i : Nat, i ≤ a.xs.length ∧ vi = .int .i64 i ∧ Below w.heap.size w wr) (fun vi _ => a.xs.length - (intOf vi).toNat)
  case atStart => exact ⟨0, Nat.zero_le _, rfl, Below.refl _ _⟩
  case round =>
    obtain ⟨i, hi, rfl, hB⟩ := hrel
    by_cases hlt : i < a.xs.length
    · obtain ⟨ba, oa, hae, hab, hac⟩ := (Ha.out.ext hB).str i hlt
      have hw := all_at H3.out hlt
      have z1 : (i : Int) < a.xs.length := by omega
      have cW := Lib.hid (fun x (hx : wordB x = true) => show Calls Tryd.prog 28 #[.string x] wr fun e w' => e = .returned (.bool true) ∧ Below wr.heap.size wr w' from by rw [← hx]; exact word9_any x wr)
      have Hw := Lib.hid hw
      rw [hae]
      clear hae hw
      generalize a.xs[i] = x at *
      go_wp2_with fail
      refine (cW.out x Hw.out).mono ?_
      rintro e w1 ⟨rfl, hb1⟩
      clear hac
      go_wp2_with fail
      go_roundw
      case rel => exact ⟨i + 1, by omega, by go_num, ext_trans hB hb1⟩
      case measure => simp [intOf]; omega
    · obtain rfl : i = a.xs.length := by omega
      go_wp2_with fail
      go_loopw [6] (fun vi W => ∃ i : Nat, i ≤ b.xs.length ∧ vi = .int .i64 i ∧ Below w.heap.size w W) (fun vi _ => b.xs.length - (intOf vi).toNat)
      case atStart => exact ⟨0, Nat.zero_le _, rfl, hB⟩
      case round =>
        obtain ⟨i, hi, rfl, hB⟩ := hrel
        by_cases hlt : i < b.xs.length
        · obtain ⟨ba, oa, hae, hab, hac⟩ := (Hb.out.ext hB).str i hlt
          have hw := all_at H4.out hlt
          have z1 : (i : Int) < b.xs.length := by omega
          have cW := Lib.hid (fun x (hx : wordB x = true) => show Calls Tryd.prog 28 #[.string x] wr fun e w' => e = .returned (.bool true) ∧ Below wr.heap.size wr w' from by rw [← hx]; exact word9_any x wr)
          have Hw := Lib.hid hw
          rw [hae]
          clear hae hw
          generalize b.xs[i] = x at *
          go_wp2_with fail
          refine (cW.out x Hw.out).mono ?_
          rintro e w1 ⟨rfl, hb1⟩
          clear hac
          go_wp2_with fail
          go_roundw
          case rel => exact ⟨i + 1, by omega, by go_num, ext_trans hB hb1⟩
          case measure => simp [intOf]; omega
        · obtain rfl : i = b.xs.length := by omega
          go_wp2_with fail
          go_ret
          exact ⟨rfl, hB⟩
set_option maxHeartbeats 8000000 in
theorem Align21r_any (a b : StrS) (w : World) (ha : a.lies w) (hb : b.lies w) (h1 : a.xs.length ≤ 64) (h2 : b.xs.length ≤ 64) (h3 : a.xs.all wordB = true) (h4 : b.xs.all wordB = true) :
    Calls Tryd.prog 34 #[.slice a.addr a.xs.length a.cap, .slice b.addr b.xs.length b.cap] w (AlignPost a.xs b.xs w) := by
  obtain ⟨i0, hi0, iz0, is0, ib0⟩ := info_parts info_intA
  have cE := Lib.hid (Error21_any a b w ha hb h1 h2 h3 h4)
  have cL := Lib.hid (fun W (hW : Below w.heap.size w W) => Least21_any a b W (ha.ext hW) (hb.ext hW) h1 h2)
  have Ha := Lib.hid ha
  have Hb := Lib.hid hb
  have Hll := Lib.hid (alS_len a.xs b.xs)
  clear ha hb h3 h4
  go_enter Tryd.func34, Tryd.ntmps34
  go_wp2_with fail
  refine cE.out.mono ?_
  rintro e w1 ⟨rfl, hb1⟩
  go_wp2_with fail
  refine (cL.out w1 hb1).mono ?_
  rintro e w2 ⟨H, rb, rfl, hg, hb2⟩
  have hB2 := ext_trans hb1 hb2
  have HG := Lib.hid hg
  clear hg cE cL
  go_wp2_with fail
  obtain ⟨w3, hw3⟩ : ∃ w3, w2.alloc (.cells #[] 3) = w3 := ⟨_, rfl⟩
  have hb3 : Below w2.heap.size w2 w3 := by rw [← hw3]; exact ext_alloc (Below.refl _ _) _
  have ho3 : OwnI w3 w2.heap.size (.slice (some ⟨w2.heap.size, 0, none⟩) 0 0) (natI []) := by rw [← hw3]; exact own_empty (World.alloc_heap_new _ _) (Nat.le_refl _)
  try rw [hw3]
  clear hw3
  go_loopw [9, 10, 11] (fun vl vi vk wr => ∃ (i k : Nat) (pre : List Nat), i ≤ a.xs.length ∧ k ≤ b.xs.length ∧ vi = .int .i64 i ∧ vk = .int .i64 k ∧ OwnI wr w2.heap.size vl (natI pre) ∧ Below w2.heap.size w2 wr ∧ Hid (alS a.xs b.xs = pre ++ sA a.xs b.xs i k)) (fun _ vi vk _ => a.xs.length + b.xs.length - (intOf vi).toNat - (intOf vk).toNat)
  case atStart => exact ⟨0, 0, [], Nat.zero_le _, Nat.zero_le _, rfl, rfl, ho3, hb3, by show _ = _; unfold sA; simp⟩
  case round =>
    obtain ⟨i, k, pre, hi, hk, rfl, rfl, hown, hBr, HS⟩ := hrel
    obtain ⟨AL, cL, rfl, hrdL, _⟩ := OwnL.form (by omega) hown
    have hpl : pre.length ≤ 128 := by have := Hll.out; rw [HS.out] at this; simp at this; omega
    have hgw := HG.out.ext hBr
    obtain ⟨wz, hwz⟩ : ∃ wz, wz = wr := ⟨_, rfl⟩
    subst hwz
    by_cases hend : i = a.xs.length ∧ k = b.xs.length
    · obtain ⟨rfl, rfl⟩ := hend
      have hpe : pre = alS a.xs b.xs := by
        have := HS.out
        rw [sA_end (Nat.le_refl _) (Nat.le_refl _), List.append_nil] at this
        exact this.symm
      subst hpe
      have t0 := fun p => cell_ext (w := wz) (a := ⟨H, (0 : Nat), none⟩) hgw.lt (hgw.topc (i := 0) (Nat.zero_le _)) p
      have t1 := fun p => cell_ext (w := wz) (a := ⟨rb 0, (0 : Nat), none⟩) (hgw.rlt (i := 0) (Nat.zero_le _)) (hgw.cell (i := 0) (k := 0) (Nat.zero_le _) (Nat.zero_le _)) p
      rw [show cA a.xs b.xs 0 0 = alC a.xs b.xs from rfl] at t1
      have i0' : (0 : Int) < ((a.xs.length + 1 : Nat) : Int) := by omega
      have i1' : (0 : Int) < ((b.xs.length + 1 : Nat) : Int) := by omega
      have Hfin := Lib.hid (fun p : ExtBy wz => show AlignPost a.xs b.xs w (.returned (.tuple #[.slice AL (natI (alS a.xs b.xs)).length cL, .int .i64 (alC a.xs b.xs : Nat), .int .i64 0])) p.to from ⟨AL, cL, rfl, hrdL.ext p.ext, ext_trans hB2 (ext_trans hBr p.ext)⟩)
      generalize alC a.xs b.xs = cost at *
      clear hown hrdL hgw
      go_wp2_with fail
      refine wp_region_ext (by kernel_rfl) (by kernel_rfl) ?_
      repeat (go_big_quiet_step (fail))
      refine wpQuiet_nil ?_
      intro _ hw'
      obtain ⟨p, rfl⟩ := hw'
      have hf := Hfin.out p
      generalize p.to = V at *
      clear t0 t1
      go_wp2_with fail
      go_ret3
      exact hf
    · have hkey : ∃ p q : Bool, decide (i < a.xs.length) = p ∧ decide (k < b.xs.length) = q ∧ (p || q) = true := by
        refine ⟨_, _, rfl, rfl, ?_⟩
        by_cases e1 : i < a.xs.length
        · simp [e1]
        · have e2 : k < b.xs.length := by omega
          simp [e2]
      obtain ⟨p, q, hp, hq, hor⟩ := hkey
      have Hgw := Lib.hid hgw
      have Hown := Lib.hid hown
      clear hgw hown hrdL
      cases p <;> cases q
      · exact absurd hor (by decide)
      all_goals
        clear hor
        go_wp2_with fail
        clear hp hq
        go_loopw [9, 10, 11, 12] (fun vl vi vk vs W => ∃ n : Nat, n ≤ 4 ∧ vl = .slice AL (natI pre).length cL ∧ vi = .int .i64 (i : Int) ∧ vk = .int .i64 (k : Int) ∧ vs = .int .i64 ((n : Int) + 1) ∧ Below wz.heap.size wz W ∧ Hid (∀ m, m < n → hitB a.xs b.xs i k m = false)) (fun _ _ _ vs _ => 5 - (intOf vs).toNat)
        case atStart => exact ⟨0, by omega, rfl, rfl, rfl, rfl, Below.refl _ _, fun m hm => absurd hm (by omega)⟩
        case round =>
          obtain ⟨n, hn, rfl, rfl, rfl, rfl, hB3, HH⟩ := hrel
          by_cases hlt : n < 4
          · have z4 : (n : Int) + 1 ≤ 4 := by omega
            have w3 : IntKind.i64.wrap ((n : Int) + 1 + 1) = (n : Int) + 1 + 1 := by rw [IntKind.wrap_i64]; omega
            have hBw := ext_trans hB2 (ext_trans hBr hB3)
            have cS := Lib.hid (step21r a b n i k wr hlt (by omega) (by omega) (Ha.out.ext hBw) (Hb.out.ext hBw))
            unfold StepR at cS
            have hle0 := cA_le a.xs b.xs i k
            clear hBw
            go_wp2_with fail
            refine cS.out.mono ?_
            rintro e w7 ⟨rfl, hb7⟩
            have hB37 := ext_trans hB3 hb7
            cases hok : stOk a.xs b.xs n i k
            · have hno : hitB a.xs b.xs i k n = false := by unfold hitB; rw [hok]; rfl
              have HH2 := Lib.hid (hit_more HH.out hno)
              clear hok hno cS hle0
              go_wp2_with fail
              refine wp_region_ext (by kernel_rfl) (by kernel_rfl) ?_
              repeat (go_big_quiet_step (fail))
              refine wpQuiet_nil ?_
              intro _ hw'
              obtain ⟨p, rfl⟩ := hw'
              have hB39 := ext_trans hB37 p.ext
              generalize p.to = V2 at *
              go_wp2_with fail
              go_roundw
              case rel => exact ⟨n + 1, by omega, rfl, rfl, rfl, by go_num, hB39, HH2.out⟩
              case measure => simp [intOf]; try omega
            · obtain ⟨hyi, hyk⟩ := stOk_le hlt hok hi hk
              have hle1 := cA_le a.xs b.xs (stI n i) (stK n k)
              have hle2 : stC n ≤ 1 := by unfold stC; split <;> omega
              have hmv : i + k < stI n i + stK n k := by unfold stI stK; split <;> split <;> omega
              have hg2 := Hgw.out.ext hB37
              have m0 := fun p => cell_ext (w := w7) (a := ⟨rb i, k, none⟩) (hg2.rlt hi) (hg2.cell hi hk) p
              have m1 := fun p => cell_ext (w := w7) (a := ⟨rb (stI n i), stK n k, none⟩) (hg2.rlt hyi) (hg2.cell hyi hyk) p
              have t0 := fun p => cell_ext (w := w7) (a := ⟨H, i, none⟩) hg2.lt (hg2.topc hi) p
              have t1 := fun p => cell_ext (w := w7) (a := ⟨H, stI n i, none⟩) hg2.lt (hg2.topc hyi) p
              have i0' : (i : Int) < ((a.xs.length + 1 : Nat) : Int) := by omega
              have i1' : ((stI n i : Nat) : Int) < ((a.xs.length + 1 : Nat) : Int) := by omega
              have i2' : (k : Int) < ((b.xs.length + 1 : Nat) : Int) := by omega
              have i3' : ((stK n k : Nat) : Int) < ((b.xs.length + 1 : Nat) : Int) := by omega
              have hhit : hitB a.xs b.xs i k n = decide (cA a.xs b.xs i k = stC n + cA a.xs b.xs (stI n i) (stK n k)) := by unfold hitB; rw [hok]; rfl
              have HSN := Lib.hid (fun h : hitB a.xs b.xs i k n = true => HS.out.trans (congrArg (pre ++ ·) (sA_step (by omega) hlt hi hk h HH.out)))
              have HNO := Lib.hid (hit_more HH.out)
              clear hg2 hok cS
              generalize stI n i = yi at *
              generalize stK n k = yk at *
              generalize stC n = c at *
              generalize cA a.xs b.xs yi yk = cy at *
              generalize cA a.xs b.xs i k = ci at *
              generalize hitB a.xs b.xs i k n = hb at *
              have hwr : IntKind.i64.wrap ((c : Int) + (cy : Int)) = (c : Int) + (cy : Int) := by rw [IntKind.wrap_i64]; omega
              by_cases htest : ci = c + cy
              · have ht2 : (ci : Int) = (c : Int) + (cy : Int) := by omega
                rw [decide_eq_true htest] at hhit
                subst hhit
                go_wp2_with fail
                refine wp_region_ext (by kernel_rfl) (by kernel_rfl) ?_
                repeat (go_big_quiet_step (fail))
                refine wpQuiet_nil ?_
                intro _ hw'
                obtain ⟨p, rfl⟩ := hw'
                have hB39 := ext_trans hB37 p.ext
                have hown9 := Hown.out.ext hB39
                have hB29 := ext_trans hBr hB39
                generalize p.to = V2 at *
                clear m0 m1 t0 t1 i0' i1' i2' i3' htest ht2 hwr hle0 hle1 hle2
                have hpre2 := Lib.hid (show alS a.xs b.xs = pre ++ [n + 1] ++ sA a.xs b.xs yi yk by have := HSN.out trivial; simpa using this)
                obtain ⟨A1, A2⟩ := int_room (show (natI pre).length ≤ 10000 by rw [natI_len]; omega)
                have hbs := hB29.size
                have Hyi := Lib.hid hyi
                have Hyk := Lib.hid hyk
                have Hmv := Lib.hid hmv
                go_wp2_with (at_builtin; refine wpList_append_rd rfl _ _ 30 rfl w2.heap.size 3 i0 _ 1 8 Tryd.underlying30 hi0 iz0 is0 ib0 rfl (by decide) _ _ _ rfl (some ⟨V2.heap.size, 0, none⟩) 1 1 (intC ((n : Int) + 1)) rfl (hown9.ext (ext_alloc (Below.refl V2.heap.size V2) _)) rfl (grd_new rfl) (intC_one _) A1 A2 (Nat.le_trans hbs (by simp)) ?_; intro v9 w9 hown8 hg9 _)
                have hB9 : Below w2.heap.size w2 w9 := (ext_trans hB29 (ext_alloc (Below.refl V2.heap.size V2) _)).grown hg9 (Nat.le_trans hbs (by simp)) (fun k hk => (hown9.lt k hk).1)
                have hs9 := OwnL.snoc (f := intC) ((n : Int) + 1) hown8
                clear hown8 hg9
                try go_wp2_with fail
                go_roundw
                case rel => exact ⟨yi, yk, pre ++ [n + 1], Hyi.out, Hyk.out, rfl, rfl, by rw [natI_snoc, Int.natCast_succ]; exact hs9, hB9, hpre2.out⟩
                case measure => have := Hyi.out; have := Hyk.out; have := Hmv.out; simp [intOf]; omega
              · have ht2 : ¬ (ci : Int) = (c : Int) + (cy : Int) := by omega
                rw [decide_eq_false htest] at hhit
                subst hhit
                have HH2 := Lib.hid (HNO.out rfl)
                go_wp2_with fail
                refine wp_region_ext (by kernel_rfl) (by kernel_rfl) ?_
                repeat (go_big_quiet_step (fail))
                refine wpQuiet_nil ?_
                intro _ hw'
                obtain ⟨p, rfl⟩ := hw'
                have hB39 := ext_trans hB37 p.ext
                generalize p.to = V2 at *
                clear m0 m1 t0 t1 i0' i1' i2' i3'
                go_wp2_with fail
                go_roundw
                case rel => exact ⟨n + 1, by omega, rfl, rfl, rfl, by go_num, hB39, HH2.out⟩
                case measure => simp [intOf]; try omega
          · obtain rfl : n = 4 := by omega
            exact absurd (hit_some (by omega) hi hk hend (fun j hj => HH.out j hj)) (fun h => h)
end Go.Proofs.YtmindojbkedmlaaDoor
