/- GlossaryOne. -/
import Derived.Test.YtneanannicacnaaDoorLaw27c
import Derived.BigQuiet
namespace Go.Proofs.YtneanannicacnaaDoor
open Go.RowKit Go.Han
attribute [local irreducible] wpStill wpQuiet
set_option maxRecDepth 100000

/-! ### plain -/
theorem aboutB_symm (a b : Term) : aboutB a b = aboutB b a := by
  unfold aboutB
  rw [decide_eq_decide.2 (eq_comm (a := a.lang) (b := b.lang)), decide_eq_decide.2 (eq_comm (a := a.src.xs) (b := b.src.xs))]
theorem one_only {l : List Term} {lang t u : Int} (hs : l.Pairwise (fun a b => a.no < b.no)) {y z : Term} (hy : y ∈ l) (hc : countsB y t u = true) (hl : laterAny l t u y = false) (hz : z ∈ standT l lang t u) (ha : aboutB z y = true) : z = y := by
  obtain ⟨hz1, hz2⟩ := List.mem_filter.1 hz
  simp only [standsB, Bool.and_eq_true, Bool.not_eq_true', decide_eq_true_eq] at hz2
  obtain ⟨_, ⟨_, hzc⟩, hzl⟩ := hz2
  have h1 : laterB z y = false := by
    unfold laterAny at hl
    rw [List.any_eq_false] at hl
    have := hl z hz1
    simpa [ha, hzc] using this
  have h2 : laterB y z = false := by
    rw [List.any_eq_false] at hzl
    have := hzl y hy
    simpa [aboutB_symm y z, ha, hc] using this
  refine no_inj hs hz1 hy ?_
  unfold laterB at h1 h2
  simp only [Bool.or_eq_false_iff, Bool.and_eq_false_imp, decide_eq_false_iff_not, decide_eq_true_eq] at h1 h2
  have := h1.1
  have := h2.1
  have e : z.at_ = y.at_ := by omega
  have := h1.2 e
  have := h2.2 e.symm
  omega
theorem one_gone {l : List Term} {lang t u : Int} (hs : l.Pairwise (fun a b => a.no < b.no)) {y : Term} (hy : y ∈ l) (hc : countsB y t u = true) (hl : laterAny l t u y = false) (hg : y.gone = true) : (standT l lang t u).filter (fun z => aboutB z y) = [] := by
  rw [List.filter_eq_nil_iff]
  intro z hz ha
  have e := one_only hs hy hc hl hz ha
  subst e
  have := (List.mem_filter.1 hz).2
  simp [standsB, hg] at this
theorem all_eq_one {α : Type} {l : List α} {y : α} {r : α → α → Prop} (hr : ¬ r y y) (hp : l.Pairwise r) (hm : y ∈ l) (ha : ∀ z ∈ l, z = y) : l.length = 1 := by
  match l with
  | [] => cases hm
  | [a] => rfl
  | a :: b :: q =>
    have e1 := ha a (by simp)
    have e2 := ha b (by simp)
    subst e1
    have := (List.pairwise_cons.1 hp).1 b (by simp)
    rw [e2] at this
    exact absurd this hr
theorem one_mem {l : List Term} {lang t u : Int} {y : Term} (_hy : y ∈ l) (hla : y.lang = lang) (hc : countsB y t u = true) (hl : laterAny l t u y = false) (hg : y.gone = false) : (decide (y.lang = lang) && standsB l t u y) = true := by
  show (decide (y.lang = lang) && (!y.gone && countsB y t u && !laterAny l t u y)) = true
  simp [hla, hc, hl, hg]
theorem one_stands {l : List Term} {lang t u : Int} (hs : l.Pairwise (fun a b => a.no < b.no)) {y : Term} (hy : y ∈ l) (hla : y.lang = lang) (hc : countsB y t u = true) (hl : laterAny l t u y = false) (hg : y.gone = false) : ((standT l lang t u).filter (fun z => aboutB z y)).length = 1 := by
  refine all_eq_one (y := y) (r := fun a b => a.no < b.no) (by omega) ((hs.filter _).filter _) ?_ ?_
  · refine List.mem_filter.2 ⟨List.mem_filter.2 ⟨hy, one_mem hy hla hc hl hg⟩, ?_⟩
    simp [aboutB]
  · intro z hz
    obtain ⟨h1, h2⟩ := List.mem_filter.1 hz
    exact one_only hs hy hc hl h1 h2
theorem filter_get {α : Type} (p : α → Bool) {l : List α} {k : Nat} (hk : k < l.length) (hp : p l[k] = true) : ∃ h : ((l.take k).filter p).length < (l.filter p).length, (l.filter p)[((l.take k).filter p).length] = l[k] := by
  have e : l.filter p = (l.take k).filter p ++ l[k] :: (l.drop (k + 1)).filter p := by
    conv => lhs; rw [← List.take_append_drop k l, List.drop_eq_getElem_cons hk, List.filter_append, List.filter_cons, if_pos hp]
  refine ⟨by rw [e]; simp, ?_⟩
  simp only [e]
  rw [List.getElem_append_right (Nat.le_refl _)]
  simp
theorem filter_succ {α : Type} (p : α → Bool) {l : List α} {k : Nat} (hk : k < l.length) : ((l.take (k + 1)).filter p).length = ((l.take k).filter p).length + (if p l[k] = true then 1 else 0) := by
  rw [List.take_succ_eq_append_getElem hk, List.filter_append, List.length_append]
  by_cases h : p l[k] = true <;> simp [h]
def pB (l : List Term) (lang t u : Int) (x : Term) : Bool := decide (x.lang = lang) && standsB l t u x
theorem pB_no {l : List Term} {lang t u : Int} {y : Term} (h : y.lang ≠ lang ∨ countsB y t u = false ∨ laterAny l t u y = true ∨ y.gone = true) : pB l lang t u y = false := by
  show (decide (y.lang = lang) && (!y.gone && countsB y t u && !laterAny l t u y)) = false
  rcases h with h | h | h | h <;> simp [h]

theorem laterAny_succ (l : List Term) (t u : Int) (y : Term) (n : Nat) (h : n < l.length) : laterAny (l.take (n + 1)) t u y = (laterAny (l.take n) t u y || (aboutB l[n] y && countsB l[n] t u && laterB l[n] y)) := by
  unfold laterAny
  rw [List.take_succ_eq_append_getElem h, List.any_append]
  simp
set_option maxHeartbeats 16000000 in
theorem GlossaryOne_any (A : Option Addr) (cp : Nat) (l : List Term) (lang : Int) (t u : Int) (w : World) (hU : Tabs w) (hr : TermsAt w A l) (hm : l.length ≤ 9223372036854775807) :
    Calls Tryd.prog 11 #[.slice A l.length cp, .int .i64 lang, .int .i64 t, .int .i64 u] w fun e w' => e = .returned (.bool true) ∧ Below w.heap.size w w' := by
  have Hr := Lib.hid hr
  have HU := Lib.hid hU
  have Hm := Lib.hid hm
  have cs := sane27_any w hU
  have cf := Lib.hid (fun w => fewT_any A cp l w hm)
  generalize (decide (l.length ≤ 30) || (decide (1024 < l.length) && decide (l.length ≤ 1100))) = q at *
  clear hr hU hm
  go_enter Tryd.func11, Tryd.ntmps11
  go_wp2_with fail
  refine cs.mono ?_
  rintro e w1 ⟨rfl, hb1⟩
  have HB1 := Lib.hid hb1
  clear cs hb1
  go_wp2_with fail
  refine (cf.out _).mono ?_
  rintro e w' ⟨rfl, rfl⟩
  cases q
  · go_wp2_with fail
    go_ret
    exact ⟨rfl, HB1.out⟩
  go_wp2_with fail
  refine (Standing_any A cp l lang t u w1 (utf_ext HU.out HB1.out) (Hr.out.ext HB1.out) Hm.out).mono ?_
  intro e w2 h2
  obtain ⟨hb2, A2, c2, rfl, hT2, hN2⟩ := standPost_out h2
  have HB2 := Lib.hid (ext_trans HB1.out hb2)
  clear h2 hN2 hb2
  by_cases hne : standE l lang t u ≠ 0
  · have hso : standOut l lang t u = [] := by unfold standOut; rw [if_neg hne]
    rw [hso, List.length_nil]
    have n1 : (standE l lang t u == 0) = false := by simpa using hne
    have n2 : (standE l lang t u != 0) = true := by simpa using hne
    clear hne hT2 hso
    go_wp2_with fail
    go_ret
    exact ⟨by first | rfl | (simp; done), HB2.out⟩
  have hz := Decidable.not_not.1 hne
  have hso : standOut l lang t u = standT l lang t u := by unfold standOut; rw [if_pos hz]
  have hck := (standE_zero hz).1
  have hck2 : checkT (standT l lang t u) = 0 := checkT_filter _ hck
  obtain ⟨hl1, hok, hsrt⟩ := checkT_zero hck
  have h1g := Lib.hid (fun y hy hc hl hg => one_gone (lang := lang) (t := t) (u := u) hsrt (y := y) hy hc hl hg)
  have h1s := Lib.hid (fun y hy hla hc hl hg => one_stands (lang := lang) (t := t) (u := u) hsrt (y := y) hy hla hc hl hg)
  have h1m := Lib.hid (fun y hy hla hc hl hg => one_mem (l := l) (lang := lang) (t := t) (u := u) (y := y) hy hla hc hl hg)
  have hfg := Lib.hid (fun k hk hp => filter_get (pB l lang t u) (l := l) (k := k) hk hp)
  have hfs := Lib.hid (fun k hk => filter_succ (pB l lang t u) (l := l) (k := k) hk)
  have hSm : (standT l lang t u).length ≤ 1024 := Nat.le_trans (List.length_filter_le _ _) hl1
  obtain ⟨S, hS⟩ : ∃ S, standT l lang t u = S := ⟨_, rfl⟩
  have hSf : l.filter (pB l lang t u) = S := hS
  rw [hso, hS] at hT2 ⊢
  rw [hS] at hck2 hSm h1g h1s
  rw [hSf] at hfg
  rw [hz]
  have HT2 := Lib.hid hT2
  have HSf := Lib.hid hSf
  have HCK := Lib.hid hck
  have HCK2 := Lib.hid hck2
  clear hne hT2 hok hsrt hso hck hck2 hz hS hSf
  go_wp2_with fail
  refine (check_ok A cp l l.length 0 w2 (utf_ext HU.out HB2.out) (Hr.out.ext HB2.out) hl1 rfl HCK.out).mono ?_
  rintro e w3 ⟨rfl, hb3⟩
  have HT3 := Lib.hid (HT2.out.ext hb3)
  have HB3 := Lib.hid (ext_trans HB2.out hb3)
  clear hb3 HT2
  go_wp2_with fail
  refine (check_ok A2 c2 S S.length 0 w3 (utf_ext HU.out HB3.out) HT3.out hSm rfl HCK2.out).mono ?_
  rintro e w4 ⟨rfl, hb4⟩
  have HT4 := Lib.hid (HT3.out.ext hb4)
  have HB4 := Lib.hid (ext_trans HB3.out hb4)
  clear hb4 HT3
  have HR4 := Lib.hid (Hr.out.ext HB4.out)
  clear Hr
  go_wp2_with fail
  go_loopw [11, 12] (fun m i wr => ∃ k n : Nat, k ≤ l.length ∧ i = .int .i64 k ∧ m = .int .i64 n ∧ Hid (((l.take k).filter (pB l lang t u)).length = n) ∧ Below w4.heap.size w4 wr) (fun _ i _ => l.length - (intOf i).toNat)
  case atStart => exact ⟨0, 0, Nat.zero_le _, rfl, rfl, rfl, Below.refl _ _⟩
  case round =>
    obtain ⟨k, m, hk, rfl, rfl, hmn, hB⟩ := hrel
    by_cases hlt : k < l.length
    · obtain ⟨b, off, rfl, hb, hcl⟩ := HR4.out.at_ hlt
      obtain ⟨d0, d1, d2, d3, d4, d5, d6, d7⟩ := hcl k hlt wr hB
      have hyl := HR4.out.lie _ (List.getElem_mem hlt)
      have hym : l[k] ∈ l := List.getElem_mem hlt
      have hfgk := hfg.out k hlt
      have hfsk := hfs.out k hlt
      have hck := hcl k hlt
      have Hcl := Lib.hid hcl
      clear hcl
      generalize l[k] = y at *
      have Hck := Lib.hid hck
      clear hck
      have Hyl := Lib.hid hyl
      have Hym := Lib.hid hym
      have Hfg := Lib.hid hfgk
      have Hfs := Lib.hid hfsk
      clear hyl hym hfgk hfsk
      have cS := Lib.hid (counts_at y t u wr)
      by_cases hla : y.lang ≠ lang
      · have g1 : (y.lang != lang) = true := by simpa using hla
        have g2 : (y.lang == lang) = false := by simpa using hla
        have HN : Hid (((l.take (k + 1)).filter (pB l lang t u)).length = m) := by show _ = _; rw [Hfs.out, pB_no (.inl hla), hmn.out]; rfl
        clear hla
        go_wp2_with fail
        go_roundw
        case rel => exact ⟨k + 1, m, by omega, by go_num, rfl, HN, hB⟩
        case measure => simp [intOf]; omega
      have hla := Decidable.not_not.1 hla
      have Hla := Lib.hid hla
      have g1 : (y.lang != lang) = false := by simp [hla]
      have g2 : (y.lang == lang) = true := by simp [hla]
      clear hla
      obtain ⟨qc, hqc⟩ : ∃ qc, countsB y t u = qc := ⟨_, rfl⟩
      rw [hqc] at cS
      have Hqc := Lib.hid hqc
      clear hqc
      cases qc
      · have HN : Hid (((l.take (k + 1)).filter (pB l lang t u)).length = m) := by show _ = _; rw [Hfs.out, pB_no (.inr (.inl Hqc.out)), hmn.out]; rfl
        go_wp2_with fail
        refine cS.out.mono ?_
        rintro e w6 ⟨rfl, hb6⟩
        go_wp2_with fail
        go_roundw
        case rel => exact ⟨k + 1, m, by omega, by go_num, rfl, HN, ext_trans hB hb6⟩
        case measure => simp [intOf]; omega
      go_wp2_with fail
      refine cS.out.mono ?_
      rintro e w6 ⟨rfl, hb6⟩
      obtain ⟨wo, hwo⟩ : ∃ wo, wo = w6 := ⟨_, rfl⟩
      rw [← hwo] at hb6 ⊢
      have HB6 := Lib.hid (ext_trans hB hb6)
      clear hwo hb6 hB d0 d1 d2 d3 d4 d5 d6 d7 cS
      go_wp2_with fail
      go_loopw [13, 14] (fun la j wr => ∃ (n : Nat) (qa : Bool), n ≤ l.length ∧ j = .int .i64 n ∧ la = .bool qa ∧ Hid (laterAny (l.take n) t u y = !qa) ∧ Below wo.heap.size wo wr) (fun _ j _ => l.length - (intOf j).toNat)
      case atStart => exact ⟨0, true, Nat.zero_le _, rfl, rfl, rfl, Below.refl _ _⟩
      case round =>
        obtain ⟨n, qa, hn, rfl, rfl, hqa, hBi⟩ := hrel
        have hbi : b < wr.heap.size := Nat.lt_of_lt_of_le hb (ext_trans HB6.out hBi).size
        obtain ⟨d0, d1, d2, d3, d4, d5, d6, d7⟩ := Hck.out wr (ext_trans HB6.out hBi)
        by_cases hnl : n < l.length
        · obtain ⟨e0, e1, e2, e3, e4, e5, e6, e7⟩ := Hcl.out n hnl wr (ext_trans HB6.out hBi)
          have hzl := HR4.out.lie _ (List.getElem_mem hnl)
          have hls := laterAny_succ l t u y n hnl
          rw [hqa.out] at hls
          generalize l[n] = z at *
          have Hw := Lib.hid (ext_trans HB6.out hBi)
          have ca : ∀ p : ExtBy wr, Calls Tryd.prog 42 _ p.to _ := fun p => about_any z y p.to (hzl.ext (ext_trans Hw.out p.ext)) (Hyl.out.ext (ext_trans Hw.out p.ext))
          have cb : ∀ p : ExtBy wr, Calls Tryd.prog 41 _ p.to _ := fun p => counts_any z t u p.to
          have cd : ∀ p : ExtBy wr, Calls Tryd.prog 43 _ p.to _ := fun p => later_any z y p.to
          generalize aboutB z y = ba at *
          generalize countsB z t u = bb at *
          generalize laterB z y = bc at *
          have HN := Lib.hid hls
          have Ca := Lib.hid ca
          have Cb := Lib.hid cb
          have Cd := Lib.hid cd
          have f0 := fun p => cell_ext (w := wr) (a := ⟨b, off + k * 8, none⟩) hbi d0 p
          have f1 := fun p => cell_ext (w := wr) (a := ⟨b, off + k * 8 + 1, none⟩) hbi d1 p
          have f2 := fun p => cell_ext (w := wr) (a := ⟨b, off + k * 8 + 2, none⟩) hbi d2 p
          have f3 := fun p => cell_ext (w := wr) (a := ⟨b, off + k * 8 + 3, none⟩) hbi d3 p
          have f4 := fun p => cell_ext (w := wr) (a := ⟨b, off + k * 8 + 4, none⟩) hbi d4 p
          have f5 := fun p => cell_ext (w := wr) (a := ⟨b, off + k * 8 + 5, none⟩) hbi d5 p
          have f6 := fun p => cell_ext (w := wr) (a := ⟨b, off + k * 8 + 6, none⟩) hbi d6 p
          have f7 := fun p => cell_ext (w := wr) (a := ⟨b, off + k * 8 + 7, none⟩) hbi d7 p
          have g0 := fun p => cell_ext (w := wr) (a := ⟨b, off + n * 8, none⟩) hbi e0 p
          have g1 := fun p => cell_ext (w := wr) (a := ⟨b, off + n * 8 + 1, none⟩) hbi e1 p
          have g2 := fun p => cell_ext (w := wr) (a := ⟨b, off + n * 8 + 2, none⟩) hbi e2 p
          have g3 := fun p => cell_ext (w := wr) (a := ⟨b, off + n * 8 + 3, none⟩) hbi e3 p
          have g4 := fun p => cell_ext (w := wr) (a := ⟨b, off + n * 8 + 4, none⟩) hbi e4 p
          have g5 := fun p => cell_ext (w := wr) (a := ⟨b, off + n * 8 + 5, none⟩) hbi e5 p
          have g6 := fun p => cell_ext (w := wr) (a := ⟨b, off + n * 8 + 6, none⟩) hbi e6 p
          have g7 := fun p => cell_ext (w := wr) (a := ⟨b, off + n * 8 + 7, none⟩) hbi e7 p
          clear hls ca cb cd hzl d0 d1 d2 d3 d4 d5 d6 d7 e0 e1 e2 e3 e4 e5 e6 e7 hqa
          cases qa
          · go_wp2_with fail
            refine wp_region_ext (by kernel_rfl) (by kernel_rfl) ?_
            repeat (go_big_quiet_step (first | (go_at_call 42; exact Calls.ext_of (Ca.out _)) | (go_at_call 41; exact Calls.ext_of (Cb.out _)) | (go_at_call 43; exact Calls.ext_of (Cd.out _))))
            refine wpQuiet_nil ?_
            intro _ hw'
            obtain ⟨p, rfl⟩ := hw'
            go_wp2
            go_roundw
            case rel => exact ⟨n + 1, false, by omega, by go_num, rfl, HN, ext_trans hBi p.ext⟩
            case measure => simp [intOf]; omega
          · cases ba
            · go_wp2_with fail
              refine wp_region_ext (by kernel_rfl) (by kernel_rfl) ?_
              repeat (go_big_quiet_step (first | (go_at_call 42; exact Calls.ext_of (Ca.out _)) | (go_at_call 41; exact Calls.ext_of (Cb.out _)) | (go_at_call 43; exact Calls.ext_of (Cd.out _))))
              refine wpQuiet_nil ?_
              intro _ hw'
              obtain ⟨p, rfl⟩ := hw'
              go_wp2
              go_roundw
              case rel => exact ⟨n + 1, true, by omega, by go_num, rfl, HN, ext_trans hBi p.ext⟩
              case measure => simp [intOf]; omega
            cases bb
            · go_wp2_with fail
              refine wp_region_ext (by kernel_rfl) (by kernel_rfl) ?_
              repeat (go_big_quiet_step (first | (go_at_call 42; exact Calls.ext_of (Ca.out _)) | (go_at_call 41; exact Calls.ext_of (Cb.out _)) | (go_at_call 43; exact Calls.ext_of (Cd.out _))))
              refine wpQuiet_nil ?_
              intro _ hw'
              obtain ⟨p, rfl⟩ := hw'
              go_wp2
              go_roundw
              case rel => exact ⟨n + 1, true, by omega, by go_num, rfl, HN, ext_trans hBi p.ext⟩
              case measure => simp [intOf]; omega
            cases bc
            · go_wp2_with fail
              refine wp_region_ext (by kernel_rfl) (by kernel_rfl) ?_
              repeat (go_big_quiet_step (first | (go_at_call 42; exact Calls.ext_of (Ca.out _)) | (go_at_call 41; exact Calls.ext_of (Cb.out _)) | (go_at_call 43; exact Calls.ext_of (Cd.out _))))
              refine wpQuiet_nil ?_
              intro _ hw'
              obtain ⟨p, rfl⟩ := hw'
              go_wp2
              go_roundw
              case rel => exact ⟨n + 1, true, by omega, by go_num, rfl, HN, ext_trans hBi p.ext⟩
              case measure => simp [intOf]; omega
            · go_wp2_with fail
              refine wp_region_ext (by kernel_rfl) (by kernel_rfl) ?_
              repeat (go_big_quiet_step (first | (go_at_call 42; exact Calls.ext_of (Ca.out _)) | (go_at_call 41; exact Calls.ext_of (Cb.out _)) | (go_at_call 43; exact Calls.ext_of (Cd.out _))))
              refine wpQuiet_nil ?_
              intro _ hw'
              obtain ⟨p, rfl⟩ := hw'
              go_wp2
              go_roundw
              case rel => exact ⟨n + 1, false, by omega, by go_num, rfl, HN, ext_trans hBi p.ext⟩
              case measure => simp [intOf]; omega
        · obtain rfl : n = l.length := by omega
          have hqa2 := hqa.out
          rw [List.take_length] at hqa2
          have HQA := Lib.hid hqa2
          obtain ⟨wp, hwp⟩ : ∃ wp, wp = wr := ⟨_, rfl⟩
          rw [← hwp] at hBi ⊢
          have HBp := Lib.hid (ext_trans HB6.out hBi)
          clear hqa hqa2 hwp hBi d0 d1 d2 d3 d4 d5 d6 d7 hnl hn
          go_wp2_with fail
          go_loopw [15, 16] (fun c j wr => ∃ (n c0 : Nat), n ≤ S.length ∧ j = .int .i64 n ∧ c = .int .i64 c0 ∧ Hid (((S.take n).filter (fun z => aboutB z y)).length = c0) ∧ Below wp.heap.size wp wr) (fun _ j _ => S.length - (intOf j).toNat)
          case atStart => exact ⟨0, 0, Nat.zero_le _, rfl, rfl, rfl, Below.refl _ _⟩
          case round =>
            obtain ⟨n, c0, hn, rfl, rfl, hc0, hBi⟩ := hrel
            have hbi2 : b < wr.heap.size := Nat.lt_of_lt_of_le hb (ext_trans HBp.out hBi).size
            obtain ⟨d0, d1, d2, d3, d4, d5, d6, d7⟩ := Hck.out wr (ext_trans HBp.out hBi)
            by_cases hnl : n < S.length
            · obtain ⟨b2, off2, rfl, hb2, hcS⟩ := HT4.out.at_ hnl
              obtain ⟨e0, e1, e2, e3, e4, e5, e6, e7⟩ := hcS n hnl wr (ext_trans HBp.out hBi)
              have hzl := HT4.out.lie _ (List.getElem_mem hnl)
              have hfs2 := filter_succ (fun z => aboutB z y) (l := S) (k := n) hnl
              rw [hc0.out] at hfs2
              have hc1 : c0 ≤ 1024 := by have h1 := List.length_filter_le (fun z => aboutB z y) (S.take n); have h2 := List.length_take_le n S; rw [hc0.out] at h1; omega
              have hbj : b2 < wr.heap.size := Nat.lt_of_lt_of_le hb2 (ext_trans HBp.out hBi).size
              generalize S[n] = z at *
              have Hw := Lib.hid (ext_trans HBp.out hBi)
              have ca : ∀ p : ExtBy wr, Calls Tryd.prog 42 _ p.to _ := fun p => about_any z y p.to (hzl.ext (ext_trans Hw.out p.ext)) (Hyl.out.ext (ext_trans Hw.out p.ext))
              generalize aboutB z y = ba at *
              have HN := Lib.hid hfs2
              have Ca := Lib.hid ca
              have f0 := fun p => cell_ext (w := wr) (a := ⟨b, off + k * 8, none⟩) hbi2 d0 p
              have f1 := fun p => cell_ext (w := wr) (a := ⟨b, off + k * 8 + 1, none⟩) hbi2 d1 p
              have f2 := fun p => cell_ext (w := wr) (a := ⟨b, off + k * 8 + 2, none⟩) hbi2 d2 p
              have f3 := fun p => cell_ext (w := wr) (a := ⟨b, off + k * 8 + 3, none⟩) hbi2 d3 p
              have f4 := fun p => cell_ext (w := wr) (a := ⟨b, off + k * 8 + 4, none⟩) hbi2 d4 p
              have f5 := fun p => cell_ext (w := wr) (a := ⟨b, off + k * 8 + 5, none⟩) hbi2 d5 p
              have f6 := fun p => cell_ext (w := wr) (a := ⟨b, off + k * 8 + 6, none⟩) hbi2 d6 p
              have f7 := fun p => cell_ext (w := wr) (a := ⟨b, off + k * 8 + 7, none⟩) hbi2 d7 p
              have g0 := fun p => cell_ext (w := wr) (a := ⟨b2, off2 + n * 8, none⟩) hbj e0 p
              have g1 := fun p => cell_ext (w := wr) (a := ⟨b2, off2 + n * 8 + 1, none⟩) hbj e1 p
              have g2 := fun p => cell_ext (w := wr) (a := ⟨b2, off2 + n * 8 + 2, none⟩) hbj e2 p
              have g3 := fun p => cell_ext (w := wr) (a := ⟨b2, off2 + n * 8 + 3, none⟩) hbj e3 p
              have g4 := fun p => cell_ext (w := wr) (a := ⟨b2, off2 + n * 8 + 4, none⟩) hbj e4 p
              have g5 := fun p => cell_ext (w := wr) (a := ⟨b2, off2 + n * 8 + 5, none⟩) hbj e5 p
              have g6 := fun p => cell_ext (w := wr) (a := ⟨b2, off2 + n * 8 + 6, none⟩) hbj e6 p
              have g7 := fun p => cell_ext (w := wr) (a := ⟨b2, off2 + n * 8 + 7, none⟩) hbj e7 p
              clear hfs2 ca hzl d0 d1 d2 d3 d4 d5 d6 d7 e0 e1 e2 e3 e4 e5 e6 e7 hc0 hcS
              cases ba
              · go_wp2_with fail
                refine wp_region_ext (by kernel_rfl) (by kernel_rfl) ?_
                repeat (go_big_quiet_step ((go_at_call 42; exact Calls.ext_of (Ca.out _))))
                refine wpQuiet_nil ?_
                intro _ hw'
                obtain ⟨p, rfl⟩ := hw'
                go_wp2
                go_roundw
                case rel => exact ⟨n + 1, c0, by omega, by go_num, rfl, HN, ext_trans hBi p.ext⟩
                case measure => simp [intOf]; omega
              · go_wp2_with fail
                refine wp_region_ext (by kernel_rfl) (by kernel_rfl) ?_
                repeat (go_big_quiet_step ((go_at_call 42; exact Calls.ext_of (Ca.out _))))
                refine wpQuiet_nil ?_
                intro _ hw'
                obtain ⟨p, rfl⟩ := hw'
                go_wp2
                go_roundw
                case rel => exact ⟨n + 1, c0 + 1, by omega, by go_num, by go_num, HN, ext_trans hBi p.ext⟩
                case measure => simp [intOf]; omega
            · obtain rfl : n = S.length := by omega
              have hc1 := hc0.out
              rw [List.take_length] at hc1
              have HC1 := Lib.hid hc1
              clear hc0 hc1 hnl hn
              cases qa
              · have HN : Hid (((l.take (k + 1)).filter (pB l lang t u)).length = m) := by show _ = _; rw [Hfs.out, pB_no (.inr (.inr (.inl HQA.out))), hmn.out]; rfl
                go_wp2_with fail
                go_roundw
                case rel => exact ⟨k + 1, m, by omega, by go_num, rfl, HN, ext_trans HBp.out hBi⟩
                case measure => simp [intOf]; omega
              · cases hg : y.gone
                · have hc2 : c0 = 1 := by rw [← HC1.out]; exact h1s.out y Hym.out Hla.out Hqc.out HQA.out hg
                  have hp := h1m.out y Hym.out Hla.out Hqc.out HQA.out hg
                  obtain ⟨hm1, hm2⟩ : ∃ h : m < S.length, S[m] = y := by
                    obtain ⟨h1, h2⟩ := Hfg.out hp
                    have h := hmn.out
                    subst h
                    exact ⟨h1, h2⟩
                  have HN : Hid (((l.take (k + 1)).filter (pB l lang t u)).length = m + 1) := by show _ = _; rw [Hfs.out, hmn.out]; unfold pB; rw [if_pos hp]
                  obtain ⟨b2, off2, rfl, hb2, hcS⟩ := HT4.out.at_ hm1
                  have ee := hcS m hm1 wr (ext_trans HBp.out hBi)
                  rw [hm2] at ee
                  obtain ⟨e0, e1, e2, e3, e4, e5, e6, e7⟩ := ee
                  have hbj : b2 < wr.heap.size := Nat.lt_of_lt_of_le hb2 (ext_trans HBp.out hBi).size
                  have Hw := Lib.hid (ext_trans HBp.out hBi)
                  have ca : ∀ p : ExtBy wr, Calls Tryd.prog 44 _ p.to _ := fun p => sameTerm_any y y p.to (Hyl.out.ext (ext_trans Hw.out p.ext)) (Hyl.out.ext (ext_trans Hw.out p.ext))
                  rw [sameTermB_refl] at ca
                  have f0 := fun p => cell_ext (w := wr) (a := ⟨b, off + k * 8, none⟩) hbi2 d0 p
                  have f1 := fun p => cell_ext (w := wr) (a := ⟨b, off + k * 8 + 1, none⟩) hbi2 d1 p
                  have f2 := fun p => cell_ext (w := wr) (a := ⟨b, off + k * 8 + 2, none⟩) hbi2 d2 p
                  have f3 := fun p => cell_ext (w := wr) (a := ⟨b, off + k * 8 + 3, none⟩) hbi2 d3 p
                  have f4 := fun p => cell_ext (w := wr) (a := ⟨b, off + k * 8 + 4, none⟩) hbi2 d4 p
                  have f5 := fun p => cell_ext (w := wr) (a := ⟨b, off + k * 8 + 5, none⟩) hbi2 d5 p
                  have f6 := fun p => cell_ext (w := wr) (a := ⟨b, off + k * 8 + 6, none⟩) hbi2 d6 p
                  have f7 := fun p => cell_ext (w := wr) (a := ⟨b, off + k * 8 + 7, none⟩) hbi2 d7 p
                  have g0 := fun p => cell_ext (w := wr) (a := ⟨b2, off2 + m * 8, none⟩) hbj e0 p
                  have g1 := fun p => cell_ext (w := wr) (a := ⟨b2, off2 + m * 8 + 1, none⟩) hbj e1 p
                  have g2 := fun p => cell_ext (w := wr) (a := ⟨b2, off2 + m * 8 + 2, none⟩) hbj e2 p
                  have g3 := fun p => cell_ext (w := wr) (a := ⟨b2, off2 + m * 8 + 3, none⟩) hbj e3 p
                  have g4 := fun p => cell_ext (w := wr) (a := ⟨b2, off2 + m * 8 + 4, none⟩) hbj e4 p
                  have g5 := fun p => cell_ext (w := wr) (a := ⟨b2, off2 + m * 8 + 5, none⟩) hbj e5 p
                  have g6 := fun p => cell_ext (w := wr) (a := ⟨b2, off2 + m * 8 + 6, none⟩) hbj e6 p
                  have g7 := fun p => cell_ext (w := wr) (a := ⟨b2, off2 + m * 8 + 7, none⟩) hbj e7 p
                  have g5 : decide (S.length ≤ m) = false := decide_eq_false (by omega)
                  have g6 : ¬ S.length ≤ m := by omega
                  rw [hg] at d7 ca f7 g7
                  have Ca := Lib.hid ca
                  clear ca hcS e0 e1 e2 e3 e4 e5 e6 e7 hp hm2 hg
                  subst hc2
                  go_wp2_with fail
                  refine wp_region_ext (by kernel_rfl) (by kernel_rfl) ?_
                  repeat (go_big_quiet_step ((go_at_call 44; exact Calls.ext_of (Ca.out _))))
                  refine wpQuiet_nil ?_
                  intro _ hw'
                  obtain ⟨p, rfl⟩ := hw'
                  go_wp2
                  go_roundw
                  case rel => exact ⟨k + 1, m + 1, by omega, by go_num, by go_num, HN, ext_trans HBp.out (ext_trans hBi p.ext)⟩
                  case measure => simp [intOf]; omega
                · have hc2 : c0 = 0 := by rw [← HC1.out, h1g.out y Hym.out Hqc.out HQA.out hg]; rfl
                  have HN : Hid (((l.take (k + 1)).filter (pB l lang t u)).length = m) := by show _ = _; rw [Hfs.out, pB_no (.inr (.inr (.inr hg))), hmn.out]; rfl
                  rw [hg] at d7
                  clear hg
                  subst hc2
                  go_wp2_with fail
                  go_roundw
                  case rel => exact ⟨k + 1, m, by omega, by go_num, rfl, HN, ext_trans HBp.out hBi⟩
                  case measure => simp [intOf]; omega
    · obtain rfl : k = l.length := by omega
      have hmn2 := hmn.out
      rw [List.take_length, HSf.out] at hmn2
      subst hmn2
      go_wp2_with fail
      go_ret
      exact ⟨by first | rfl | (simp; done), ext_trans HB4.out hB⟩
end Go.Proofs.YtneanannicacnaaDoor
