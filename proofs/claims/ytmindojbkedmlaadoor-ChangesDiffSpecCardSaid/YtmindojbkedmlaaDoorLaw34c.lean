/- ChangesMade. -/
import Derived.Test.YtmindojbkedmlaaDoorM7
import Derived.BigQuiet
namespace Go.Proofs.YtmindojbkedmlaaDoor
open Go.RowKit Go.Han
attribute [local irreducible] wpStill wpQuiet
set_option maxRecDepth 100000

theorem drop_head {α : Type} {l t : List α} {x : α} {i : Nat} (h : l.drop i = x :: t) : ∃ hi : i < l.length, l[i] = x ∧ t = l.drop (i + 1) := by
  have hi : i < l.length := by
    rcases Nat.lt_or_ge i l.length with h1 | h1
    · exact h1
    · rw [List.drop_eq_nil_of_le h1] at h; cases h
  rw [List.drop_eq_getElem_cons hi] at h
  injection h with h1 h2
  exact ⟨hi, h1, h2.symm⟩
/-- What one step tells. -/
theorem made_cases {ta tb : Ws} {l : List Nat} {n i k c : Nat} (hn : n < l.length) (h : Al (ta.drop i) (tb.drop k) (l.drop n) c) :
    (l[n] = 1 ∧ (∃ (hi : i < ta.length) (hk : k < tb.length), ta[i] = tb[k]) ∧ Al (ta.drop (i + 1)) (tb.drop (k + 1)) (l.drop (n + 1)) c) ∨
    (l[n] = 2 ∧ (∃ (hi : i < ta.length) (hk : k < tb.length), ta[i] ≠ tb[k]) ∧ ∃ d, c = 1 + d ∧ Al (ta.drop (i + 1)) (tb.drop (k + 1)) (l.drop (n + 1)) d) ∨
    (l[n] = 3 ∧ i < ta.length ∧ ∃ d, c = 1 + d ∧ Al (ta.drop (i + 1)) (tb.drop k) (l.drop (n + 1)) d) ∨
    (l[n] = 4 ∧ k < tb.length ∧ ∃ d, c = 1 + d ∧ Al (ta.drop i) (tb.drop (k + 1)) (l.drop (n + 1)) d) := by
  generalize ha : ta.drop i = A at h
  generalize hb : tb.drop k = B at h
  rw [List.drop_eq_getElem_cons hn] at h
  generalize hl : l[n] = s at h
  generalize hL : l.drop (n + 1) = L at h
  cases h with
  | same h =>
    obtain ⟨hi, h1, rfl⟩ := drop_head ha
    obtain ⟨hk, h2, rfl⟩ := drop_head hb
    exact .inl ⟨rfl, ⟨hi, hk, h1.trans h2.symm⟩, h⟩
  | swap hne h =>
    obtain ⟨hi, h1, rfl⟩ := drop_head ha
    obtain ⟨hk, h2, rfl⟩ := drop_head hb
    exact .inr (.inl ⟨rfl, ⟨hi, hk, by rw [h1, h2]; exact hne⟩, _, rfl, h⟩)
  | less h =>
    obtain ⟨hi, h1, rfl⟩ := drop_head ha
    exact .inr (.inr (.inl ⟨rfl, hi, _, rfl, h⟩))
  | more h =>
    obtain ⟨hk, h2, rfl⟩ := drop_head hb
    exact .inr (.inr (.inr ⟨rfl, hk, _, rfl, h⟩))
theorem made_end {ta tb : Ws} {l : List Nat} {n i k c : Nat} (hn : l.length ≤ n) (hi : i ≤ ta.length) (hk : k ≤ tb.length) (h : Al (ta.drop i) (tb.drop k) (l.drop n) c) : i = ta.length ∧ k = tb.length ∧ c = 0 := by
  rw [List.drop_eq_nil_of_le hn] at h
  generalize ha : ta.drop i = A at h
  generalize hb : tb.drop k = B at h
  cases h
  refine ⟨?_, ?_, rfl⟩
  · have := congrArg List.length ha; simp at this; omega
  · have := congrArg List.length hb; simp at this; omega
theorem dif_zero {a b : List Tgt} (h : difE a b = 0) : a.length ≤ 64 ∧ b.length ≤ 64 ∧ difL a b = alS (txts a) (txts b) ∧ difC a b = alC (txts a) (txts b) ∧ difE a a = 0 ∧ difC a a = 0 := by
  have h' := h
  unfold difE at h
  split at h
  · cases h
  · split at h
    · cases h
    · split at h
      · cases h
      · rename_i h1 h2 h3
        have hz : difE a a = 0 := by unfold difE; rw [if_neg (by omega), if_neg h2, if_neg h2]
        refine ⟨by omega, by omega, by unfold difL; rw [if_pos h'], by unfold difC; rw [if_pos h'], hz, ?_⟩
        unfold difC; rw [if_pos hz]; exact alC_self _
theorem dif_no {a b : List Tgt} (h : difE a b ≠ 0) (h1 : a.length ≤ 20) (h2 : b.length ≤ 20) : difE a b = 300 ∧ difL a b = [] ∧ difC a b = 0 := by
  refine ⟨?_, by unfold difL; rw [if_neg h], by unfold difC; rw [if_neg h]⟩
  unfold difE at h ⊢
  rw [if_neg (by omega)] at h ⊢
  split at h
  · rename_i h3; rw [if_pos h3]
  · rename_i h3
    rw [if_neg h3]
    split at h
    · rename_i h4; rw [if_pos h4]
    · exact absurd rfl h
theorem txts_at {l : List Tgt} {i : Nat} (h : i < l.length) : (txts l)[i]'(by rw [txts_len]; exact h) = l[i].text := by unfold txts; simp
theorem tgt_text {w : World} {A : Option Addr} {l : List Tgt} (h : Rd w A (l.flatMap Tgt.cells)) {k : Nat} (hk : k < l.length) :
    ∃ b off, A = some ⟨b, off, none⟩ ∧ b < w.heap.size ∧ w.cell? ⟨b, off + k * 3, none⟩ = some (.string ((txts l)[k]'(by rw [txts_len]; exact hk))) := by
  obtain ⟨b, off, hA, hb, hc⟩ := tgt_elem h hk
  exact ⟨b, off, hA, hb, by rw [txts_at hk]; exact (hc w (Below.refl _ _)).1⟩
def MadeInv (ta tb : Ws) (l : List Nat) (cost : Nat) (vi vk vo vn : Value) : Prop :=
  ∃ n i k o c : Nat, n ≤ l.length ∧ i ≤ ta.length ∧ k ≤ tb.length ∧ o + c = cost ∧ vi = .int .i64 i ∧ vk = .int .i64 k ∧ vo = .int .i64 o ∧ vn = .int .i64 n ∧ Al (ta.drop i) (tb.drop k) (l.drop n) c
set_option maxHeartbeats 8000000 in
theorem ChangesMade_any (A : Option Addr) (c : Nat) (a : List Tgt) (B : Option Addr) (d : Nat) (b : List Tgt) (w : World) (hT : Tabs w) (hr : Rd w A (a.flatMap Tgt.cells)) (hr' : Rd w B (b.flatMap Tgt.cells)) (hm : a.length ≤ 9223372036854775807) (hm' : b.length ≤ 9223372036854775807) :
    Calls Tryd.prog 6 #[.slice A a.length c, .slice B b.length d] w fun e w' => e = .returned (.bool true) ∧ Below w.heap.size w w' := by
  have cs := Lib.hid (sane34_any w hT)
  have HR := Lib.hid hr
  have HR' := Lib.hid hr'
  have HT := Lib.hid hT
  have cD := Lib.hid (fun W (hW : Below w.heap.size w W) => Diff_any A c a B d b W (utf_ext hT hW) (hr.ext hW) (hr'.ext hW) hm hm')
  have cE := Lib.hid (fun W (hW : Below w.heap.size w W) => Diff_any A c a A c a W (utf_ext hT hW) (hr.ext hW) (hr.ext hW) hm hm)
  clear hT hr hr'
  go_enter Tryd.func6, Tryd.ntmps6
  go_wp2_with fail
  refine cs.out.mono ?_
  rintro e w1 ⟨rfl, hb1⟩
  by_cases h1 : a.length ≤ 20
  · by_cases h2 : b.length ≤ 20
    · have g1 : ¬ (20 : Int) < a.length := by omega
      have g2 : ¬ (20 : Int) < b.length := by omega
      go_wp2_with fail
      refine (cD.out w1 hb1).mono ?_
      rintro e w2 ⟨F, f, rfl, hrF, hb2⟩
      have hB2 := ext_trans hb1 hb2
      by_cases h0 : difE a b = 0
      · obtain ⟨la, lb, hL, hC, hz1, hz2⟩ := dif_zero h0
        have ha := al_runs (txts a) (txts b) (by rw [txts_len, txts_len]; omega)
        have hlen := alS_len (txts a) (txts b)
        rw [txts_len, txts_len] at hlen
        have hcost := alC_128 (txts a) (txts b)
        have cE2 := cE.out
        unfold DifPost at cE2
        rw [hz1, hz2] at cE2
        have CE := Lib.hid cE2
        rw [hL] at hrF ⊢
        rw [hC] at ⊢
        rw [h0] at ⊢
        generalize alS (txts a) (txts b) = l at *
        generalize alC (txts a) (txts b) = cost at *
        have HF := Lib.hid hrF
        have tla := Lib.hid (txts_len a)
        have tlb := Lib.hid (txts_len b)
        clear h0 hL hC hz1 hz2 cE2 hrF cE cD
        go_wp2_with fail
        go_loopw [8, 9, 10, 48] (fun vi vk vo vn wr => MadeInv (txts a) (txts b) l cost vi vk vo vn ∧ Below w2.heap.size w2 wr) (fun _ _ _ vn _ => l.length - (intOf vn).toNat)
        case atStart => exact ⟨⟨0, 0, 0, 0, cost, Nat.zero_le _, Nat.zero_le _, Nat.zero_le _, by omega, rfl, rfl, rfl, rfl, ha⟩, Below.refl _ _⟩
        case round =>
          obtain ⟨⟨n, i, k, o, cc, hn, hi, hk, hoc, rfl, rfl, rfl, rfl, hal⟩, hBr⟩ := hrel
          have hi' : i ≤ a.length := by rw [← tla.out]; exact hi
          have hk' : k ≤ b.length := by rw [← tlb.out]; exact hk
          by_cases hlt : n < l.length
          · obtain ⟨bl, ol, rfl, hbl, hcl⟩ := rd_nat HF.out hlt
            have d0 := (hBr.cell (p := ⟨bl, ol + n, none⟩) hbl).trans hcl
            have hB0r := ext_trans hB2 hBr
            have Hal := Lib.hid (made_cases hlt hal)
            have hlt2 : (n : Int) < l.length := by omega
            clear hal hcl
            have w1' : IntKind.i64.wrap ((i : Int) + 1) = (i : Int) + 1 := by rw [IntKind.wrap_i64]; omega
            have w2' : IntKind.i64.wrap ((k : Int) + 1) = (k : Int) + 1 := by rw [IntKind.wrap_i64]; omega
            have w3' : IntKind.i64.wrap ((o : Int) + 1) = (o : Int) + 1 := by rw [IntKind.wrap_i64]; omega
            rcases Hal.out with ⟨hs, ⟨ki, kk, hxy⟩, hal⟩ | ⟨hs, ⟨ki, kk, hxy⟩, cd, rfl, hal⟩ | ⟨hs, ki, cd, rfl, hal⟩ | ⟨hs, kk, cd, rfl, hal⟩
            · rw [hs] at d0
              have ki2 : i < a.length := by rw [← tla.out]; exact ki
              have kk2 : k < b.length := by rw [← tlb.out]; exact kk
              obtain ⟨ba, oa, rfl, hba, hca⟩ := tgt_text HR.out ki2
              obtain ⟨bb, ob, rfl, hbb, hcb⟩ := tgt_text HR'.out kk2
              have HAL := Lib.hid hal
              have Ki := Lib.hid ki
              have Kk := Lib.hid kk
              have ha0 := (hB0r.cell (p := ⟨ba, oa + i * 3, none⟩) hba).trans hca
              have hb0 := (hB0r.cell (p := ⟨bb, ob + k * 3, none⟩) hbb).trans hcb
              rw [← hxy] at hb0
              generalize (txts a)[i] = x at *
              have z1 : (i : Int) < a.length := by omega
              have z2 : (k : Int) < b.length := by omega
              have z3 : decide (a.length ≤ i) = false := decide_eq_false (by omega)
              have z4 : decide (b.length ≤ k) = false := decide_eq_false (by omega)
              have la1 : ba < wr.heap.size := Nat.lt_of_lt_of_le hba hB0r.size
              have lb1 : bb < wr.heap.size := Nat.lt_of_lt_of_le hbb hB0r.size
              have e0 := fun p => cell_ext (w := wr) (a := ⟨ba, oa + i * 3, none⟩) la1 ha0 p
              have e1 := fun p => cell_ext (w := wr) (a := ⟨bb, ob + k * 3, none⟩) lb1 hb0 p
              clear hs hal hca hcb hxy ki kk Hal ha0 hb0
              go_wp2_with fail
              refine wp_region_ext (by kernel_rfl) (by kernel_rfl) ?_
              repeat (go_big_quiet_step (fail))
              refine wpQuiet_nil ?_
              intro _ hw'
              obtain ⟨p, rfl⟩ := hw'
              have hB3 := ext_trans hBr p.ext
              generalize p.to = V at *
              clear e0 e1 d0
              go_wp2_with fail
              go_roundw
              case rel => exact ⟨⟨n + 1, i + 1, k + 1, o, cc, by omega, by have := Ki.out; omega, by have := Kk.out; omega, by omega, by go_num, by go_num, by go_num, by go_num, HAL.out⟩, hB3⟩
              case measure => simp [intOf]; omega
            · rw [hs] at d0
              have ki2 : i < a.length := by rw [← tla.out]; exact ki
              have kk2 : k < b.length := by rw [← tlb.out]; exact kk
              obtain ⟨ba, oa, rfl, hba, hca⟩ := tgt_text HR.out ki2
              obtain ⟨bb, ob, rfl, hbb, hcb⟩ := tgt_text HR'.out kk2
              have HAL := Lib.hid hal
              have Ki := Lib.hid ki
              have Kk := Lib.hid kk
              have ha0 := (hB0r.cell (p := ⟨ba, oa + i * 3, none⟩) hba).trans hca
              have hb0 := (hB0r.cell (p := ⟨bb, ob + k * 3, none⟩) hbb).trans hcb
              generalize (txts a)[i] = x at *
              generalize (txts b)[k] = y at *
              have z1 : (i : Int) < a.length := by omega
              have z2 : (k : Int) < b.length := by omega
              have z3 : decide (a.length ≤ i) = false := decide_eq_false (by omega)
              have z4 : decide (b.length ≤ k) = false := decide_eq_false (by omega)
              have q2 : (x.toList == y.toList) = false := by rw [text_beq]; exact decide_eq_false hxy
              have q3 : decide (x = y) = false := decide_eq_false hxy
              have la1 : ba < wr.heap.size := Nat.lt_of_lt_of_le hba hB0r.size
              have lb1 : bb < wr.heap.size := Nat.lt_of_lt_of_le hbb hB0r.size
              have e0 := fun p => cell_ext (w := wr) (a := ⟨ba, oa + i * 3, none⟩) la1 ha0 p
              have e1 := fun p => cell_ext (w := wr) (a := ⟨bb, ob + k * 3, none⟩) lb1 hb0 p
              clear hs hal hca hcb hxy ki kk Hal ha0 hb0
              go_wp2_with fail
              refine wp_region_ext (by kernel_rfl) (by kernel_rfl) ?_
              repeat (go_big_quiet_step (fail))
              refine wpQuiet_nil ?_
              intro _ hw'
              obtain ⟨p, rfl⟩ := hw'
              have hB3 := ext_trans hBr p.ext
              generalize p.to = V at *
              clear e0 e1 d0
              go_wp2_with fail
              go_roundw
              case rel => exact ⟨⟨n + 1, i + 1, k + 1, o + 1, cd, by omega, by have := Ki.out; omega, by have := Kk.out; omega, by omega, by go_num, by go_num, by go_num, by go_num, HAL.out⟩, hB3⟩
              case measure => simp [intOf]; omega
            · rw [hs] at d0
              have HAL := Lib.hid hal
              have Ki := Lib.hid ki
              clear hs hal Hal ki
              go_wp2_with fail
              go_roundw
              case rel => exact ⟨⟨n + 1, i + 1, k, o + 1, cd, by omega, by have := Ki.out; omega, by omega, by omega, by go_num, by go_num, by go_num, by go_num, HAL.out⟩, hBr⟩
              case measure => simp [intOf]; omega
            · rw [hs] at d0
              have HAL := Lib.hid hal
              have Kk := Lib.hid kk
              clear hs hal Hal kk
              go_wp2_with fail
              go_roundw
              case rel => exact ⟨⟨n + 1, i, k + 1, o + 1, cd, by omega, by omega, by have := Kk.out; omega, by omega, by go_num, by go_num, by go_num, by go_num, HAL.out⟩, hBr⟩
              case measure => simp [intOf]; omega
          · obtain ⟨hi9, hk9, rfl⟩ := made_end (Nat.le_of_not_lt hlt) hi hk hal
            obtain rfl : n = l.length := by omega
            have hi8 : i = a.length := hi9.trans tla.out
            have hk8 : k = b.length := hk9.trans tlb.out
            obtain rfl : o = cost := by omega
            have hB3 := ext_trans hB2 hBr
            clear hi9 hk9 hal hi hk hi' hk' tla tlb hoc
            subst hi8 hk8
            go_wp2_with fail
            refine (CE.out wr hB3).mono ?_
            rintro e w3 ⟨F2, f2, rfl, _, hb3⟩
            go_wp2_with fail
            go_ret
            exact ⟨by first | rfl | (simp; done), ext_trans hB3 hb3⟩
      · obtain ⟨e1, e2, e3⟩ := dif_no h0 h1 h2
        rw [e1, e2, e3]
        clear h0 e1 e2 e3 hrF
        go_wp2_with fail
        go_ret
        exact ⟨by first | rfl | (simp; done), hB2⟩
    · have g2 : (20 : Int) < b.length := by omega
      have g1 : ¬ (20 : Int) < a.length := by omega
      go_wp2_with fail
      go_ret
      exact ⟨rfl, hb1⟩
  · have g1 : (20 : Int) < a.length := by omega
    go_wp2_with fail
    go_ret
    exact ⟨rfl, hb1⟩
end Go.Proofs.YtmindojbkedmlaaDoor
