/- The statement PatchesTurned, walked. -/
import Derived.Test.YtfbhfimejcdopaaDoorM7
namespace Go.Proofs.YtfbhfimejcdopaaDoor
open Go.RowKit Go.Han
attribute [local irreducible] wpStill wpQuiet
set_option maxRecDepth 100000

set_option maxHeartbeats 4000000 in
theorem PatchesTurned_any (A : Option Addr) (cp : Nat) (a : List Spot) (B : Option Addr) (cq : Nat) (b : List Spot) (t : Int) (w : World) (hT : Tabs w)
    (hr : Rd w A (flat a)) (_ : A = none → a = []) (hm : a.length ≤ 9223372036854775807) (hr' : Rd w B (flat b)) (hBn : B = none → b = []) (hm' : b.length ≤ 9223372036854775807) :
    Calls Tryd.prog 9 #[.slice A a.length cp, .slice B b.length cq, .int .i64 t] w (TruePost w) := by
  have cF := Lib.hid (fun W (h : Below w.heap.size w W) => few51_any A B cp cq a b W (hr.ext h) (hr'.ext h) hm hm')
  have cD := Lib.hid (fun W (h : Below w.heap.size w W) => Diff51_any A cp a B cq b t W (utf_ext hT h) (hr.ext h) hm (hr'.ext h) hm')
  have cE := Lib.hid (fun W (h : Below w.heap.size w W) => Diff51_any B cq b A cp a t W (utf_ext hT h) (hr'.ext h) hm' (hr.ext h) hm)
  have cP := Lib.hid (fun W (h : Below w.heap.size w W) X cx (d : List Change) (hd : Rd W X (cflat d)) (hl : d.length ≤ 9223372036854775807) => Apply_any B cq b X cx d W (utf_ext hT h) (hr'.ext h) hBn hm' hd hl)
  have cY := Lib.hid (fun W (h : Below w.heap.size w W) X cx (hy : Rd W X (flat a)) => same_spt X A cx cp a a.length W rfl hy (hr.ext h) hm)
  clear hr hr'
  go_enter Tryd.func9, Tryd.ntmps9
  go_wp2_with fail
  refine (sane51_any w hT).mono ?_
  rintro e w1 ⟨rfl, hb1⟩
  go_wp2_with fail
  refine (cF.out w1 hb1).mono ?_
  rintro e w' ⟨rfl, rfl⟩
  cases hfab : (fewB a && fewB b)
  · clear hfab
    go_wp2_with fail
    go_ret
    exact ⟨rfl, hb1⟩
  rw [Bool.and_eq_true] at hfab
  have Hf := Lib.hid hfab
  clear hfab
  have hturn := diffE_turn a b t
  have h510 : (diffE a b t == 510) = (diffE b a t == 510) := by
    by_cases e : diffE a b t = 510
    · rw [e, hturn.2.1 e]
    · have e' : diffE b a t ≠ 510 := fun h => e (hturn.2.2 h)
      rw [beq_eq_false_iff_ne.2 e, beq_eq_false_iff_ne.2 e']
  go_wp2_with fail
  refine (cD.out w1 hb1).mono ?_
  rintro e w2 ⟨hb2, h2⟩
  have hB2 := ext_trans hb1 hb2
  have cE2 := Lib.hid (cE.out w2 hB2)
  clear cE cD
  rcases h2 with ⟨hn, rfl⟩ | ⟨hn, v, rfl, hown⟩
  · have n1 : (diffE a b t == 0) = false := by simpa using hn
    have hn2 : diffE b a t ≠ 0 := fun h => hn (hturn.1.2 h)
    have Hn2 := Lib.hid hn2
    clear hn hn2 hturn
    obtain ⟨q, hq⟩ : ∃ q, (diffE b a t == 510) = q := ⟨_, rfl⟩
    rw [hq] at h510
    go_wp2_with fail
    refine cE2.out.mono ?_
    rintro e w3 ⟨hb3, h3⟩
    have hB3 := ext_trans hB2 hb3
    rcases h3 with ⟨_, rfl⟩ | ⟨h0, _⟩
    · cases q
      · go_wp2_with fail
        go_ret
        exact ⟨rfl, hB3⟩
      · go_wp2_with fail
        go_ret
        exact ⟨rfl, hB3⟩
    · exact absurd h0 Hn2.out
  have hn2 := hturn.1.1 hn
  obtain ⟨q1, q2, q3, q4⟩ := diffE_zero hn
  have hla := few_len Hf.out.1 q1
  have hlb := few_len Hf.out.2 q2
  have htt := diffL_turn t ((checkE_iff a).1 q1).2.2 ((checkE_iff b).1 q2).2.2
  have hth := there_law hla hlb hn
  have hth2 := there_law hlb hla hn2
  obtain ⟨D, cd, rfl, hrd, _⟩ := hown.form (by decide)
  have hml := hth.len
  have hml2 := hth2.len
  have Hmade := Lib.hid hth2.made
  have Hn2 := Lib.hid hn2
  have Htt := Lib.hid htt
  clear hn hn2 q1 q2 q3 q4 hown hth hth2 hturn h510 htt
  have hdl := turned_len Htt.out
  go_wp2_with fail
  refine cE2.out.mono ?_
  rintro e w3 ⟨hb3, h3⟩
  have hB3 := ext_trans hB2 hb3
  rcases h3 with ⟨h0, _⟩ | ⟨_, v3, rfl, hown3⟩
  · exact absurd Hn2.out h0
  obtain ⟨E, ce, rfl, hre, _⟩ := hown3.form (by decide)
  have hrd3 := hrd.ext hb3
  clear hown3 cE2 hrd
  generalize hdd : diffL t a b = d at *
  generalize hkk : diffL t b a = k' at *
  clear hdd hkk
  have hne : ((d.length : Int) != (k'.length : Int)) = false := by simp [hdl]
  go_wp2_with fail
  go_loopw [11] (fun i wr => ∃ k : Nat, k ≤ d.length ∧ i = .int .i64 k ∧ Below w3.heap.size w3 wr) (fun i _ => d.length - (intOf i).toNat)
  case atStart => exact ⟨0, Nat.zero_le _, rfl, Below.refl _ _⟩
  case round =>
    obtain ⟨k, hk, rfl, hB⟩ := hrel
    by_cases hlt : k < d.length
    · have hlt' : k < k'.length := by omega
      obtain ⟨bb, off, rfl, hb, hc⟩ := hrd3.elem Change.size_cells (by omega) hlt
      obtain ⟨bc, of2, rfl, hb', hc'⟩ := hre.elem Change.size_cells (by omega) hlt'
      have c1 := (hB.cell (p := ⟨bb, off + k * 5 + 1, none⟩) hb).trans (hc 1 _ rfl)
      have c2 := (hB.cell (p := ⟨bb, off + k * 5 + 2, none⟩) hb).trans (hc 2 _ rfl)
      have c3 := (hB.cell (p := ⟨bb, off + k * 5 + 3, none⟩) hb).trans (hc 3 _ rfl)
      have c4 := (hB.cell (p := ⟨bb, off + k * 5 + 4, none⟩) hb).trans (hc 4 _ rfl)
      have e1 := (hB.cell (p := ⟨bc, of2 + k * 5 + 1, none⟩) hb').trans (hc' 1 _ rfl)
      have e2 := (hB.cell (p := ⟨bc, of2 + k * 5 + 2, none⟩) hb').trans (hc' 2 _ rfl)
      have e3 := (hB.cell (p := ⟨bc, of2 + k * 5 + 3, none⟩) hb').trans (hc' 3 _ rfl)
      have e4 := (hB.cell (p := ⟨bc, of2 + k * 5 + 4, none⟩) hb').trans (hc' 4 _ rfl)
      have htc := turned_at Htt.out k hlt hlt'
      have hk64 : (k : Int) < d.length := by omega
      have hk65 : (k : Int) < k'.length := by omega
      clear hc hc' hrd3 hre cP cY
      generalize d[k] = x at *
      generalize k'[k] = y at *
      obtain ⟨t1, kd1, ⟨i1, v1, s1⟩⟩ := x
      obtain ⟨t2, kd2, ⟨i2, v2, s2⟩⟩ := y
      obtain ⟨hid, hkinds⟩ := htc
      simp only at hid hkinds c1 c2 c3 c4 e1 e2 e3 e4
      subst hid
      rcases hkinds with ⟨rfl, rfl, hs⟩ | ⟨rfl, rfl, hs⟩ | ⟨rfl, rfl⟩
      · injection hs with _ h1 h2
        subst h1 h2
        have hq := fun w => run_equalIn_spot i1 v1 i1 v1 s1 s1 w
        have hqq : ((⟨i1, v1, s1⟩ : Spot) == ⟨i1, v1, s1⟩) = true := by simp
        rw [hqq] at hq
        clear hqq
        go_wp2_with fail
        go_still (by kernel_rfl)
        go_wp2
        go_roundw
        case rel => exact ⟨k + 1, by omega, by go_num, hB.drew⟩
        case measure => simp [intOf]; omega
      · injection hs with _ h1 h2
        subst h1 h2
        have hq := fun w => run_equalIn_spot i1 v1 i1 v1 s1 s1 w
        have hqq : ((⟨i1, v1, s1⟩ : Spot) == ⟨i1, v1, s1⟩) = true := by simp
        rw [hqq] at hq
        clear hqq
        go_wp2_with fail
        go_still (by kernel_rfl)
        go_wp2
        go_roundw
        case rel => exact ⟨k + 1, by omega, by go_num, hB.drew⟩
        case measure => simp [intOf]; omega
      · go_wp2_with fail
        go_still (by kernel_rfl)
        go_wp2
        go_roundw
        case rel => exact ⟨k + 1, by omega, by go_num, hB.drew⟩
        case measure => simp [intOf]; omega
    · have hBw := ext_trans hB3 hB
      have cA := Lib.hid (cP.out wr hBw E ce k' (hre.ext hB) (by omega))
      clear hrd3 hre cP
      go_wp2_with fail
      refine cA.out.mono ?_
      rintro e w5 hp5
      obtain ⟨hb5, X, cx, rfl, hrx, _⟩ := apply_ok Hmade.out.1 Hmade.out.2 rfl hp5
      have hB5 := ext_trans hBw hb5
      have cS := Lib.hid (cY.out w5 hB5 X cx hrx)
      clear cA hp5 cY
      go_wp2_with fail
      refine cS.out.mono ?_
      rintro e w6 ⟨rfl, hb6⟩
      go_wp2_with fail
      go_ret
      exact ⟨rfl, ext_trans hB5 hb6⟩
end Go.Proofs.YtfbhfimejcdopaaDoor
