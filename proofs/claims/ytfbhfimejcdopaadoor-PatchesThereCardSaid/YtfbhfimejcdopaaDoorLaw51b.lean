/- The statement PatchesThere, walked. -/
import Derived.Test.YtfbhfimejcdopaaDoorM7
namespace Go.Proofs.YtfbhfimejcdopaaDoor
open Go.RowKit Go.Han
attribute [local irreducible] wpStill wpQuiet
set_option maxRecDepth 100000

theorem nil_bool {d : List Change} {a b : List Spot} (h : d = [] ↔ a = b) : ((d.length : Int) == 0) = decide (a = b) := by
  by_cases e : a = b
  · rw [decide_eq_true e, h.2 e]; rfl
  · rw [decide_eq_false e]
    have : d.length ≠ 0 := fun hl => e (h.1 (List.eq_nil_of_length_eq_zero hl))
    simpa using this
set_option maxHeartbeats 2000000 in
theorem PatchesThere_any (A : Option Addr) (cp : Nat) (a : List Spot) (B : Option Addr) (cq : Nat) (b : List Spot) (t : Int) (C : Option Addr) (cr : Nat) (p : List Change) (w : World) (hT : Tabs w)
    (hr : Rd w A (flat a)) (hA : A = none → a = []) (hm : a.length ≤ 9223372036854775807) (hr' : Rd w B (flat b)) (_ : B = none → b = []) (hm' : b.length ≤ 9223372036854775807) (hrp : Rd w C (cflat p)) (hmp : p.length ≤ 9223372036854775807) :
    Calls Tryd.prog 7 #[.slice A a.length cp, .slice B b.length cq, .int .i64 t, .slice C p.length cr] w (TruePost w) := by
  have cF := Lib.hid (fun W (h : Below w.heap.size w W) => few51_any A B cp cq a b W (hr.ext h) (hr'.ext h) hm hm')
  have cC := Lib.hid (fun W (h : Below w.heap.size w W) => fewc49_any C cr p W (hrp.ext h) hmp)
  have cD := Lib.hid (fun W (h : Below w.heap.size w W) => Diff51_any A cp a B cq b t W (utf_ext hT h) (hr.ext h) hm (hr'.ext h) hm')
  have cP := Lib.hid (fun W (h : Below w.heap.size w W) X cx (d : List Change) (hd : Rd W X (cflat d)) (hl : d.length ≤ 9223372036854775807) => Apply_any A cp a X cx d W (utf_ext hT h) (hr.ext h) hA hm hd hl)
  have cPp := Lib.hid (fun W (h : Below w.heap.size w W) => Apply_any A cp a C cr p W (utf_ext hT h) (hr.ext h) hA hm (hrp.ext h) hmp)
  have cS := Lib.hid (fun W (h : Below w.heap.size w W) => same49_any A B cp cq a b W (hr.ext h) (hr'.ext h) hm)
  have cY := Lib.hid (fun W (h : Below w.heap.size w W) X cx (y : List Spot) (hy : Rd W X (flat y)) (hl : y.length ≤ 9223372036854775807) => same49_any X B cx cq y b W hy (hr'.ext h) hl)
  clear hr hr' hrp
  go_enter Tryd.func7, Tryd.ntmps7
  go_wp2_with fail
  refine (sane51_any w hT).mono ?_
  rintro e w1 ⟨rfl, hb1⟩
  go_wp2_with fail
  refine (cF.out w1 hb1).mono ?_
  rintro e w' ⟨rfl, rfl⟩
  cases hfab : (fewB a && fewB b)
  · clear hfab
    go_wp2_with fail
    go_ret
    exact ⟨rfl, hb1⟩
  rw [Bool.and_eq_true] at hfab
  obtain ⟨hfa, hfb⟩ := hfab
  go_wp2_with fail
  refine (cC.out w1 hb1).mono ?_
  rintro e w' ⟨rfl, rfl⟩
  cases hfp : fewC p
  · clear hfp
    go_wp2_with fail
    go_ret
    exact ⟨rfl, hb1⟩
  clear hfp
  have Hf := Lib.hid (And.intro hfa hfb)
  clear hfa hfb
  go_wp2_with fail
  refine (cD.out w1 hb1).mono ?_
  rintro e w2 ⟨hb2, h2⟩
  have hB2 := ext_trans hb1 hb2
  rcases h2 with ⟨hn, rfl⟩ | ⟨hn, v, rfl, hown⟩
  · have n1 : (diffE a b t == 0) = false := by simpa using hn
    clear hn
    go_wp2_with fail
    go_ret
    exact ⟨rfl, hB2⟩
  obtain ⟨q1, q2, q3, q4⟩ := diffE_zero hn
  have hla := few_len Hf.out.1 q1
  have hlb := few_len Hf.out.2 q2
  have hth := there_law hla hlb hn
  obtain ⟨D, cd, rfl, hrd, _⟩ := hown.form (by decide)
  have hml := hth.len
  have Hth := Lib.hid hth
  clear hn q1 q2 q3 q4 hown hth
  generalize hdd : diffL t a b = d at *
  clear hdd
  have hnb := Lib.hid (nil_bool Hth.out.none)
  go_wp2_with fail
  go_loopw [11] (fun i wr => ∃ k : Nat, k ≤ d.length ∧ i = .int .i64 k ∧ Below w2.heap.size w2 wr) (fun i _ => d.length - (intOf i).toNat)
  case atStart => exact ⟨0, Nat.zero_le _, rfl, Below.refl _ _⟩
  case round =>
    obtain ⟨k, hk, rfl, hB⟩ := hrel
    by_cases hlt : k < d.length
    · obtain ⟨bb, off, rfl, hb, hc⟩ := hrd.elem Change.size_cells (by omega) hlt
      have c0 := (hB.cell (p := ⟨bb, off + k * 5 + 0, none⟩) hb).trans (hc 0 _ rfl)
      have c2 := (hB.cell (p := ⟨bb, off + k * 5 + 2, none⟩) hb).trans (hc 2 _ rfl)
      simp only [Nat.add_zero] at c0
      rw [Hth.out.at_ _ (List.getElem_mem hlt)] at c0
      have hk64 : (k : Int) < d.length := by omega
      by_cases hk0 : k = 0
      · subst hk0
        simp only [Nat.zero_mul, Nat.add_zero] at c0 c2
        clear hc hrd cD cP cS cY cPp
        go_wp2_with fail
        go_still (by kernel_rfl)
        go_wp2
        go_roundw
        case rel => exact ⟨1, by omega, by go_num, hB.drew⟩
        case measure => simp [intOf]; omega
      · obtain ⟨bb', off', he', hb', hc'⟩ := hrd.elem Change.size_cells (by omega) (show k - 1 < d.length by omega)
        cases he'
        have e2 := (hB.cell (p := ⟨bb, off + (k - 1) * 5 + 2, none⟩) hb).trans (hc' 2 _ rfl)
        have hids : ∀ j (h : j + 1 < d.length), d[j].spot.id < d[j + 1].spot.id := Hth.out.ids
        have hids' : d[k - 1].spot.id < d[k].spot.id := by
          have h := hids (k - 1) (by omega)
          have e : d[k - 1 + 1]'(by omega) = d[k] := by congr 1; omega
          rw [e] at h; exact h
        have g1 : decide (d[k - 1].spot.id ≥ d[k].spot.id) = false := decide_eq_false (by omega)
        have g0 : decide (0 < k) = true := decide_eq_true (by omega)
        have g0' : 0 < k := by omega
        have w1 : IntKind.i64.wrap ((k : Int) - 1) = (k : Int) - 1 := by rw [IntKind.wrap_i64]; omega
        have w2 : (0 : Int) ≤ (k : Int) - 1 := by omega
        have w3 : (1 : Int) ≤ (k : Int) := by omega
        have w4 : (k : Int) - 1 < d.length := by omega
        have w5 : ((k : Int) - 1).toNat = k - 1 := by omega
        clear hc hc' hrd cD cP cS cY cPp hids hids'
        generalize d[k - 1].spot.id = x at *
        generalize d[k].spot.id = y at *
        go_wp2_with fail
        go_still (by kernel_rfl)
        go_wp2
        go_roundw
        case rel => exact ⟨k + 1, by omega, by go_num, hB.drew⟩
        case measure => simp [intOf]; omega
    · have hBw := ext_trans hB2 hB
      have cA := Lib.hid (cP.out wr hBw D cd d (hrd.ext hB) (by omega))
      go_wp2_with fail
      refine cA.out.mono ?_
      rintro e w3 hp3
      obtain ⟨hb3, X, cx, rfl, hrx, _⟩ := apply_ok Hth.out.made.1 Hth.out.made.2 rfl hp3
      have hB3 := ext_trans hBw hb3
      have cSx := Lib.hid (cY.out w3 hB3 X cx b hrx hm')
      have cS3 := fun W h => cS.out W (ext_trans hB3 h)
      clear cA hp3 hrd cD cP
      go_wp2_with fail
      refine cSx.out.mono ?_
      rintro e w4 ⟨rfl, hb4⟩
      have hB4 := ext_trans hB3 hb4
      simp only [decide_true]
      go_wp2_with fail
      refine (cS3 w4 hb4).mono ?_
      rintro e w5 ⟨rfl, hb5⟩
      have hB5 := ext_trans hB4 hb5
      rw [← hnb.out]
      have cA5 := Lib.hid (cPp.out w5 hB5)
      clear cSx cS3 cPp
      go_wp2_with fail
      refine cA5.out.mono ?_
      rintro e w6 ⟨hb6, h6⟩
      have hB6 := ext_trans hB5 hb6
      rcases h6 with ⟨hn6, rfl⟩ | ⟨hn6, Y, cy, rfl, hry, _⟩
      · have n6 : (applyE a p == 0) = false := by simpa using hn6
        clear cA5
        go_wp2_with fail
        go_ret
        exact ⟨rfl, hB6⟩
      · have hck := check_len (applyO_check hn6)
        have cS6 := Lib.hid (cY.out w6 hB6 Y cy _ hry (by omega))
        have Hn6 := Lib.hid hn6
        clear hn6 cA5
        go_wp2_with fail
        refine cS6.out.mono ?_
        rintro e w7 ⟨rfl, hb7⟩
        have hB7 := ext_trans hB6 hb7
        by_cases hq : applyO a p = b
        · have hge := Hth.out.least p Hn6.out hq
          have hge2 : (d.length : Int) ≤ (p.length : Int) := by omega
          rw [decide_eq_true hq]
          clear hq cS6
          go_wp2_with fail
          go_ret
          exact ⟨rfl, hB7⟩
        · rw [decide_eq_false hq]
          clear hq cS6
          go_wp2_with fail
          go_ret
          exact ⟨rfl, hB7⟩
end Go.Proofs.YtfbhfimejcdopaaDoor
