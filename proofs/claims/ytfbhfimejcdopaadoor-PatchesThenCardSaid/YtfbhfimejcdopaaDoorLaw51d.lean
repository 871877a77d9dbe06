/- The statement PatchesThen, walked. -/
import Derived.Test.YtfbhfimejcdopaaDoorM7
namespace Go.Proofs.YtfbhfimejcdopaaDoor
open Go.RowKit Go.Han
attribute [local irreducible] wpStill wpQuiet
set_option maxRecDepth 100000

theorem thenE_first {a : List Spot} {p q : List Change} (h : applyE a p ≠ 0) : thenE a p q = applyE a p := by unfold thenE; rw [if_pos h]
theorem thenE_second {a : List Spot} {p q : List Change} (h : applyE a p = 0) (h' : applyE (applyO a p) q ≠ 0) : thenE a p q = applyE (applyO a p) q := by unfold thenE; rw [if_neg (by simpa using h), if_pos h']
set_option maxHeartbeats 4000000 in
theorem PatchesThen_any (A : Option Addr) (cp : Nat) (a : List Spot) (B : Option Addr) (cb : Nat) (p : List Change) (C : Option Addr) (cc : Nat) (q : List Change) (w : World) (hT : Tabs w)
    (hr : Rd w A (flat a)) (hA : A = none → a = []) (hm : a.length ≤ 9223372036854775807) (hrp : Rd w B (cflat p)) (hmp : p.length ≤ 9223372036854775807) (hrq : Rd w C (cflat q)) (hmq : q.length ≤ 9223372036854775807) :
    Calls Tryd.prog 8 #[.slice A a.length cp, .slice B p.length cb, .slice C q.length cc] w (TruePost w) := by
  have cF := Lib.hid (fun W (h : Below w.heap.size w W) => few51_any A none cp 0 a [] W (hr.ext h) (Rd.nil _ _) hm (by decide))
  have cp1 := Lib.hid (fun W (h : Below w.heap.size w W) => fewc49_any B cb p W (hrp.ext h) hmp)
  have cq1 := Lib.hid (fun W (h : Below w.heap.size w W) => fewc49_any C cc q W (hrq.ext h) hmq)
  have cT := Lib.hid (fun W (h : Below w.heap.size w W) => Then_any A cp a B cb p C cc q W (utf_ext hT h) (hr.ext h) hA hm (hrp.ext h) hmp (hrq.ext h) hmq)
  have cP := Lib.hid (fun W (h : Below w.heap.size w W) => Apply_any A cp a B cb p W (utf_ext hT h) (hr.ext h) hA hm (hrp.ext h) hmp)
  have cR := Lib.hid (fun W (h : Below w.heap.size w W) X cx (d : List Change) (hd : Rd W X (cflat d)) (hl : d.length ≤ 9223372036854775807) => Apply_any A cp a X cx d W (utf_ext hT h) (hr.ext h) hA hm hd hl)
  have cQ := Lib.hid (fun W (h : Below w.heap.size w W) A' cp' l (h1 : Rd W A' (flat l)) h2 h3 => Apply_any A' cp' l C cc q W (utf_ext hT h) h1 h2 h3 (hrq.ext h) hmq)
  have cK := Lib.hid (fun W (h : Below w.heap.size w W) X cx (c : List Spot) (h1 : Rd W X (flat c)) h2 => clash51_any A X cp cx a c W (hr.ext h) h1 hm h2)
  clear hr hrp hrq hA
  go_enter Tryd.func8, Tryd.ntmps8
  go_wp2_with fail
  refine (sane51_any w hT).mono ?_
  rintro e w1 ⟨rfl, hb1⟩
  by_cases hl40 : (40 : Int) < a.length
  · go_wp2_with fail
    go_ret
    exact ⟨rfl, hb1⟩
  go_wp2_with fail
  refine (cF.out w1 hb1).mono ?_
  rintro e w' ⟨rfl, rfl⟩
  cases hfab : (fewB a && fewB [])
  · clear hfab
    go_wp2_with fail
    go_ret
    exact ⟨rfl, hb1⟩
  clear hfab
  by_cases hp100 : (100 : Int) < p.length
  · go_wp2_with fail
    go_ret
    exact ⟨rfl, hb1⟩
  by_cases hq100 : (100 : Int) < q.length
  · go_wp2_with fail
    go_ret
    exact ⟨rfl, hb1⟩
  go_wp2_with fail
  refine (cp1.out w1 hb1).mono ?_
  rintro e w' ⟨rfl, rfl⟩
  cases fewC p
  · go_wp2_with fail
    go_ret
    exact ⟨rfl, hb1⟩
  go_wp2_with fail
  refine (cq1.out w1 hb1).mono ?_
  rintro e w' ⟨rfl, rfl⟩
  cases fewC q
  · go_wp2_with fail
    go_ret
    exact ⟨rfl, hb1⟩
  have cT1 := Lib.hid (cT.out w1 hb1)
  clear cF cp1 cq1 cT
  go_wp2_with fail
  refine cT1.out.mono ?_
  rintro e w2 ⟨hb2, h2⟩
  have hB2 := ext_trans hb1 hb2
  have cP2 := Lib.hid (cP.out w2 hB2)
  clear cT1 cP
  by_cases ha : applyE a p = 0
  rotate_left
  · have hE := thenE_first (q := q) ha
    rcases h2 with ⟨hn, rfl⟩ | ⟨h0, _⟩
    · rw [hE]
      have n1 : (applyE a p == 0) = false := by simpa using ha
      clear hn hE
      go_wp2_with fail
      refine cP2.out.mono ?_
      rintro e w3 hp3
      obtain ⟨hb3, rfl⟩ := apply_er rfl ha hp3
      have hB3 := ext_trans hB2 hb3
      clear ha
      go_wp2_with fail
      go_ret
      exact ⟨by simp, hB3⟩
    · exact absurd (hE.symm.trans h0) ha
  by_cases hq : applyE (applyO a p) q = 0
  rotate_left
  · have hE := thenE_second ha hq
    rcases h2 with ⟨hn, rfl⟩ | ⟨h0, _⟩
    · rw [hE]
      have Ha := Lib.hid ha
      have hck := check_len (applyO_check ha)
      have n1 : (applyE (applyO a p) q == 0) = false := by simpa using hq
      clear hn hE ha
      go_wp2_with fail
      refine cP2.out.mono ?_
      rintro e w3 hp3
      obtain ⟨hb3, X, cx, rfl, hrx, hX⟩ := apply_ok Ha.out rfl rfl hp3
      have hB3 := ext_trans hB2 hb3
      have cQ3 := Lib.hid (cQ.out w3 hB3 X cx _ hrx hX (by omega))
      have Hq := Lib.hid hq
      clear hq cP2 hp3
      go_wp2_with fail
      refine cQ3.out.mono ?_
      rintro e w4 hp4
      obtain ⟨hb4, rfl⟩ := apply_er rfl Hq.out hp4
      have hB4 := ext_trans hB3 hb4
      go_wp2_with fail
      go_ret
      exact ⟨by simp, hB4⟩
    · exact absurd (hE.symm.trans h0) hq
  have hlaw := then_law (by omega) (by omega) (by omega) ha hq
  have hck := check_len (applyO_check ha)
  have hck2 := check_len (applyO_check hq)
  have Ha := Lib.hid ha
  have Hq := Lib.hid hq
  have HL := Lib.hid hlaw
  clear ha hq hlaw
  rcases h2 with ⟨hn, rfl⟩ | ⟨h0, R, cr, rfl, hrr⟩
  · obtain ⟨l1, l2, _, l4⟩ := HL.out.err hn
    rw [l1]
    have hpq : 0 < p.length + q.length := by
      rcases Nat.eq_zero_or_pos (p.length + q.length) with h | h
      · exact absurd ⟨List.eq_nil_of_length_eq_zero (by omega), List.eq_nil_of_length_eq_zero (by omega)⟩ l4
      · exact h
    have hw1 : IntKind.i64.wrap ((p.length : Int) + (q.length : Int)) = (p.length : Int) + (q.length : Int) := by rw [IntKind.wrap_i64]; omega
    have hw2 : (0 : Int) < (p.length : Int) + (q.length : Int) := by omega
    have L2 := Lib.hid l2
    clear hn l1 l2 l4
    go_wp2_with fail
    refine cP2.out.mono ?_
    rintro e w3 hp3
    obtain ⟨hb3, X, cx, rfl, hrx, hX⟩ := apply_ok Ha.out rfl rfl hp3
    have hB3 := ext_trans hB2 hb3
    have cQ3 := Lib.hid (cQ.out w3 hB3 X cx _ hrx hX (by omega))
    clear cP2 hp3
    go_wp2_with fail
    refine cQ3.out.mono ?_
    rintro e w4 hp4
    obtain ⟨hb4, Y, cy, rfl, hry, hY⟩ := apply_ok Hq.out rfl rfl hp4
    have hB4 := ext_trans hB3 hb4
    have cK4 := cK.out w4 hB4 Y cy _ hry (by omega)
    rw [L2.out] at cK4
    have CK := Lib.hid cK4
    clear cK4 cQ3 hp4
    go_wp2_with fail
    refine CK.out.mono ?_
    rintro e w5 ⟨rfl, hb5⟩
    go_wp2_with fail
    go_ret
    exact ⟨by simp, ext_trans hB4 hb5⟩
  · obtain ⟨m1, m2, m3⟩ := HL.out.made h0
    have M1 := Lib.hid m1
    have M2 := Lib.hid m2
    have hw1 : IntKind.i64.wrap ((p.length : Int) + (q.length : Int)) = (p.length : Int) + (q.length : Int) := by rw [IntKind.wrap_i64]; omega
    have hw2 : ((thenO a p q).length : Int) ≤ (p.length : Int) + (q.length : Int) := by omega
    clear h0 m1 m2
    go_wp2_with fail
    refine cP2.out.mono ?_
    rintro e w3 hp3
    obtain ⟨hb3, X, cx, rfl, hrx, hX⟩ := apply_ok Ha.out rfl rfl hp3
    have hB3 := ext_trans hB2 hb3
    have cQ3 := Lib.hid (cQ.out w3 hB3 X cx _ hrx hX (by omega))
    clear cP2 hp3
    go_wp2_with fail
    refine cQ3.out.mono ?_
    rintro e w4 hp4
    obtain ⟨hb4, Y, cy, rfl, hry, hY⟩ := apply_ok Hq.out rfl rfl hp4
    have hB4 := ext_trans hB3 hb4
    have cR4 := Lib.hid (cR.out w4 hB4 R cr _ ((hrr.ext hb3).ext hb4) (by omega))
    clear cQ3 hp4
    go_wp2_with fail
    refine cR4.out.mono ?_
    rintro e w5 hp5
    obtain ⟨hb5, Z, cz, rfl, hrz, _⟩ := apply_ok M1.out M2.out rfl hp5
    have hB5 := ext_trans hB4 hb5
    have cS := Lib.hid (same_spt Z Y cz cy _ _ w5 rfl hrz (hry.ext hb5) (by omega))
    clear cR4 hp5
    go_wp2_with fail
    refine cS.out.mono ?_
    rintro e w6 ⟨rfl, hb6⟩
    go_wp2_with fail
    go_ret
    exact ⟨by simp, ext_trans hB5 hb6⟩
end Go.Proofs.YtfbhfimejcdopaaDoor
