/- The statements DisplaySpec and DisplayPlaySpec, walked. -/
import Derived.Test.YtneanannicacnaaDoorLaw49a
namespace Go.Proofs.YtneanannicacnaaDoor
open Go.RowKit Go.Han
attribute [local irreducible] wpStill wpQuiet
set_option maxRecDepth 100000

theorem DisplaySpec_any (A : Option Addr) (cp : Nat) (l : List Spot) (c : Change) (w : World) (hT : Tabs w) (hr : Rd w A (flat l)) (hA : A = none → l = []) (hm : l.length ≤ 9223372036854775807) :
    Calls Tryd.prog 3 #[.slice A l.length cp, c.val] w (TruePost w) := by
  obtain ⟨t, kd, ⟨i, vr, s⟩⟩ := c
  have hv : Change.val ⟨t, kd, ⟨i, vr, s⟩⟩ = .agg #[.int .i64 t, .int .i64 kd, .int .i64 i, .int .i64 vr, .string s] := rfl
  obtain ⟨cc, hcc⟩ : ∃ cc : Change, cc = ⟨t, kd, ⟨i, vr, s⟩⟩ := ⟨_, rfl⟩
  have cD := Lib.hid (fun W (hb : Below w.heap.size w W) => Do_any A cp l ⟨t, kd, ⟨i, vr, s⟩⟩ W (utf_ext hT hb) (hr.ext hb) hA hm)
  have cR := Lib.hid (fun W (hb : Below w.heap.size w W) => do49_any A cp l ⟨t, kd, ⟨i, vr, s⟩⟩ W (hr.ext hb) hm)
  rw [← hcc] at cD cR hv ⊢
  rw [hv] at cD cR ⊢
  have cC := Lib.hid (fun W (hb : Below w.heap.size w W) => Check_any A cp l W (utf_ext hT hb) (hr.ext hb) hm)
  have cK := Lib.hid (fun W (hb : Below w.heap.size w W) => check49_any A cp l W (hr.ext hb) hm)
  have cF := Lib.hid (fun W (hb : Below w.heap.size w W) => few49_any A cp l W (hr.ext hb) hm)
  have Hl : l.length ≤ 9223372036854775807 := hm
  obtain ⟨W0, hW0⟩ : ∃ W0, w.alloc (.cells #[.int .i64 t, .int .i64 kd, .int .i64 i, .int .i64 vr, .string s] 26) = W0 := ⟨_, rfl⟩
  have hB0 : Below w.heap.size w W0 := by rw [← hW0]; exact (Below.refl _ _).alloc (Nat.le_refl _) _
  have hz0 : W0.heap.size = w.heap.size + 1 := by rw [← hW0]; simp
  have hk5 : Hid (∀ W, Below W0.heap.size W0 W → W.cell? ⟨w.heap.size, 0, none⟩ = some (.int .i64 t) ∧ W.cell? ⟨w.heap.size, 1, none⟩ = some (.int .i64 kd) ∧ W.cell? ⟨w.heap.size, 2, none⟩ = some (.int .i64 i) ∧ W.cell? ⟨w.heap.size, 3, none⟩ = some (.int .i64 vr) ∧ W.cell? ⟨w.heap.size, 4, none⟩ = some (.string s)) := by
    intro W hb
    have h0 : W0.heap[w.heap.size]? = some (.cells #[.int .i64 t, .int .i64 kd, .int .i64 i, .int .i64 vr, .string s] 26 (0, 0)) := by rw [← hW0]; exact World.alloc_heap_new _ _
    have h1 := (hb.block _ (by omega)).trans h0
    exact ⟨cell_blk h1 0, cell_blk h1 1, cell_blk h1 2, cell_blk h1 3, cell_blk h1 4⟩
  clear hcc hv hr hA
  go_enter Tryd.func3, Tryd.ntmps3
  go_wp2_with fail
  refine (sane_any W0 (utf_ext hT hB0)).mono ?_
  rintro e w1 ⟨rfl, hb1⟩
  have hB1 := ext_trans hB0 hb1
  obtain ⟨d0, d1, d2, d3, d4⟩ := hk5.out w1 hb1
  go_wp2_with fail
  refine (cF.out w1 hB1).mono ?_
  rintro e w' ⟨rfl, rfl⟩
  cases hfw : fewB l
  · clear hfw
    go_wp2_with fail
    go_ret
    exact ⟨rfl, hB1⟩
  by_cases hs : (200 : Int) < s.size
  · clear hfw
    go_wp2_with fail
    go_ret
    exact ⟨rfl, hB1⟩
  clear hfw
  go_wp2_with fail
  refine (cD.out w1 hB1).mono ?_
  rintro e w2 ⟨hb2, h2⟩
  have hb02 := ext_trans hb1 hb2
  have hB2 := ext_trans hB1 hb2
  clear d0 d1 d2 d3 d4
  obtain ⟨d0, d1, d2, d3, d4⟩ := hk5.out w2 hb02
  rcases h2 with ⟨hn, rfl⟩ | ⟨hn, v2, rfl, hown2⟩
  · have Hn := Lib.hid hn
    clear hn
    go_wp2_with fail
    refine (cR.out w2 hB2).mono ?_
    rintro e w3 ⟨hb3, h3⟩
    have hB3 := ext_trans hB2 hb3
    rcases h3 with ⟨hn3, rfl⟩ | ⟨hn3, v3, rfl, hown3⟩
    · clear hn3
      go_wp2_with fail
      refine (cC.out w3 hB3).mono ?_
      rintro e w4 ⟨rfl, hb4⟩
      have hB4 := ext_trans hB3 hb4
      go_wp2_with fail
      refine (cK.out w4 hB4).mono ?_
      rintro e w5 ⟨rfl, hb5⟩
      have hB5 := ext_trans hB4 hb5
      go_wp2_with fail
      refine (same49_any none none 0 0 [] [] w5 (Rd.nil _ _) (Rd.nil _ _) (by simp)).mono ?_
      rintro e w6 ⟨rfl, hb6⟩
      have hB6 := ext_trans hB5 hb6
      go_wp2_with fail
      go_ret
      exact ⟨by simp, hB6⟩
    · exact absurd hn3 Hn.out
  · have Hn := Lib.hid hn
    clear hn
    obtain ⟨A2, cp2, rfl, hrd2, _⟩ := own_form hown2
    go_wp2_with fail
    refine (cR.out w2 hB2).mono ?_
    rintro e w3 ⟨hb3, h3⟩
    have hB3 := ext_trans hB2 hb3
    rcases h3 with ⟨hn3, rfl⟩ | ⟨hn3, v3, rfl, hown3⟩
    · exact absurd Hn.out hn3
    · obtain ⟨A3, cp3, rfl, hrd3, _⟩ := own_form hown3
      clear hn3
      go_wp2_with fail
      refine (cC.out w3 hB3).mono ?_
      rintro e w4 ⟨rfl, hb4⟩
      have hB4 := ext_trans hB3 hb4
      go_wp2_with fail
      refine (cK.out w4 hB4).mono ?_
      rintro e w5 ⟨rfl, hb5⟩
      have hB5 := ext_trans hB4 hb5
      have hlen : (madeL cc l).length ≤ 9223372036854775807 := by
        have := len_of_doE Hn.out
        omega
      have hq := same49_any A2 A3 cp2 cp3 (madeL cc l) (madeL cc l) w5 (((hrd2.ext hb3).ext hb4).ext hb5) ((hrd3.ext hb4).ext hb5) hlen
      rw [decide_eq_true (show madeL cc l = madeL cc l from rfl)] at hq
      have Hq := Lib.hid hq
      clear hq hlen
      go_wp2_with fail
      refine Hq.out.mono ?_
      rintro e w6 ⟨rfl, hb6⟩
      have hB6 := ext_trans hB5 hb6
      go_wp2_with fail
      go_ret
      exact ⟨by simp, hB6⟩

theorem DisplayPlaySpec_any (A : Option Addr) (cp : Nat) (l : List Change) (t : Int) (w : World) (hT : Tabs w) (hr : Rd w A (cflat l)) (hm : l.length ≤ 9223372036854775807) :
    Calls Tryd.prog 4 #[.slice A l.length cp, .int .i64 t] w (TruePost w) := by
  have cF := Lib.hid (fun W (hb : Below w.heap.size w W) => fewc49_any A cp l W (hr.ext hb) hm)
  have cP := Lib.hid (fun W (hb : Below w.heap.size w W) => Play_any A cp l t W (utf_ext hT hb) (hr.ext hb) hm)
  have cQ := Lib.hid (fun W (hb : Below w.heap.size w W) => Play49_any A cp l t W (hr.ext hb) hm)
  have cW := Lib.hid (fun W (hb : Below w.heap.size w W) => Withdrawn_any A cp l t W (utf_ext hT hb) (hr.ext hb) hm)
  have cV := Lib.hid (fun W (hb : Below w.heap.size w W) => Withdrawn49_any A cp l t W (hr.ext hb) hm)
  clear hr
  go_enter Tryd.func4, Tryd.ntmps4
  go_wp2_with fail
  refine (sane_any w hT).mono ?_
  rintro e w1 ⟨rfl, hB1⟩
  go_wp2_with fail
  refine (cF.out w1 hB1).mono ?_
  rintro e w' ⟨rfl, rfl⟩
  cases hfw : fewC l
  · clear hfw
    go_wp2_with fail
    go_ret
    exact ⟨rfl, hB1⟩
  clear hfw
  go_wp2_with fail
  refine (cP.out w1 hB1).mono ?_
  rintro e w2 ⟨hb2, h2⟩
  have hB2 := ext_trans hB1 hb2
  rcases h2 with ⟨hn, rfl⟩ | ⟨hn, v2, rfl, hown2⟩
  · have Hn := Lib.hid hn
    clear hn
    go_wp2_with fail
    refine (cQ.out w2 hB2).mono ?_
    rintro e w3 ⟨hb3, h3⟩
    have hB3 := ext_trans hB2 hb3
    rcases h3 with ⟨hn3, rfl⟩ | ⟨hn3, v3, rfl, hown3⟩
    · clear hn3
      go_wp2_with fail
      refine (cW.out w3 hB3).mono ?_
      rintro e w4 ⟨hb4, rfl⟩
      have hB4 := ext_trans hB3 hb4
      rw [if_neg Hn.out]
      go_wp2_with fail
      refine (cV.out w4 hB4).mono ?_
      rintro e w5 ⟨hb5, rfl⟩
      have hB5 := ext_trans hB4 hb5
      rw [if_neg Hn.out]
      go_wp2_with fail
      refine (same49_any none none 0 0 [] [] w5 (Rd.nil _ _) (Rd.nil _ _) (by simp)).mono ?_
      rintro e w6 ⟨rfl, hb6⟩
      have hB6 := ext_trans hB5 hb6
      go_wp2_with fail
      go_ret
      exact ⟨by simp, hB6⟩
    · exact absurd hn3 Hn.out
  · have Hn := Lib.hid hn
    clear hn
    obtain ⟨A2, cp2, rfl, hrd2, _⟩ := own_form hown2
    go_wp2_with fail
    refine (cQ.out w2 hB2).mono ?_
    rintro e w3 ⟨hb3, h3⟩
    have hB3 := ext_trans hB2 hb3
    rcases h3 with ⟨hn3, rfl⟩ | ⟨hn3, v3, rfl, hown3⟩
    · exact absurd Hn.out hn3
    · obtain ⟨A3, cp3, rfl, hrd3, _⟩ := own_form hown3
      clear hn3
      go_wp2_with fail
      refine (cW.out w3 hB3).mono ?_
      rintro e w4 ⟨hb4, rfl⟩
      have hB4 := ext_trans hB3 hb4
      rw [if_pos Hn.out, Hn.out]
      go_wp2_with fail
      refine (cV.out w4 hB4).mono ?_
      rintro e w5 ⟨hb5, rfl⟩
      have hB5 := ext_trans hB4 hb5
      rw [if_pos Hn.out, Hn.out]
      have hlen : (playL l t).length ≤ 9223372036854775807 := by
        have := len_of_playE Hn.out
        omega
      have hq := same49_any A2 A3 cp2 cp3 (playL l t) (playL l t) w5 (((hrd2.ext hb3).ext hb4).ext hb5) ((hrd3.ext hb4).ext hb5) hlen
      rw [decide_eq_true (show playL l t = playL l t from rfl)] at hq
      have Hq := Lib.hid hq
      clear hq hlen
      go_wp2_with fail
      refine Hq.out.mono ?_
      rintro e w6 ⟨rfl, hb6⟩
      have hB6 := ext_trans hB5 hb6
      go_wp2_with fail
      go_ret
      exact ⟨by simp, hB6⟩
end Go.Proofs.YtneanannicacnaaDoor
