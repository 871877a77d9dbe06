/- The statement DisplayBack, walked. -/
import Derived.Test.YtneanannicacnaaDoorLaw49b
import Derived.Test.YtneanannicacnaaDoorLawP
import Derived.StillTailTactics
namespace Go.Proofs.YtneanannicacnaaDoor
open Go.RowKit Go.Han
attribute [local irreducible] wpStill wpQuiet
set_option maxRecDepth 100000

theorem findR_of_get {l : List Spot} {n : Int} {y : Spot} (h : getS n l = some y) : ∃ (k : Nat) (hk : k < l.length), findR l n = k ∧ l[k] = y := by
  rcases findR_get l n with ⟨k, hk, h1, h2⟩ | ⟨_, h2⟩
  · rw [h] at h2; exact ⟨k, hk, h1, (Option.some.inj h2).symm⟩
  · rw [h] at h2; cases h2

/-- Do, where it goes well: the new display, spelled. -/
def DoneAs (l' : List Spot) (w : World) (e : Ending) (w' : World) : Prop := Below w.heap.size w w' ∧ ∃ A cp, e = .returned (.tuple #[.slice A l'.length cp, .int .i64 0]) ∧ Rd w' A (flat l')
theorem Do_done (A : Option Addr) (cp : Nat) (l : List Spot) (t kd i vr : Int) (s : ByteArray) (w : World) (hT : Tabs w) (hr : Rd w A (flat l)) (hA : A = none → l = []) (hm : l.length ≤ 9223372036854775807) (c : Change) (hc : c = ⟨t, kd, ⟨i, vr, s⟩⟩) (h0 : doE l c = 0) (l' : List Spot) (hl : madeL c l = l') :
    Calls Tryd.prog 17 #[.slice A l.length cp, .agg #[.int .i64 t, .int .i64 kd, .int .i64 i, .int .i64 vr, .string s]] w (DoneAs l' w) := by
  subst hc hl
  refine (Do_any A cp l ⟨t, kd, ⟨i, vr, s⟩⟩ w hT hr hA hm).mono ?_
  rintro e w' ⟨hb, ⟨hn, _⟩ | ⟨_, v, rfl, hown⟩⟩
  · exact absurd h0 hn
  · obtain ⟨A2, cp2, rfl, hrd2, _⟩ := own_form hown
    exact ⟨hb, A2, cp2, rfl, hrd2⟩

set_option maxHeartbeats 1000000 in
theorem DisplayBack_any (A : Option Addr) (cp : Nat) (l : List Spot) (c : Change) (w : World) (hT : Tabs w) (hr : Rd w A (flat l)) (hA : A = none → l = []) (hm : l.length ≤ 9223372036854775807) :
    Calls Tryd.prog 7 #[.slice A l.length cp, c.val] w (TruePost w) := by
  obtain ⟨t, kd, ⟨i, vr, s⟩⟩ := c
  have hv : Change.val ⟨t, kd, ⟨i, vr, s⟩⟩ = .agg #[.int .i64 t, .int .i64 kd, .int .i64 i, .int .i64 vr, .string s] := rfl
  obtain ⟨cc, hcc⟩ : ∃ cc : Change, cc = ⟨t, kd, ⟨i, vr, s⟩⟩ := ⟨_, rfl⟩
  have cD := Lib.hid (fun W (hb : Below w.heap.size w W) => Do_any A cp l ⟨t, kd, ⟨i, vr, s⟩⟩ W (utf_ext hT hb) (hr.ext hb) hA hm)
  have cR := Lib.hid (fun W (hb : Below w.heap.size w W) => do49_any A cp l ⟨t, kd, ⟨i, vr, s⟩⟩ W (hr.ext hb) hm)
  rw [← hcc] at cD cR hv ⊢
  rw [hv] at cD cR ⊢
  have cC := Lib.hid (fun W (hb : Below w.heap.size w W) => Check_any A cp l W (utf_ext hT hb) (hr.ext hb) hm)
  have cK := Lib.hid (fun W (hb : Below w.heap.size w W) => check49_any A cp l W (hr.ext hb) hm)
  have cF := Lib.hid (fun W (hb : Below w.heap.size w W) => few49_any A cp l W (hr.ext hb) hm)
  have Hl : l.length ≤ 9223372036854775807 := hm
  obtain ⟨W0, hW0⟩ : ∃ W0, w.alloc (.cells #[.int .i64 t, .int .i64 kd, .int .i64 i, .int .i64 vr, .string s] 26) = W0 := ⟨_, rfl⟩
  have hB0 : Below w.heap.size w W0 := by rw [← hW0]; exact (Below.refl _ _).alloc (Nat.le_refl _) _
  have hz0 : W0.heap.size = w.heap.size + 1 := by rw [← hW0]; simp
  have hk5 : Hid (∀ W, Below W0.heap.size W0 W → W.cell? ⟨w.heap.size, 0, none⟩ = some (.int .i64 t) ∧ W.cell? ⟨w.heap.size, 1, none⟩ = some (.int .i64 kd) ∧ W.cell? ⟨w.heap.size, 2, none⟩ = some (.int .i64 i) ∧ W.cell? ⟨w.heap.size, 3, none⟩ = some (.int .i64 vr) ∧ W.cell? ⟨w.heap.size, 4, none⟩ = some (.string s)) := by
    intro W hb
    have h0 : W0.heap[w.heap.size]? = some (.cells #[.int .i64 t, .int .i64 kd, .int .i64 i, .int .i64 vr, .string s] 26 (0, 0)) := by rw [← hW0]; exact World.alloc_heap_new _ _
    have h1 := (hb.block _ (by omega)).trans h0
    exact ⟨cell_blk h1 0, cell_blk h1 1, cell_blk h1 2, cell_blk h1 3, cell_blk h1 4⟩
  have cN := Lib.hid (fun W (hb : Below w.heap.size w W) => find49_any A cp l i W (hr.ext hb) hm)
  have cS := Lib.hid (fun W (hb : Below w.heap.size w W) (A' : Option Addr) (cp' : Nat) (l' : List Spot) (h1 : Rd W A' (flat l')) (h2 : l'.length ≤ 9223372036854775807) => same49_any A' A cp' cp l' l W h1 (hr.ext hb) h2)
  have hrr := Lib.hid hr
  have Hcc := Lib.hid hcc
  clear hcc hv hr hA
  go_enter Tryd.func7, Tryd.ntmps7
  go_wp2_with fail
  refine (sane_any W0 (utf_ext hT hB0)).mono ?_
  rintro e w1 ⟨rfl, hb1⟩
  have hB1 := ext_trans hB0 hb1
  obtain ⟨d0, d1, d2, d3, d4⟩ := hk5.out w1 hb1
  go_wp2_with fail
  refine (cF.out w1 hB1).mono ?_
  rintro e w' ⟨rfl, rfl⟩
  cases hfw : fewB l
  · clear hfw
    go_wp2_with fail
    go_ret
    exact ⟨rfl, hB1⟩
  by_cases hs : (200 : Int) < s.size
  · clear hfw
    go_wp2_with fail
    go_ret
    exact ⟨rfl, hB1⟩
  clear hfw
  go_wp2_with fail
  refine (cD.out w1 hB1).mono ?_
  rintro e w2 ⟨hb2, h2⟩
  have hb02 := ext_trans hb1 hb2
  have hB2 := ext_trans hB1 hb2
  have hz2 := hb02.size
  clear d0 d1 d2 d3 d4
  obtain ⟨d0, d1, d2, d3, d4⟩ := hk5.out w2 hb02
  rcases h2 with ⟨hn, rfl⟩ | ⟨hn, v2, rfl, hown2⟩
  · have e1 : (doE l cc == 0) = false := by simpa using hn
    clear hn
    go_wp2_with fail
    go_ret
    exact ⟨by simp, hB2⟩
  · obtain ⟨A2, cp2, rfl, hrd2, hnil2⟩ := own_form hown2
    have hbl := back_law l cc hn
    have hlen := len_of_doE hn
    have hkk := ok_kind ((doE_zero_iff l cc).1 hn).2.1
    have hk3 : kd = 1 ∨ kd = 2 ∨ kd = 3 := by
      rw [Hcc.out] at hkk
      have : 1 ≤ kd ∧ kd ≤ 3 := by simpa [kindB] using hkk
      omega
    obtain ⟨hb1', hb2', hb3', hb4'⟩ := hbl
    have HB3 := Lib.hid hb3'
    have HB4 := Lib.hid hb4'
    have cB : Hid (∀ (t' kd' i' vr' : Int) (s' : ByteArray) (hbc : backC l cc = ⟨t', kd', ⟨i', vr', s'⟩⟩) W (hb : Below w2.heap.size w2 W), Calls Tryd.prog 17 #[.slice A2 (madeL cc l).length cp2, .agg #[.int .i64 t', .int .i64 kd', .int .i64 i', .int .i64 vr', .string s']] W (DoneAs l W)) :=
      fun t' kd' i' vr' s' hbc W hb => Do_done A2 cp2 (madeL cc l) t' kd' i' vr' s' W (utf_ext hT (ext_trans hB2 hb)) (hrd2.ext hb) hnil2 (by omega) _ hbc hb1' l hb2'
    have cX : Hid (∀ W (hb : Below w2.heap.size w2 W), Calls Tryd.prog 21 #[.slice A2 (madeL cc l).length cp2, .slice A l.length cp] W fun e w' => e = .returned (.bool false) ∧ Below W.heap.size W w') := by
      intro W hb
      have := cS.out W (ext_trans hB2 hb) A2 cp2 (madeL cc l) (hrd2.ext hb) (by omega)
      rw [decide_eq_false HB3.out] at this
      exact this
    have cY : Hid (∀ W (hb : Below w2.heap.size w2 W) A3 cp3 (hr3 : Rd W A3 (flat l)), Calls Tryd.prog 21 #[.slice A3 l.length cp3, .slice A l.length cp] W fun e w' => e = .returned (.bool true) ∧ Below W.heap.size W w') := by
      intro W hb A3 cp3 hr3
      have := cS.out W (ext_trans hB2 hb) A3 cp3 l hr3 Hl
      rw [decide_eq_true (show l = l from rfl)] at this
      exact this
    have hltb : w.heap.size < w2.heap.size := by omega
    have HN := Lib.hid hn
    clear hn hb1' hb2' hb3' hb4' hkk hown2
    rcases hk3 with hkd | hkd | hkd
    · have hbk : backC l cc = ⟨t, 2, ⟨i, vr, s⟩⟩ := by unfold backC; rw [Hcc.out]; simp [hkd]
      subst hkd
      have cb := Lib.hid (cB.out _ _ _ _ _ hbk)
      clear hbk cB HB4
      go_wp2_with fail
      refine (cb.out _ (ext_alloc (Below.refl _ _) _)).mono ?_
      rintro e w3 ⟨hb3, A3, cp3, rfl, hrd3⟩
      have hB3 := ext_trans (ext_alloc (Below.refl w2.heap.size w2) _) hb3
      go_wp2_with fail
      refine (cY.out w3 hB3 A3 cp3 hrd3).mono ?_
      rintro e w4 ⟨rfl, hb4⟩
      have hB4 := ext_trans hB3 hb4
      go_wp2_with fail
      refine (cX.out w4 hB4).mono ?_
      rintro e w5 ⟨rfl, hb5⟩
      have hB5 := ext_trans hB4 hb5
      go_wp2_with fail
      go_ret
      exact ⟨by simp, ext_trans hB2 hB5⟩
    · have hbk : backC l cc = ⟨t, 1, ⟨i, vr, s⟩⟩ := by unfold backC; rw [Hcc.out]; simp [hkd]
      subst hkd
      have cb := Lib.hid (cB.out _ _ _ _ _ hbk)
      clear hbk cB HB4
      go_wp2_with fail
      refine (cb.out _ (ext_alloc (Below.refl _ _) _)).mono ?_
      rintro e w3 ⟨hb3, A3, cp3, rfl, hrd3⟩
      have hB3 := ext_trans (ext_alloc (Below.refl w2.heap.size w2) _) hb3
      go_wp2_with fail
      refine (cY.out w3 hB3 A3 cp3 hrd3).mono ?_
      rintro e w4 ⟨rfl, hb4⟩
      have hB4 := ext_trans hB3 hb4
      go_wp2_with fail
      refine (cX.out w4 hB4).mono ?_
      rintro e w5 ⟨rfl, hb5⟩
      have hB5 := ext_trans hB4 hb5
      go_wp2_with fail
      go_ret
      exact ⟨by simp, ext_trans hB2 hB5⟩
    · have hk3' : cc.kind = 3 := by rw [Hcc.out]; exact hkd
      obtain ⟨y, hy⟩ := HB4.out hk3'
      have hy' : getS i l = some y := by rw [Hcc.out] at hy; exact hy
      obtain ⟨k, hk, hf, hyk⟩ := findR_of_get hy'
      have hbk : backC l cc = ⟨t, 3, ⟨l[k].id, l[k].ver, l[k].text⟩⟩ := by
        unfold backC
        rw [if_neg (by omega), if_pos hk3', hy, hyk]
        rw [Hcc.out]
        rfl
      subst hkd
      have cb := Lib.hid (cB.out _ _ _ _ _ hbk)
      obtain ⟨b, off, rfl, hb, hc⟩ := hrr.out.elem Spot.size_cells (by omega) hk
      have x0 := (hB2.cell (p := ⟨b, off + k * 3 + 0, none⟩) hb).trans (hc 0 _ rfl)
      have x1 := (hB2.cell (p := ⟨b, off + k * 3 + 1, none⟩) hb).trans (hc 1 _ rfl)
      have x2 := (hB2.cell (p := ⟨b, off + k * 3 + 2, none⟩) hb).trans (hc 2 _ rfl)
      simp only [Nat.add_zero] at x0
      have hk64 : (k : Int) < l.length := by omega
      have HF := Lib.hid hf
      clear hbk cB HB4 hy hy' hyk hf hk3' hc
      go_wp2_with fail
      have cf := cN.out _ (ext_trans hB2 (ext_alloc (Below.refl w2.heap.size w2) (.cells #[.int .i64 t, .int .i64 2, .int .i64 i, .int .i64 vr, .string s] 26)))
      rw [HF.out] at cf
      refine cf.mono ?_
      rintro e w' ⟨rfl, rfl⟩
      have hB3 : Below w2.heap.size w2 (w2.alloc (.cells #[.int .i64 t, .int .i64 2, .int .i64 i, .int .i64 vr, .string s] 26)) := ext_alloc (Below.refl _ _) _
      have n3 := World.alloc_heap_new w2 (.cells #[.int .i64 t, .int .i64 2, .int .i64 i, .int .i64 vr, .string s] 26)
      go_wp2_with fail
      generalize w2.alloc (.cells #[.int .i64 t, .int .i64 2, .int .i64 i, .int .i64 vr, .string s] 26) = w3 at *
      have y0 := (hB3.cell (p := ⟨w.heap.size, 0, none⟩) (by omega)).trans d0
      have y1 := (hB3.cell (p := ⟨b, off + k * 3, none⟩) (by simp; have := hB2.size; omega)).trans x0
      have y2 := (hB3.cell (p := ⟨b, off + k * 3 + 1, none⟩) (by simp; have := hB2.size; omega)).trans x1
      have y3 := (hB3.cell (p := ⟨b, off + k * 3 + 2, none⟩) (by simp; have := hB2.size; omega)).trans x2
      have z0 := cell_blk n3 0
      have z1 := cell_blk n3 1
      have z2 := cell_blk n3 2
      have z3 := cell_blk n3 3
      have z4 := cell_blk n3 4
      have f0 := frozen_one n3 0
      have f1 := frozen_one n3 1
      have f2 := frozen_one n3 2
      have f3 := frozen_one n3 3
      have f4 := frozen_one n3 4
      clear d0 d1 d2 d3 d4 x0 x1 x2
      go_still_tail 7, (by kernel_rfl)
      change wpList _ _ _ _ _ w3.drew
      go_wp2_with fail
      refine (cb.out _ ?hBw).mono ?_
      case hBw => repeat (first | (with_reducible exact hB3) | (with_reducible refine ext_drew ?_) | (with_reducible refine ext_set ?_ (Nat.le_refl _) _))
      rintro e w5 ⟨hb5, A3, cp3, rfl, hrd3⟩
      have hB5 : Below w2.heap.size w2 w5 := by
        refine ext_trans ?_ hb5
        repeat (first | (with_reducible exact hB3) | (with_reducible refine ext_drew ?_) | (with_reducible refine ext_set ?_ (Nat.le_refl _) _))
      clear y0 y1 y2 y3 z0 z1 z2 z3 z4 f0 f1 f2 f3 f4 n3
      go_wp2_with fail
      refine (cY.out w5 hB5 A3 cp3 hrd3).mono ?_
      rintro e w6 ⟨rfl, hb6⟩
      have hB6 := ext_trans hB5 hb6
      go_wp2_with fail
      refine (cX.out w6 hB6).mono ?_
      rintro e w7 ⟨rfl, hb7⟩
      have hB7 := ext_trans hB6 hb7
      go_wp2_with fail
      go_ret
      exact ⟨by simp, ext_trans hB2 hB7⟩
end Go.Proofs.YtneanannicacnaaDoor
