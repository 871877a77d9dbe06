/- The reference's package of displays: whether a change fits. -/
import Derived.Test.YtneanannicacnaaDoorRef49c
namespace Go.Proofs.YtneanannicacnaaDoor
open Go.RowKit Go.Han
attribute [local irreducible] wpStill wpQuiet
set_option maxRecDepth 100000

theorem findR_get (l : List Spot) (n : Int) : (∃ (k : Nat) (h : k < l.length), findR l n = k ∧ getS n l = some l[k]) ∨ (findR l n = -1 ∧ getS n l = none) := by
  unfold findR getS
  cases h : l.findIdx? (fun x => x.id == n) with
  | none =>
    right
    rw [List.findIdx?_eq_none_iff] at h
    exact ⟨rfl, List.find?_eq_none.2 (fun x hx => by simpa using h x hx)⟩
  | some k =>
    left
    rw [List.findIdx?_eq_some_iff_getElem] at h
    obtain ⟨hk, h1, h2⟩ := h
    refine ⟨k, hk, rfl, ?_⟩
    rw [List.find?_eq_some_iff_getElem]
    exact ⟨h1, k, hk, rfl, fun j hj => by simpa using h2 j hj⟩

def verB (vr : Int) (o : Option Spot) : Bool := match o with | some y => !(y.ver == vr) | none => false
set_option maxHeartbeats 400000 in
theorem fits49_any (A : Option Addr) (cp : Nat) (l : List Spot) (c : Change) (w : World) (hr : Rd w A (flat l)) (hm : l.length ≤ 9223372036854775807) :
    Calls Tryd.prog 54 #[.slice A l.length cp, c.val] w (TestPost (fitsG c (getS c.spot.id l)) w) := by
  obtain ⟨t, kd, ⟨i, vr, s⟩⟩ := c
  unfold Change.val
  simp only
  obtain ⟨W1, hW1⟩ : ∃ W1, w.alloc (.cells #[.int .i64 t, .int .i64 kd, .int .i64 i, .int .i64 vr, .string s] 26) = W1 := ⟨_, rfl⟩
  have hB1 : Below w.heap.size w W1 := by rw [← hW1]; exact (Below.refl _ _).alloc (Nat.le_refl _) _
  have c0 : W1.cell? ⟨w.heap.size, 0, none⟩ = some (.int .i64 t) := by rw [← hW1]; simp [go_sem]
  have c1 : W1.cell? ⟨w.heap.size, 1, none⟩ = some (.int .i64 kd) := by rw [← hW1]; simp [go_sem]
  have c2 : W1.cell? ⟨w.heap.size, 2, none⟩ = some (.int .i64 i) := by rw [← hW1]; simp [go_sem]
  have c3 : W1.cell? ⟨w.heap.size, 3, none⟩ = some (.int .i64 vr) := by rw [← hW1]; simp [go_sem]
  have c4 : W1.cell? ⟨w.heap.size, 4, none⟩ = some (.string s) := by rw [← hW1]; simp [go_sem]
  have Hg : Hid (∀ o, fitsG ⟨t, kd, ⟨i, vr, s⟩⟩ o = if kd = 1 then o.isNone else if kd = 2 then o == some ⟨i, vr, s⟩ else verB vr o) := fun o => rfl
  have hf := Lib.hid (findR_get l i)
  have cf := Lib.hid (find49_any A cp l i W1 (hr.ext hB1) hm)
  generalize getS i l = o at *
  generalize fitsG ⟨t, kd, ⟨i, vr, s⟩⟩ = G at *
  have hfind : ∀ W, Rd W A (flat l) → True := fun _ _ => trivial
  clear hfind
  by_cases k1 : kd = 1
  · have HG : Hid (G o = o.isNone) := by show _ = _; rw [Hg.out, if_pos k1]
    have e1 : (kd == 1) = true := by simpa using k1
    clear k1 Hg
    go_enter Tryd.func54, Tryd.ntmps54
    go_wp2_with fail
    refine cf.out.mono ?_
    rintro e w' ⟨rfl, rfl⟩
    rcases hf.out with ⟨k, hk, he, hg⟩ | ⟨he, hg⟩
    · rw [he]
      have HG2 : Hid (G o = false) := by show _ = _; rw [HG.out, hg]; rfl
      have d1 : decide ((k : Int) < 0) = false := by simp
      clear hg he cf hf
      go_wp2
      go_ret
      exact ⟨by rw [HG2.out]; rfl, hB1⟩
    · rw [he]
      have HG2 : Hid (G o = true) := by show _ = _; rw [HG.out, hg]; rfl
      clear hg he cf hf
      go_wp2
      go_ret
      exact ⟨by rw [HG2.out]; rfl, hB1⟩
  have e1 : (kd == 1) = false := by simpa using k1
  by_cases k2 : kd = 2
  · have HG : Hid (G o = (o == some ⟨i, vr, s⟩)) := by show _ = _; rw [Hg.out, if_neg k1, if_pos k2]
    have e2 : (kd == 2) = true := by simpa using k2
    clear k1 k2 Hg
    go_enter Tryd.func54, Tryd.ntmps54
    go_wp2_with fail
    refine cf.out.mono ?_
    rintro e w' ⟨rfl, rfl⟩
    rcases hf.out with ⟨k, hk, he, hg⟩ | ⟨he, hg⟩
    · rw [he]
      obtain ⟨b, off, rfl, hb, hc⟩ := hr.elem Spot.size_cells (by omega) hk
      have h1 := (hB1.cell (p := ⟨b, off + k * 3 + 0, none⟩) hb).trans (hc 0 _ rfl)
      have h2 := (hB1.cell (p := ⟨b, off + k * 3 + 1, none⟩) hb).trans (hc 1 _ rfl)
      have h3 := (hB1.cell (p := ⟨b, off + k * 3 + 2, none⟩) hb).trans (hc 2 _ rfl)
      simp only [Nat.add_zero] at h1
      have hq := fun (w : World) => run_equalIn_spot l[k].id l[k].ver i vr l[k].text s w
      have hbs : Hid (some l[k] = o) := hg.symm
      clear hc hr he hg cf hf
      generalize l[k] = x at *
      obtain ⟨a', v', s'⟩ := x
      simp only at h1 h2 h3 hq
      have HG2 : Hid (G o = ((⟨a', v', s'⟩ : Spot) == ⟨i, vr, s⟩)) := by show _ = _; rw [HG.out, ← hbs.out]; rfl
      generalize ((⟨a', v', s'⟩ : Spot) == ⟨i, vr, s⟩) = bb at *
      have d1 : decide ((0 : Int) ≤ (k : Int)) = true := by simp
      clear hbs HG
      go_wp2_with fail
      go_still (by kernel_rfl)
      go_wp2
      go_ret
      exact ⟨by rw [HG2.out]; rfl, hB1.drew⟩
    · rw [he]
      have HG2 : Hid (G o = false) := by show _ = _; rw [HG.out, hg]; rfl
      clear hg he cf hf
      go_wp2_with fail
      go_still (by kernel_rfl)
      go_wp2
      go_ret
      exact ⟨by rw [HG2.out]; rfl, hB1.drew⟩
  · have HG : Hid (G o = verB vr o) := by show _ = _; rw [Hg.out, if_neg k1, if_neg k2]
    have e2 : (kd == 2) = false := by simpa using k2
    clear k1 k2 Hg
    go_enter Tryd.func54, Tryd.ntmps54
    go_wp2_with fail
    refine cf.out.mono ?_
    rintro e w' ⟨rfl, rfl⟩
    rcases hf.out with ⟨k, hk, he, hg⟩ | ⟨he, hg⟩
    · rw [he]
      obtain ⟨b, off, rfl, hb, hc⟩ := hr.elem Spot.size_cells (by omega) hk
      have h2 := (hB1.cell (p := ⟨b, off + k * 3 + 1, none⟩) hb).trans (hc 1 _ rfl)
      have HG2 : Hid (G o = !(l[k].ver == vr)) := by show _ = _; rw [HG.out, hg]; rfl
      have d1 : decide ((0 : Int) ≤ (k : Int)) = true := by simp
      clear hc hr he hg cf hf HG
      generalize l[k] = x at *
      go_wp2_with fail
      go_still (by kernel_rfl)
      go_wp2
      go_ret
      refine ⟨?_, hB1.drew⟩
      rw [HG2.out]; rfl
    · rw [he]
      have HG2 : Hid (G o = false) := by show _ = _; rw [HG.out, hg]; rfl
      clear hg he cf hf
      go_wp2_with fail
      go_still (by kernel_rfl)
      go_wp2
      go_ret
      exact ⟨by rw [HG2.out]; rfl, hB1.drew⟩
end Go.Proofs.YtneanannicacnaaDoor
