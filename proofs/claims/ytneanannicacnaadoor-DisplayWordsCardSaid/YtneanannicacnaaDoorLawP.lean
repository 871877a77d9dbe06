/- Displays: changes are taken back; changes of different words. Plain lists, no program in sight. -/
import Derived.Test.YtneanannicacnaaDoorDispP
namespace Go.Proofs.YtneanannicacnaaDoor
open Go.RowKit Go.Han

theorem doE_zero_iff (l : List Spot) (c : Change) : doE l c = 0 ↔ checkE l = 0 ∧ c.ok = true ∧ fitsB c l = true ∧ (madeL c l).length ≤ 1024 := by
  unfold doE
  by_cases h : checkE l = 0
  · rw [if_neg (by simp [h])]
    cases c.ok
    · simp
    · cases fitsB c l
      · simp
      · by_cases h2 : 1024 < (madeL c l).length
        · simp [h2]
        · simp [h2, h]; omega
  · rw [if_pos h]
    exact ⟨fun h2 => absurd h2 h, fun h2 => absurd h2.1 h⟩
theorem made_ok {s : List Spot} {c : Change} (hs : checkE s = 0) (hc : c.ok = true) (hf : fitsB c s = true) (hl : (madeL c s).length ≤ 1024) : checkE (madeL c s) = 0 := by
  obtain ⟨h1, h2, h3⟩ := (checkE_iff s).1 hs
  refine (checkE_iff _).2 ⟨hl, fun x hx => ?_, made_asc h3 hf⟩
  rcases made_mem h3 hf hx with rfl | hx
  · unfold Change.ok at hc
    cases h : c.spot.ok
    · rw [h, Bool.and_false] at hc; cases hc
    · rfl
  · exact h2 x hx

/-- The change that takes c back on l. -/
def backC (l : List Spot) (c : Change) : Change :=
  if c.kind = 2 then ⟨c.at_, 1, c.spot⟩ else if c.kind = 3 then ⟨c.at_, 3, (getS c.spot.id l).getD c.spot⟩ else ⟨c.at_, 2, c.spot⟩
theorem ok_parts {c : Change} (h : c.ok = true) : kindB c.kind = true ∧ timeB c.at_ = true ∧ c.spot.ok = true := by
  unfold Change.ok at h
  simp only [Bool.and_eq_true] at h
  exact ⟨h.1.1, h.1.2, h.2⟩
theorem back_law (l : List Spot) (c : Change) (h : doE l c = 0) : doE (madeL c l) (backC l c) = 0 ∧ madeL (backC l c) (madeL c l) = l ∧ madeL c l ≠ l ∧ (c.kind = 3 → ∃ y, getS c.spot.id l = some y) := by
  obtain ⟨h1, h2, h3, h4⟩ := (doE_zero_iff l c).1 h
  have hx := made_ok h1 h2 h3 h4
  have hasc := ((checkE_iff l).1 h1).2.2
  have hascx := ((checkE_iff _).1 hx).2.2
  have hg := made_get hasc h3
  have hgi : getS c.spot.id (madeL c l) = madeG c := by rw [hg, if_pos rfl]
  have hf := h3
  rw [fits_get hasc] at hf
  obtain ⟨hk, ht, hs⟩ := ok_parts h2
  have hk' : 1 ≤ c.kind ∧ c.kind ≤ 3 := by simpa [kindB] using hk
  -- the three kinds
  have key : ∃ s : Spot, (backC l c).spot = s ∧ s.id = c.spot.id ∧ (backC l c).ok = true ∧ fitsG (backC l c) (madeG c) = true ∧ madeG (backC l c) = getS c.spot.id l ∧ madeG c ≠ getS c.spot.id l := by
    rcases fitsG_cases hf with ⟨k1, o⟩ | ⟨k2, o⟩ | ⟨k1, k2, y, o, hv⟩
    · have e : backC l c = ⟨c.at_, 2, c.spot⟩ := by unfold backC; rw [if_neg (by omega), if_neg (by omega)]
      have m : madeG c = some c.spot := by unfold madeG; rw [if_neg (by omega)]
      rw [e, m, o]
      refine ⟨c.spot, rfl, rfl, ?_, ?_, rfl, by simp⟩
      · unfold Change.ok; simp [ht, hs, kindB]
      · simp [fitsG]
    · have e : backC l c = ⟨c.at_, 1, c.spot⟩ := by unfold backC; rw [if_pos k2]
      have m : madeG c = none := by unfold madeG; rw [if_pos k2]
      rw [e, m, o]
      refine ⟨c.spot, rfl, rfl, ?_, ?_, rfl, by simp⟩
      · unfold Change.ok; simp [ht, hs, kindB]
      · simp [fitsG]
    · have k3 : c.kind = 3 := by omega
      have hy := getS_some o
      have e : backC l c = ⟨c.at_, 3, y⟩ := by unfold backC; rw [if_neg k2, if_pos k3, o]; rfl
      have m : madeG c = some c.spot := by unfold madeG; rw [if_neg k2]
      rw [e, m, o]
      refine ⟨y, rfl, hy.2, ?_, ?_, rfl, ?_⟩
      · have := ((checkE_iff l).1 h1).2.1 y hy.1
        unfold Change.ok; simp [ht, this, kindB]
      · simp [fitsG]; exact fun h => hv h.symm
      · intro h; cases h; exact hv rfl
  obtain ⟨s, hs1, hs2, hbok, hbf, hbm, hne⟩ := key
  have hid : (backC l c).spot.id = c.spot.id := by rw [hs1, hs2]
  have hfb : fitsB (backC l c) (madeL c l) = true := by rw [fits_get hascx, hid, hgi]; exact hbf
  have hback : madeL (backC l c) (madeL c l) = l := by
    refine asc_ext _ _ (made_asc hascx hfb) hasc fun n => ?_
    rw [made_get hascx hfb, hid]
    by_cases hn : n = c.spot.id
    · rw [if_pos hn, hbm, hn]
    · rw [if_neg hn, hg, if_neg hn]
  refine ⟨(doE_zero_iff _ _).2 ⟨hx, hbok, hfb, by rw [hback]; exact ((checkE_iff l).1 h1).1⟩, hback, fun e => hne (by rw [← hgi, e]), fun k3 => ?_⟩
  rcases fitsG_cases hf with ⟨k1, _⟩ | ⟨k2, _⟩ | ⟨_, _, y, o, _⟩
  · omega
  · omega
  · exact ⟨y, o⟩

theorem made_len_le {c : Change} {l : List Spot} (hs : Asc l) (hf : fitsB c l = true) : (madeL c l).length ≤ l.length + 1 := by
  rw [made_len hs hf]
  split
  · omega
  · split <;> omega
/-- Two changes of different words, one after the other. -/
theorem apart_law (l : List Spot) (a b : Change) (hl : l.length ≤ 60) (hid : a.spot.id ≠ b.spot.id) (h : doE l a = 0 ∧ doE (madeL a l) b = 0) :
    (doE l b = 0 ∧ doE (madeL b l) a = 0) ∧ madeL b (madeL a l) = madeL a (madeL b l) := by
  obtain ⟨h1, h2⟩ := h
  obtain ⟨p1, p2, p3, p4⟩ := (doE_zero_iff l a).1 h1
  obtain ⟨q1, q2, q3, q4⟩ := (doE_zero_iff _ b).1 h2
  have hasc := ((checkE_iff l).1 p1).2.2
  have hascx := ((checkE_iff _).1 q1).2.2
  have fb : fitsB b l = true := by
    rw [fits_get hascx, made_get hasc p3, if_neg (fun e => hid e.symm), ← fits_get hasc] at q3
    exact q3
  have lb := made_len_le hasc fb
  have hb : doE l b = 0 := (doE_zero_iff _ _).2 ⟨p1, q2, fb, by omega⟩
  have cb := made_ok p1 q2 fb (by omega)
  have hascy := ((checkE_iff _).1 cb).2.2
  have fa : fitsB a (madeL b l) = true := by
    rw [fits_get hascy, made_get hasc fb, if_neg hid, ← fits_get hasc]
    exact p3
  have la := made_len_le hascy fa
  refine ⟨⟨hb, (doE_zero_iff _ _).2 ⟨cb, p2, fa, by omega⟩⟩, asc_ext _ _ (made_asc hascx q3) (made_asc hascy fa) fun n => ?_⟩
  rw [made_get hascx q3, made_get hasc p3, made_get hascy fa, made_get hasc fb]
  by_cases e1 : n = b.spot.id
  · rw [if_pos e1, if_neg (by rw [e1]; exact fun e => hid e.symm), if_pos e1]
  · rw [if_neg e1, if_neg e1]
end Go.Proofs.YtneanannicacnaaDoor
