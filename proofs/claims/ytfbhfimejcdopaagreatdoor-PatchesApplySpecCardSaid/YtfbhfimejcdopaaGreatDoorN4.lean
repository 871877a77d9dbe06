/- Texts of this claim, one after the other: DispP, LawP, PatP, PatQ, Map, Own, Gen, Quiet, Utf9. -/
import Derived.Test.YtfbhfimejcdopaaGreatDoorN3
import Derived.Test.YtfbhfimejcdopaaGreatDoorN1
import Derived.Maps.RangeWalk
import Derived.Deep.QuietTactic
/- Package display: displays as lists, and what a change makes of one. Plain lists, no program in sight. -/
namespace Go.Proofs.YtfbhfimejcdopaaGreatDoor
open Go.RowKit Go.Han

theorem asc_iff (l : List Spot) : Asc l ↔ l.Pairwise (fun x y => x.id < y.id) := by
  rw [List.pairwise_iff_getElem]
  exact Iff.rfl
def getS (n : Int) (l : List Spot) : Option Spot := l.find? (fun x => x.id == n)

theorem getS_nil (n : Int) : getS n [] = none := rfl
theorem getS_cons (n : Int) (x : Spot) (l : List Spot) : getS n (x :: l) = if x.id = n then some x else getS n l := by
  unfold getS
  rw [List.find?_cons]
  by_cases h : x.id = n
  · rw [if_pos h]; simp [h]
  · rw [if_neg h, show (x.id == n) = false by simpa using h]
theorem getS_app (n : Int) (l l' : List Spot) : getS n (l ++ l') = (getS n l).or (getS n l') := by
  unfold getS; rw [List.find?_append]
theorem getS_none {n : Int} {l : List Spot} (h : ∀ x ∈ l, x.id ≠ n) : getS n l = none := by
  unfold getS
  rw [List.find?_eq_none]
  intro x hx
  simpa using h x hx
theorem getS_some {n : Int} {l : List Spot} {x : Spot} (h : getS n l = some x) : x ∈ l ∧ x.id = n := by
  unfold getS at h
  exact ⟨List.mem_of_find?_eq_some h, by simpa using List.find?_some h⟩
theorem getS_mem {l : List Spot} (hs : Asc l) {x : Spot} (hx : x ∈ l) : getS x.id l = some x := by
  rw [asc_iff] at hs
  induction l with
  | nil => cases hx
  | cons y l ih =>
    rw [List.pairwise_cons] at hs
    rw [getS_cons]
    rcases List.mem_cons.1 hx with rfl | hx
    · rw [if_pos rfl]
    · rw [if_neg (by have := hs.1 x hx; omega)]
      exact ih hs.2 hx

theorem asc_ext : ∀ (l l' : List Spot), Asc l → Asc l' → (∀ n, getS n l = getS n l') → l = l'
  | [], [], _, _, _ => rfl
  | [], y :: l', _, _, h => by
    have := h y.id
    rw [getS_cons, if_pos rfl] at this
    cases this
  | x :: l, [], _, _, h => by
    have := h x.id
    rw [getS_cons, if_pos rfl] at this
    cases this
  | x :: l, y :: l', h1, h2, h => by
    rw [asc_iff, List.pairwise_cons] at h1 h2
    have e : x = y := by
      have hx := h x.id
      have hy := h y.id
      rw [getS_cons, if_pos rfl, getS_cons] at hx
      rw [getS_cons, getS_cons, if_pos rfl] at hy
      by_cases c : y.id = x.id
      · rw [if_pos c] at hx
        exact Option.some.inj hx
      · rw [if_neg c] at hx
        rw [if_neg (fun e => c e.symm)] at hy
        obtain ⟨m1, e1⟩ := getS_some hx.symm
        obtain ⟨m2, e2⟩ := getS_some hy
        have := h2.1 x m1
        have := h1.1 y m2
        omega
    subst e
    congr 1
    refine asc_ext l l' ((asc_iff l).2 h1.2) ((asc_iff l').2 h2.2) fun n => ?_
    by_cases c : x.id = n
    · rw [getS_none (fun y hy => by have := h1.1 y hy; omega), getS_none (fun y hy => by have := h2.1 y hy; omega)]
    · have := h n
      rwa [getS_cons, getS_cons, if_neg c, if_neg c] at this

/-- An ascending list, cut at an Id. -/
theorem split_pos (n : Int) : ∀ (l : List Spot), Asc l → ∃ lo hi, l = lo ++ hi ∧ lo.length = posB n l ∧ (∀ x ∈ lo, x.id < n) ∧ (∀ x ∈ hi, n ≤ x.id)
  | [], _ => ⟨[], [], rfl, rfl, by simp, by simp⟩
  | x :: l, h => by
    rw [asc_iff, List.pairwise_cons] at h
    by_cases c : x.id < n
    · obtain ⟨lo, hi, e, hl, h1, h2⟩ := split_pos n l ((asc_iff l).2 h.2)
      refine ⟨x :: lo, hi, by rw [e]; rfl, ?_, ?_, h2⟩
      · unfold posB at hl ⊢
        rw [List.takeWhile_cons_of_pos (by simp; exact c), List.length_cons, List.length_cons, hl]
      · intro y hy
        rcases List.mem_cons.1 hy with rfl | hy
        · exact c
        · exact h1 y hy
    · refine ⟨[], x :: l, rfl, ?_, by simp, ?_⟩
      · unfold posB
        rw [List.takeWhile_cons_of_neg (by simp; omega)]
        first | done | rfl
      · intro y hy
        rcases List.mem_cons.1 hy with rfl | hy
        · omega
        · have := h.1 y hy; omega

/-- How a change that fits sees a display: what is below its Id, the spot with it, what is above. -/
structure Split (n : Int) (l L H : List Spot) (o : Option Spot) : Prop where
  eq : l = L ++ (o.toList ++ H)
  pos : L.length = posB n l
  lo : ∀ x ∈ L, x.id < n
  hi : ∀ x ∈ H, n < x.id
  at_ : ∀ x, o = some x → x.id = n
  get : getS n l = o
  ascLo : L.Pairwise (fun x y => x.id < y.id)
  ascHi : H.Pairwise (fun x y => x.id < y.id)
theorem split_at (n : Int) (l : List Spot) (hs : Asc l) : ∃ lo hi o, Split n l lo hi o := by
  obtain ⟨lo, hi, e, hl, h1, h2⟩ := split_pos n l hs
  have hp := (asc_iff l).1 hs
  rw [e, List.pairwise_append] at hp
  cases hi with
  | nil => exact ⟨lo, [], none, by simpa using e, hl, h1, by simp, by simp, by rw [e, List.append_nil, getS_none (fun x hx => by have := h1 x hx; omega)], hp.1, List.Pairwise.nil⟩
  | cons y t =>
    have ht := (List.pairwise_cons.1 hp.2.1)
    have hlo : getS n lo = none := getS_none (fun x hx => by have := h1 x hx; omega)
    by_cases c : y.id = n
    · refine ⟨lo, t, some y, e, hl, h1, fun x hx => by have := ht.1 x hx; omega, fun x hx => by cases hx; exact c, ?_, hp.1, ht.2⟩
      rw [e, getS_app, hlo, getS_cons, if_pos c]; rfl
    · have hy := h2 y (List.mem_cons_self ..)
      refine ⟨lo, y :: t, none, e, hl, h1, fun x hx => ?_, by simp, ?_, hp.1, hp.2.1⟩
      · rcases List.mem_cons.1 hx with rfl | hx
        · omega
        · have := ht.1 x hx; omega
      · rw [e, getS_app, hlo, getS_none]; rfl
        intro x hx
        rcases List.mem_cons.1 hx with rfl | hx
        · omega
        · have := ht.1 x hx; omega

/-- Whether a change fits, by what its Id shows. -/
def fitsG (c : Change) (o : Option Spot) : Bool :=
  if c.kind = 1 then o.isNone else if c.kind = 2 then o == some c.spot else match o with | some y => !(y.ver == c.spot.ver) | none => false
/-- What the Id of a change shows then. -/
def madeG (c : Change) : Option Spot := if c.kind = 2 then none else some c.spot

theorem Split.head {n : Int} {l lo hi : List Spot} {o : Option Spot} (h : Split n l lo hi o) : l[posB n l]? = o.or hi.head? := by
  rw [← h.pos, h.eq, List.getElem?_append_right (Nat.le_refl _), Nat.sub_self]
  cases o
  · cases hi <;> rfl
  · rfl
theorem Split.headB {n : Int} {l lo hi : List Spot} {o : Option Spot} (h : Split n l lo hi o) : headB n l (posB n l) = o.isSome := by
  unfold Go.Proofs.YtfbhfimejcdopaaGreatDoor.headB
  rw [h.head]
  cases o with
  | none =>
    cases hi with
    | nil => rfl
    | cons y t =>
      have := h.hi y (List.mem_cons_self ..)
      show (y.id == n) = false
      simp; omega
  | some x => simpa using h.at_ x rfl
theorem Split.fits {l lo hi : List Spot} {o : Option Spot} {c : Change} (h : Split c.spot.id l lo hi o) : fitsB c l = fitsG c o := by
  unfold fitsB testB fitsG
  rw [h.headB, h.head]
  by_cases c1 : c.kind = 1
  · rw [if_pos c1, if_pos c1]; cases o <;> rfl
  · rw [if_neg c1, if_neg c1]
    by_cases c2 : c.kind = 2
    · rw [if_pos c2, if_pos c2]; cases o <;> rfl
    · rw [if_neg c2, if_neg c2]; cases o <;> rfl
theorem fitsG_cases {c : Change} {o : Option Spot} (h : fitsG c o = true) : (c.kind = 1 ∧ o = none) ∨ (c.kind = 2 ∧ o = some c.spot) ∨ (c.kind ≠ 1 ∧ c.kind ≠ 2 ∧ ∃ y, o = some y ∧ y.ver ≠ c.spot.ver) := by
  unfold fitsG at h
  by_cases c1 : c.kind = 1
  · rw [if_pos c1] at h; exact .inl ⟨c1, by simpa using h⟩
  · rw [if_neg c1] at h
    by_cases c2 : c.kind = 2
    · rw [if_pos c2] at h; exact .inr (.inl ⟨c2, by simpa using h⟩)
    · rw [if_neg c2] at h
      cases o with
      | none => cases h
      | some y => exact .inr (.inr ⟨c1, c2, y, rfl, by simpa using h⟩)
theorem Split.made {l lo hi : List Spot} {o : Option Spot} {c : Change} (h : Split c.spot.id l lo hi o) (hf : fitsG c o = true) : madeL c l = lo ++ ((madeG c).toList ++ hi) := by
  have ht : l.take (posB c.spot.id l) = lo := by
    rw [← h.pos, h.eq, List.take_left]
  have hd : l.drop (posB c.spot.id l) = o.toList ++ hi := by
    rw [← h.pos, h.eq, List.drop_left]
  have hd1 : l.drop (posB c.spot.id l + 1) = (o.toList ++ hi).drop 1 := by rw [← hd, List.drop_drop]
  unfold madeL editL madeG
  rcases fitsG_cases hf with ⟨c1, rfl⟩ | ⟨c2, rfl⟩ | ⟨c1, c2, y, rfl, _⟩
  · rw [if_pos c1, if_neg (by omega), ht, hd]; rfl
  · rw [if_neg (by omega), if_pos c2, if_pos c2, ht, hd1]; rfl
  · rw [if_neg c1, if_neg c2, if_neg c2, ht, hd1]; rfl

theorem fits_get {c : Change} {l : List Spot} (hs : Asc l) : fitsB c l = fitsG c (getS c.spot.id l) := by
  obtain ⟨lo, hi, o, h⟩ := split_at c.spot.id l hs
  rw [h.fits, h.get]
theorem made_asc {c : Change} {l : List Spot} (hs : Asc l) (hf : fitsB c l = true) : Asc (madeL c l) := by
  obtain ⟨lo, hi, o, h⟩ := split_at c.spot.id l hs
  rw [h.fits] at hf
  rw [h.made hf, asc_iff, List.pairwise_append]
  refine ⟨h.ascLo, ?_, ?_⟩
  · unfold madeG
    split
    · exact h.ascHi
    · exact List.pairwise_cons.2 ⟨fun x hx => h.hi x hx, h.ascHi⟩
  · intro x hx y hy
    have := h.lo x hx
    rcases List.mem_append.1 hy with hy | hy
    · unfold madeG at hy
      split at hy
      · cases hy
      · simp at hy; subst hy; exact this
    · have := h.hi y hy; omega
theorem made_get {c : Change} {l : List Spot} (hs : Asc l) (hf : fitsB c l = true) (n : Int) : getS n (madeL c l) = if n = c.spot.id then madeG c else getS n l := by
  obtain ⟨lo, hi, o, h⟩ := split_at c.spot.id l hs
  have hf' := hf
  rw [h.fits] at hf'
  rw [h.made hf', getS_app, getS_app]
  by_cases e : n = c.spot.id
  · subst e
    rw [if_pos rfl, getS_none (fun x hx => by have := h.lo x hx; omega), getS_none (l := hi) (fun x hx => by have := h.hi x hx; omega)]
    unfold madeG
    split
    · rfl
    · simp [getS_cons]
  · rw [if_neg e, h.eq, getS_app, getS_app]
    congr 1
    congr 1
    have h1 : getS n (madeG c).toList = none := getS_none (fun x hx => by
      unfold madeG at hx
      split at hx
      · cases hx
      · simp at hx; subst hx; exact fun h => e h.symm)
    have h2 : getS n o.toList = none := getS_none (fun x hx => by
      have := h.at_ x (by simpa using hx)
      omega)
    rw [h1, h2]
theorem made_len {c : Change} {l : List Spot} (hs : Asc l) (hf : fitsB c l = true) : (madeL c l).length = if c.kind = 1 then l.length + 1 else if c.kind = 2 then l.length - 1 else l.length := by
  obtain ⟨lo, hi, o, h⟩ := split_at c.spot.id l hs
  rw [h.fits] at hf
  rw [h.made hf]
  have hl := congrArg List.length h.eq
  simp only [List.length_append] at hl ⊢
  unfold madeG
  rcases fitsG_cases hf with ⟨c1, rfl⟩ | ⟨c2, rfl⟩ | ⟨c1, c2, y, rfl, _⟩
  · rw [if_pos c1, if_neg (by omega)]; simp at hl ⊢; omega
  · have c1 : ¬ c.kind = 1 := by omega
    rw [if_pos c2, if_neg c1, if_pos c2]; simp at hl ⊢; omega
  · rw [if_neg c2, if_neg c1, if_neg c2]; simp at hl ⊢; omega
theorem made_mem {c : Change} {l : List Spot} (hs : Asc l) (hf : fitsB c l = true) {x : Spot} (hx : x ∈ madeL c l) : x = c.spot ∨ x ∈ l := by
  obtain ⟨lo, hi, o, h⟩ := split_at c.spot.id l hs
  rw [h.fits] at hf
  rw [h.made hf] at hx
  rcases List.mem_append.1 hx with hx | hx
  · exact .inr (by rw [h.eq]; exact List.mem_append_left _ hx)
  · rcases List.mem_append.1 hx with hx | hx
    · unfold madeG at hx
      split at hx
      · cases hx
      · simp at hx; exact .inl hx
    · exact .inr (by rw [h.eq]; exact List.mem_append_right _ (List.mem_append_right _ hx))

/-! ### Right displays -/
theorem checkFrom_iff : ∀ (last : Int) (l : List Spot), checkFrom last l = true ↔ (∀ x ∈ l, x.ok = true ∧ last < x.id) ∧ Asc l
  | last, [] => by simp [checkFrom, asc_iff]
  | last, x :: l => by
    simp only [checkFrom, Bool.and_eq_true, decide_eq_true_eq]
    rw [checkFrom_iff x.id l, asc_iff, asc_iff, List.pairwise_cons]
    constructor
    · rintro ⟨⟨h1, h2⟩, h3, h4⟩
      refine ⟨fun y hy => ?_, fun y hy => (h3 y hy).2, h4⟩
      rcases List.mem_cons.1 hy with rfl | hy
      · exact ⟨h1, h2⟩
      · have := (h3 y hy).2
        exact ⟨(h3 y hy).1, by omega⟩
    · rintro ⟨h1, h2, h3⟩
      exact ⟨h1 x (List.mem_cons_self ..), fun y hy => ⟨(h1 y (List.mem_cons_of_mem _ hy)).1, h2 y hy⟩, h3⟩
theorem ok_id {x : Spot} (h : x.ok = true) : 0 ≤ x.id := by
  unfold Spot.ok idB at h
  simp only [Bool.and_eq_true, decide_eq_true_eq] at h
  exact h.1.1.1
theorem checkE_iff (l : List Spot) : checkE l = 0 ↔ l.length ≤ 1024 ∧ (∀ x ∈ l, x.ok = true) ∧ Asc l := by
  unfold checkE
  by_cases h : 1024 < l.length
  · rw [if_pos h]
    exact ⟨fun h => by omega, fun h => by omega⟩
  · rw [if_neg h]
    have e : checkFrom (-1) l = true ↔ (∀ x ∈ l, x.ok = true) ∧ Asc l := by
      rw [checkFrom_iff]
      exact ⟨fun h => ⟨fun x hx => (h.1 x hx).1, h.2⟩, fun h => ⟨fun x hx => ⟨h.1 x hx, by have := ok_id (h.1 x hx); omega⟩, h.2⟩⟩
    rw [← e]
    cases checkFrom (-1) l
    · simp
    · simp; omega
theorem checkE_range (l : List Spot) : checkE l = 0 ∨ checkE l = 2 ∨ checkE l = 490 := by
  unfold checkE
  split
  · exact .inr (.inl rfl)
  · split
    · exact .inl rfl
    · exact .inr (.inr rfl)

/-! ### Changes, one by one -/
def examFrom : Int → List Change → Bool
  | _, [] => true
  | last, c :: l => c.ok && decide (last ≤ c.at_) && examFrom c.at_ l
/-- The changes, one by one, on a display: the error (0: none), and the display. -/
def runL : List Spot → List Change → Int × List Spot
  | s, [] => (0, s)
  | s, c :: l => if fitsB c s = false then (490, s) else if 1024 < (madeL c s).length then (2, s) else runL (madeL c s) l
def playE (l : List Change) (t : Int) : Int := if 4096 < l.length then 2 else if examFrom 0 l = false then 490 else if timeB t = false then 1 else (runL [] (upTo t l)).1
def playL (l : List Change) (t : Int) : List Spot := (runL [] (upTo t l)).2

theorem runL_step {c : Change} {s : List Spot} {q : List Change} : runL s (c :: q) = if fitsB c s = false then (490, s) else if 1024 < (madeL c s).length then (2, s) else runL (madeL c s) q := rfl
theorem runL_app : ∀ (pre q : List Change) (s s' : List Spot), runL s pre = (0, s') → runL s (pre ++ q) = runL s' q
  | [], q, s, s', h => by cases h; rfl
  | c :: pre, q, s, s', h => by
    rw [List.cons_append, runL_step]
    rw [runL_step] at h
    split at h
    · cases h
    · rename_i h1
      rw [if_neg h1]
      split at h
      · cases h
      · rename_i h2
        rw [if_neg h2]
        exact runL_app pre q _ _ h
theorem runL_inv : ∀ (pre : List Change) (s s' : List Spot), Asc s → s.length ≤ 1024 → runL s pre = (0, s') → Asc s' ∧ s'.length ≤ 1024
  | [], s, s', hs, hl, h => by cases h; exact ⟨hs, hl⟩
  | c :: pre, s, s', hs, hl, h => by
    unfold runL at h
    split at h
    · cases h
    · rename_i h1
      split at h
      · cases h
      · rename_i h2
        exact runL_inv pre _ _ (made_asc hs (by simpa using h1)) (by omega) h
theorem asc_nil : Asc [] := fun a b ha => absurd ha (by simp)
theorem own_base {w : World} {b b' : Nat} {v : Value} {l : List Spot} (h : Own w b v l) (hb : b' ≤ b) : Own w b' v l := by
  refine ⟨h.1, ?_⟩
  rcases h.2 with h | ⟨g, c, cur, h1, h2, h3⟩
  · exact .inl h
  · exact .inr ⟨g, c, cur, h1, Nat.le_trans hb h2, h3⟩
end Go.Proofs.YtfbhfimejcdopaaGreatDoor

/- Displays: changes are taken back; changes of different words. Plain lists, no program in sight. -/
namespace Go.Proofs.YtfbhfimejcdopaaGreatDoor
open Go.RowKit Go.Han

theorem doE_zero_iff (l : List Spot) (c : Change) : doE l c = 0 ↔ checkE l = 0 ∧ c.ok = true ∧ fitsB c l = true ∧ (madeL c l).length ≤ 1024 := by
  unfold doE
  by_cases h : checkE l = 0
  · rw [if_neg (by simp [h])]
    cases c.ok
    · simp
    · cases fitsB c l
      · simp
      · by_cases h2 : 1024 < (madeL c l).length
        · simp [h2]
        · simp [h2, h]; omega
  · rw [if_pos h]
    exact ⟨fun h2 => absurd h2 h, fun h2 => absurd h2.1 h⟩
theorem made_ok {s : List Spot} {c : Change} (hs : checkE s = 0) (hc : c.ok = true) (hf : fitsB c s = true) (hl : (madeL c s).length ≤ 1024) : checkE (madeL c s) = 0 := by
  obtain ⟨h1, h2, h3⟩ := (checkE_iff s).1 hs
  refine (checkE_iff _).2 ⟨hl, fun x hx => ?_, made_asc h3 hf⟩
  rcases made_mem h3 hf hx with rfl | hx
  · unfold Change.ok at hc
    cases h : c.spot.ok
    · rw [h, Bool.and_false] at hc; cases hc
    · rfl
  · exact h2 x hx

/-- The change that takes c back on l. -/
def backC (l : List Spot) (c : Change) : Change :=
  if c.kind = 2 then ⟨c.at_, 1, c.spot⟩ else if c.kind = 3 then ⟨c.at_, 3, (getS c.spot.id l).getD c.spot⟩ else ⟨c.at_, 2, c.spot⟩
theorem ok_parts {c : Change} (h : c.ok = true) : kindB c.kind = true ∧ timeB c.at_ = true ∧ c.spot.ok = true := by
  unfold Change.ok at h
  simp only [Bool.and_eq_true] at h
  exact ⟨h.1.1, h.1.2, h.2⟩
theorem back_law (l : List Spot) (c : Change) (h : doE l c = 0) : doE (madeL c l) (backC l c) = 0 ∧ madeL (backC l c) (madeL c l) = l ∧ madeL c l ≠ l ∧ (c.kind = 3 → ∃ y, getS c.spot.id l = some y) := by
  obtain ⟨h1, h2, h3, h4⟩ := (doE_zero_iff l c).1 h
  have hx := made_ok h1 h2 h3 h4
  have hasc := ((checkE_iff l).1 h1).2.2
  have hascx := ((checkE_iff _).1 hx).2.2
  have hg := made_get hasc h3
  have hgi : getS c.spot.id (madeL c l) = madeG c := by rw [hg, if_pos rfl]
  have hf := h3
  rw [fits_get hasc] at hf
  obtain ⟨hk, ht, hs⟩ := ok_parts h2
  have hk' : 1 ≤ c.kind ∧ c.kind ≤ 3 := by simpa [kindB] using hk
  -- the three kinds
  have key : ∃ s : Spot, (backC l c).spot = s ∧ s.id = c.spot.id ∧ (backC l c).ok = true ∧ fitsG (backC l c) (madeG c) = true ∧ madeG (backC l c) = getS c.spot.id l ∧ madeG c ≠ getS c.spot.id l := by
    rcases fitsG_cases hf with ⟨k1, o⟩ | ⟨k2, o⟩ | ⟨k1, k2, y, o, hv⟩
    · have e : backC l c = ⟨c.at_, 2, c.spot⟩ := by unfold backC; rw [if_neg (by omega), if_neg (by omega)]
      have m : madeG c = some c.spot := by unfold madeG; rw [if_neg (by omega)]
      rw [e, m, o]
      refine ⟨c.spot, rfl, rfl, ?_, ?_, rfl, by simp⟩
      · unfold Change.ok; simp [ht, hs, kindB]
      · simp [fitsG]
    · have e : backC l c = ⟨c.at_, 1, c.spot⟩ := by unfold backC; rw [if_pos k2]
      have m : madeG c = none := by unfold madeG; rw [if_pos k2]
      rw [e, m, o]
      refine ⟨c.spot, rfl, rfl, ?_, ?_, rfl, by simp⟩
      · unfold Change.ok; simp [ht, hs, kindB]
      · simp [fitsG]
    · have k3 : c.kind = 3 := by omega
      have hy := getS_some o
      have e : backC l c = ⟨c.at_, 3, y⟩ := by unfold backC; rw [if_neg k2, if_pos k3, o]; rfl
      have m : madeG c = some c.spot := by unfold madeG; rw [if_neg k2]
      rw [e, m, o]
      refine ⟨y, rfl, hy.2, ?_, ?_, rfl, ?_⟩
      · have := ((checkE_iff l).1 h1).2.1 y hy.1
        unfold Change.ok; simp [ht, this, kindB]
      · simp [fitsG]; exact fun h => hv h.symm
      · intro h; cases h; exact hv rfl
  obtain ⟨s, hs1, hs2, hbok, hbf, hbm, hne⟩ := key
  have hid : (backC l c).spot.id = c.spot.id := by rw [hs1, hs2]
  have hfb : fitsB (backC l c) (madeL c l) = true := by rw [fits_get hascx, hid, hgi]; exact hbf
  have hback : madeL (backC l c) (madeL c l) = l := by
    refine asc_ext _ _ (made_asc hascx hfb) hasc fun n => ?_
    rw [made_get hascx hfb, hid]
    by_cases hn : n = c.spot.id
    · rw [if_pos hn, hbm, hn]
    · rw [if_neg hn, hg, if_neg hn]
  refine ⟨(doE_zero_iff _ _).2 ⟨hx, hbok, hfb, by rw [hback]; exact ((checkE_iff l).1 h1).1⟩, hback, fun e => hne (by rw [← hgi, e]), fun k3 => ?_⟩
  rcases fitsG_cases hf with ⟨k1, _⟩ | ⟨k2, _⟩ | ⟨_, _, y, o, _⟩
  · omega
  · omega
  · exact ⟨y, o⟩

theorem made_len_le {c : Change} {l : List Spot} (hs : Asc l) (hf : fitsB c l = true) : (madeL c l).length ≤ l.length + 1 := by
  rw [made_len hs hf]
  split
  · omega
  · split <;> omega
/-- Two changes of different words, one after the other. -/
theorem apart_law (l : List Spot) (a b : Change) (hl : l.length ≤ 60) (hid : a.spot.id ≠ b.spot.id) (h : doE l a = 0 ∧ doE (madeL a l) b = 0) :
    (doE l b = 0 ∧ doE (madeL b l) a = 0) ∧ madeL b (madeL a l) = madeL a (madeL b l) := by
  obtain ⟨h1, h2⟩ := h
  obtain ⟨p1, p2, p3, p4⟩ := (doE_zero_iff l a).1 h1
  obtain ⟨q1, q2, q3, q4⟩ := (doE_zero_iff _ b).1 h2
  have hasc := ((checkE_iff l).1 p1).2.2
  have hascx := ((checkE_iff _).1 q1).2.2
  have fb : fitsB b l = true := by
    rw [fits_get hascx, made_get hasc p3, if_neg (fun e => hid e.symm), ← fits_get hasc] at q3
    exact q3
  have lb := made_len_le hasc fb
  have hb : doE l b = 0 := (doE_zero_iff _ _).2 ⟨p1, q2, fb, by omega⟩
  have cb := made_ok p1 q2 fb (by omega)
  have hascy := ((checkE_iff _).1 cb).2.2
  have fa : fitsB a (madeL b l) = true := by
    rw [fits_get hascy, made_get hasc fb, if_neg hid, ← fits_get hasc]
    exact p3
  have la := made_len_le hascy fa
  refine ⟨⟨hb, (doE_zero_iff _ _).2 ⟨cb, p2, fa, by omega⟩⟩, asc_ext _ _ (made_asc hascx q3) (made_asc hascy fa) fun n => ?_⟩
  rw [made_get hascx q3, made_get hasc p3, made_get hascy fa, made_get hasc fb]
  by_cases e1 : n = b.spot.id
  · rw [if_pos e1, if_neg (by rw [e1]; exact fun e => hid e.symm), if_pos e1]
  · rw [if_neg e1, if_neg e1]
end Go.Proofs.YtfbhfimejcdopaaGreatDoor

/- Differences of displays, in plain lists. No program in sight. -/
namespace Go.Proofs.YtfbhfimejcdopaaGreatDoor
open Go.RowKit Go.Han

/-! ### small things about lists -/
theorem flatMap_same {α β : Type} {f g : α → List β} : ∀ {l : List α}, (∀ x ∈ l, f x = g x) → l.flatMap f = l.flatMap g
  | [], _ => rfl
  | x :: l, h => by rw [List.flatMap_cons, List.flatMap_cons, h x (by simp), flatMap_same (fun y hy => h y (by simp [hy]))]
theorem ascI_ext : ∀ {u v : List Int}, u.Pairwise (fun a b => a < b) → v.Pairwise (fun a b => a < b) → (∀ n, n ∈ u ↔ n ∈ v) → u = v
  | [], [], _, _, _ => rfl
  | [], y :: v, _, _, h => by have := (h y).2 (by simp); cases this
  | x :: u, [], _, _, h => by have := (h x).1 (by simp); cases this
  | x :: u, y :: v, h1, h2, h => by
    rw [List.pairwise_cons] at h1 h2
    have e : x = y := by
      have a := (h x).1 (by simp)
      have b := (h y).2 (by simp)
      rcases List.mem_cons.1 a with a | a
      · exact a
      · rcases List.mem_cons.1 b with b | b
        · exact b.symm
        · have := h2.1 x a; have := h1.1 y b; omega
    subst e
    rw [ascI_ext h1.2 h2.2 (fun n => ?_)]
    have := h n
    constructor
    · intro hn
      rcases List.mem_cons.1 (this.1 (by simp [hn])) with e | e
      · have := h1.1 n hn; omega
      · exact e
    · intro hn
      rcases List.mem_cons.1 (this.2 (by simp [hn])) with e | e
      · have := h2.1 n hn; omega
      · exact e
theorem nodup_len : ∀ {u v : List Int}, u.Nodup → (∀ n ∈ u, n ∈ v) → u.length ≤ v.length
  | [], _, _, _ => Nat.zero_le _
  | x :: u, v, h1, h => by
    have hx := h x (by simp)
    have h2 := List.nodup_cons.1 h1
    have := nodup_len (u := u) (v := v.erase x) h2.2 (fun n hn => (List.mem_erase_of_ne (by rintro rfl; exact h2.1 hn)).2 (h n (by simp [hn])))
    rw [List.length_erase_of_mem hx] at this
    have : 0 < v.length := List.length_pos_of_mem hx
    simp
    omega
theorem ascI_nodup {u : List Int} (h : u.Pairwise (fun a b => a < b)) : u.Nodup := h.imp (fun h => by omega)

/-! ### the difference -/
def chgG (t : Int) (o s : Option Spot) : List Change := match o, s with
  | none, none => []
  | some x, none => [⟨t, 2, x⟩]
  | none, some y => [⟨t, 1, y⟩]
  | some x, some y => if x.ver = y.ver then [] else [⟨t, 3, y⟩]
def clashG (o s : Option Spot) : Bool := match o, s with
  | some x, some y => decide (x.ver = y.ver) && !decide (x.text = y.text)
  | _, _ => false
def clashB (a b : List Spot) : Bool := a.any (fun x => clashG (some x) (getS x.id b))
def diffL (t : Int) : List Spot → List Spot → List Change
  | [], [] => []
  | x :: a, [] => ⟨t, 2, x⟩ :: diffL t a []
  | [], y :: b => ⟨t, 1, y⟩ :: diffL t [] b
  | x :: a, y :: b => if x.id < y.id then ⟨t, 2, x⟩ :: diffL t a (y :: b) else if y.id < x.id then ⟨t, 1, y⟩ :: diffL t (x :: a) b else (if x.ver = y.ver then [] else [⟨t, 3, y⟩]) ++ diffL t a b
termination_by a b => a.length + b.length
def unionI : List Spot → List Spot → List Int
  | [], [] => []
  | x :: a, [] => x.id :: unionI a []
  | [], y :: b => y.id :: unionI [] b
  | x :: a, y :: b => if x.id < y.id then x.id :: unionI a (y :: b) else if y.id < x.id then y.id :: unionI (x :: a) b else x.id :: unionI a b
termination_by a b => a.length + b.length
def diffK (t : Int) (a b : List Spot) (U : List Int) : List Change := U.flatMap (fun n => chgG t (getS n a) (getS n b))
structure IsU (U : List Int) (a b : List Spot) : Prop where
  asc : U.Pairwise (fun a b => a < b)
  mem : ∀ n, n ∈ U ↔ (getS n a).isSome = true ∨ (getS n b).isSome = true
theorem isU_uniq {U V : List Int} {a b : List Spot} (h : IsU U a b) (k : IsU V a b) : U = V := ascI_ext h.asc k.asc (fun n => (h.mem n).trans (k.mem n).symm)
theorem isU_swap {U : List Int} {a b : List Spot} (h : IsU U a b) : IsU U b a := ⟨h.asc, fun n => (h.mem n).trans Or.comm⟩
theorem getS_isSome_cons (n : Int) (x : Spot) (l : List Spot) : (getS n (x :: l)).isSome = true ↔ n = x.id ∨ (getS n l).isSome = true := by
  rw [getS_cons]
  by_cases h : x.id = n
  · rw [if_pos h]; simp [h]
  · rw [if_neg h]
    exact ⟨.inr, fun hh => hh.resolve_left (fun e => h e.symm)⟩
theorem getS_isSome {n : Int} {l : List Spot} (h : (getS n l).isSome = true) : ∃ x ∈ l, x.id = n := by
  obtain ⟨x, hx⟩ := Option.isSome_iff_exists.1 h
  exact ⟨x, (getS_some hx).1, (getS_some hx).2⟩
theorem asc_cons {x : Spot} {l : List Spot} (h : Asc (x :: l)) : (∀ y ∈ l, x.id < y.id) ∧ Asc l := by
  rw [asc_iff, List.pairwise_cons] at h
  exact ⟨h.1, (asc_iff l).2 h.2⟩
theorem getS_ne {n : Int} {x : Spot} {l : List Spot} (h : n ≠ x.id) : getS n (x :: l) = getS n l := by
  rw [getS_cons, if_neg (fun e => h e.symm)]
theorem getS_hd (x : Spot) (l : List Spot) : getS x.id (x :: l) = some x := by rw [getS_cons, if_pos rfl]
theorem getS_low {n : Int} {l : List Spot} (h : ∀ y ∈ l, n < y.id) : getS n l = none := getS_none (fun y hy => by have := h y hy; omega)

/-- The ids of both, and the difference by them. -/
theorem diff_union (t : Int) : ∀ (a b : List Spot), Asc a → Asc b → IsU (unionI a b) a b ∧ diffL t a b = diffK t a b (unionI a b)
  | [], [], _, _ => by
    unfold unionI diffL
    exact ⟨⟨List.Pairwise.nil, fun n => by simp [getS_nil]⟩, rfl⟩
  | x :: a, [], ha, hb => by
    obtain ⟨h1, h2⟩ := asc_cons ha
    obtain ⟨i1, i2⟩ := diff_union t a [] h2 hb
    have hlow : ∀ n ∈ unionI a [], x.id < n := fun n hn => by
      rcases (i1.mem n).1 hn with h | h
      · obtain ⟨y, hy, rfl⟩ := getS_isSome h; exact h1 y hy
      · rw [getS_nil] at h; cases h
    unfold unionI diffL
    refine ⟨⟨List.pairwise_cons.2 ⟨hlow, i1.asc⟩, fun n => ?_⟩, ?_⟩
    · rw [List.mem_cons, i1.mem n, getS_isSome_cons, or_assoc]
    · unfold diffK
      rw [List.flatMap_cons, getS_hd, getS_nil]
      show _ :: _ = _ :: _
      rw [i2]
      congr 1
      exact flatMap_same (fun n hn => by rw [getS_ne (by have := hlow n hn; omega)])
  | [], y :: b, ha, hb => by
    obtain ⟨h1, h2⟩ := asc_cons hb
    obtain ⟨i1, i2⟩ := diff_union t [] b ha h2
    have hlow : ∀ n ∈ unionI [] b, y.id < n := fun n hn => by
      rcases (i1.mem n).1 hn with h | h
      · rw [getS_nil] at h; cases h
      · obtain ⟨z, hz, rfl⟩ := getS_isSome h; exact h1 z hz
    unfold unionI diffL
    refine ⟨⟨List.pairwise_cons.2 ⟨hlow, i1.asc⟩, fun n => ?_⟩, ?_⟩
    · rw [List.mem_cons, i1.mem n, getS_isSome_cons, getS_nil]
      simp
    · unfold diffK
      rw [List.flatMap_cons, getS_hd, getS_nil]
      show _ :: _ = _ :: _
      rw [i2]
      congr 1
      exact flatMap_same (fun n hn => by rw [getS_ne (by have := hlow n hn; omega)])
  | x :: a, y :: b, ha, hb => by
    obtain ⟨h1, h2⟩ := asc_cons ha
    obtain ⟨k1, k2⟩ := asc_cons hb
    unfold unionI diffL
    by_cases hxy : x.id < y.id
    · rw [if_pos hxy, if_pos hxy]
      obtain ⟨i1, i2⟩ := diff_union t a (y :: b) h2 hb
      have hlow : ∀ n ∈ unionI a (y :: b), x.id < n := fun n hn => by
        rcases (i1.mem n).1 hn with h | h
        · obtain ⟨z, hz, rfl⟩ := getS_isSome h; exact h1 z hz
        · obtain ⟨z, hz, rfl⟩ := getS_isSome h
          rcases List.mem_cons.1 hz with rfl | hz
          · exact hxy
          · have := k1 z hz; omega
      refine ⟨⟨List.pairwise_cons.2 ⟨hlow, i1.asc⟩, fun n => ?_⟩, ?_⟩
      · rw [List.mem_cons, i1.mem n, getS_isSome_cons n x, or_assoc]
      · unfold diffK
        have hno : getS x.id (y :: b) = none := getS_low (fun z hz => by
          rcases List.mem_cons.1 hz with rfl | hz
          · exact hxy
          · have := k1 z hz; omega)
        rw [List.flatMap_cons, getS_hd, hno]
        show _ :: _ = _ :: _
        rw [i2]
        congr 1
        exact flatMap_same (fun n hn => by rw [getS_ne (l := a) (by have := hlow n hn; omega)])
    · rw [if_neg hxy, if_neg hxy]
      by_cases hyx : y.id < x.id
      · rw [if_pos hyx, if_pos hyx]
        obtain ⟨i1, i2⟩ := diff_union t (x :: a) b ha k2
        have hlow : ∀ n ∈ unionI (x :: a) b, y.id < n := fun n hn => by
          rcases (i1.mem n).1 hn with h | h
          · obtain ⟨z, hz, rfl⟩ := getS_isSome h
            rcases List.mem_cons.1 hz with rfl | hz
            · exact hyx
            · have := h1 z hz; omega
          · obtain ⟨z, hz, rfl⟩ := getS_isSome h; exact k1 z hz
        refine ⟨⟨List.pairwise_cons.2 ⟨hlow, i1.asc⟩, fun n => ?_⟩, ?_⟩
        · rw [List.mem_cons, i1.mem n, getS_isSome_cons n y]
          constructor
          · rintro (h | h | h)
            · exact .inr (.inl h)
            · exact .inl h
            · exact .inr (.inr h)
          · rintro (h | h | h)
            · exact .inr (.inl h)
            · exact .inl h
            · exact .inr (.inr h)
        · unfold diffK
          have hno : getS y.id (x :: a) = none := getS_low (fun z hz => by
            rcases List.mem_cons.1 hz with rfl | hz
            · exact hyx
            · have := h1 z hz; omega)
          rw [List.flatMap_cons, getS_hd, hno]
          show _ :: _ = _ :: _
          rw [i2]
          congr 1
          exact flatMap_same (fun n hn => by rw [getS_ne (l := b) (by have := hlow n hn; omega)])
      · rw [if_neg hyx, if_neg hyx]
        have e : x.id = y.id := by omega
        obtain ⟨i1, i2⟩ := diff_union t a b h2 k2
        have hlow : ∀ n ∈ unionI a b, x.id < n := fun n hn => by
          rcases (i1.mem n).1 hn with h | h
          · obtain ⟨z, hz, rfl⟩ := getS_isSome h; exact h1 z hz
          · obtain ⟨z, hz, rfl⟩ := getS_isSome h; have := k1 z hz; omega
        refine ⟨⟨List.pairwise_cons.2 ⟨hlow, i1.asc⟩, fun n => ?_⟩, ?_⟩
        · rw [List.mem_cons, i1.mem n, getS_isSome_cons n x, getS_isSome_cons n y, ← e]
          constructor
          · rintro (h | h | h)
            · exact .inl (.inl h)
            · exact .inl (.inr h)
            · exact .inr (.inr h)
          · rintro ((h | h) | (h | h))
            · exact .inl h
            · exact .inr (.inl h)
            · exact .inl h
            · exact .inr (.inr h)
        · unfold diffK
          rw [List.flatMap_cons, getS_hd, e, getS_hd, i2]
          congr 1
          exact flatMap_same (fun n hn => by rw [getS_ne (l := a) (by have := hlow n hn; omega), getS_ne (l := b) (by have := hlow n hn; omega)])
termination_by a b => a.length + b.length
theorem diffL_of {t : Int} {a b : List Spot} (ha : Asc a) (hb : Asc b) {U : List Int} (h : IsU U a b) : diffL t a b = diffK t a b U := by
  obtain ⟨h1, h2⟩ := diff_union t a b ha hb
  rw [h2, isU_uniq h1 h]
theorem chgG_len (t : Int) (o s : Option Spot) : (chgG t o s).length ≤ 1 := by
  unfold chgG
  split
  · simp
  · simp
  · simp
  · split <;> simp
/-- No clash, by the ids. -/
theorem clash_of {a b : List Spot} (h : clashB a b = false) (n : Int) : clashG (getS n a) (getS n b) = false := by
  cases hx : getS n a with
  | none => rfl
  | some x =>
    obtain ⟨h1, rfl⟩ := getS_some hx
    unfold clashB at h
    rw [List.any_eq_false] at h
    simpa using h x h1
theorem clash_some {a b : List Spot} (h : clashB a b = true) : ∃ x ∈ a, clashG (some x) (getS x.id b) = true := by
  unfold clashB at h
  simpa using h
theorem clashG_symm (o s : Option Spot) : clashG o s = clashG s o := by
  unfold clashG
  cases o <;> cases s <;> try rfl
  rename_i x y
  show (decide (x.ver = y.ver) && !decide (x.text = y.text)) = (decide (y.ver = x.ver) && !decide (y.text = x.text))
  rw [decide_eq_decide.2 (eq_comm (a := x.ver) (b := y.ver)), decide_eq_decide.2 (eq_comm (a := x.text) (b := y.text))]
theorem clash_symm {a b : List Spot} (ha : Asc a) (hb : Asc b) : clashB a b = clashB b a := by
  have key : ∀ a b : List Spot, Asc a → Asc b → clashB a b = true → clashB b a = true := by
    intro a b ha hb h
    obtain ⟨x, hx, hc⟩ := clash_some h
    cases hy : getS x.id b with
    | none => rw [hy] at hc; cases hc
    | some y =>
      obtain ⟨hyb, e⟩ := getS_some hy
      refine List.any_eq_true.2 ⟨y, hyb, ?_⟩
      rw [e, getS_mem ha hx, clashG_symm, ← hy]
      exact hc
  cases h : clashB a b
  · cases h2 : clashB b a
    · rfl
    · rw [key b a hb ha h2] at h; cases h
  · exact (key a b ha hb h).symm
theorem same_of {n : Int} {a b : List Spot} (h : clashG (getS n a) (getS n b) = false) (hv : chgG 0 (getS n a) (getS n b) = []) : getS n a = getS n b := by
  cases hx : getS n a <;> cases hy : getS n b
  · rfl
  · rw [hx, hy] at hv; cases hv
  · rw [hx, hy] at hv; cases hv
  · rename_i x y
    rw [hx, hy] at hv h
    have e1 := (getS_some hx).2
    have e2 := (getS_some hy).2
    change (if x.ver = y.ver then [] else _) = [] at hv
    have hve : x.ver = y.ver := by
      by_cases c : x.ver = y.ver
      · exact c
      · rw [if_neg c] at hv; cases hv
    change (decide (x.ver = y.ver) && !decide (x.text = y.text)) = false at h
    rw [decide_eq_true hve] at h
    have hte : x.text = y.text := by simpa using h
    congr 1
    cases x; cases y
    simp only at e1 e2 hve hte
    rw [e1.trans e2.symm, hve, hte]
theorem chg_nil (t s : Int) (o p : Option Spot) : chgG t o p = [] ↔ chgG s o p = [] := by
  unfold chgG
  split <;> simp
end Go.Proofs.YtfbhfimejcdopaaGreatDoor

/- Differences applied, in plain lists. No program in sight. -/
namespace Go.Proofs.YtfbhfimejcdopaaGreatDoor
open Go.RowKit Go.Han

def appR : List Spot → List Change → Int × List Spot
  | s, [] => (0, s)
  | s, c :: q => if doE s c ≠ 0 then (doE s c, []) else appR (madeL c s) q
theorem appR_cons (s : List Spot) (c : Change) (q : List Change) : appR s (c :: q) = if doE s c ≠ 0 then (doE s c, []) else appR (madeL c s) q := rfl
theorem appR_ok {s : List Spot} {c : Change} {q : List Change} (h : doE s c = 0) : appR s (c :: q) = appR (madeL c s) q := by
  rw [appR_cons, if_neg (by simpa using h)]
theorem appR_zero {s r : List Spot} {c : Change} {q : List Change} (h : appR s (c :: q) = (0, r)) : doE s c = 0 ∧ appR (madeL c s) q = (0, r) := by
  rw [appR_cons] at h
  by_cases h0 : doE s c = 0
  · rw [if_neg (by simpa using h0)] at h; exact ⟨h0, h⟩
  · rw [if_pos h0] at h
    simp only [Prod.mk.injEq] at h
    exact absurd h.1 h0
theorem appR_app : ∀ (p q : List Change) (s r : List Spot), appR s p = (0, r) → appR s (p ++ q) = appR r q
  | [], q, s, r, h => by simp only [appR, Prod.mk.injEq, true_and] at h; rw [h]; rfl
  | c :: p, q, s, r, h => by
    obtain ⟨h1, h2⟩ := appR_zero h
    rw [List.cons_append, appR_ok h1]
    exact appR_app p q _ r h2
theorem appR_check : ∀ (p : List Change) (s r : List Spot), checkE s = 0 → appR s p = (0, r) → checkE r = 0
  | [], s, r, h, e => by simp only [appR, Prod.mk.injEq, true_and] at e; rw [← e]; exact h
  | c :: p, s, r, h, e => by
    obtain ⟨h1, h2⟩ := appR_zero e
    obtain ⟨a1, a2, a3, a4⟩ := (doE_zero_iff s c).1 h1
    exact appR_check p _ r (made_ok a1 a2 a3 a4) h2
theorem appR_ids : ∀ (p : List Change) (s r : List Spot), appR s p = (0, r) → ∀ n, n ∉ p.map (fun c => c.spot.id) → getS n r = getS n s
  | [], s, r, e, n, _ => by simp only [appR, Prod.mk.injEq, true_and] at e; rw [e]
  | c :: p, s, r, e, n, hn => by
    obtain ⟨h1, h2⟩ := appR_zero e
    obtain ⟨a1, a2, a3, a4⟩ := (doE_zero_iff s c).1 h1
    rw [List.map_cons, List.mem_cons, not_or] at hn
    rw [appR_ids p _ r h2 n hn.2, made_get ((checkE_iff s).1 a1).2.2 a3, if_neg hn.1]
theorem appR_times : ∀ (p : List Change) (s r : List Spot), appR s p = (0, r) → ∀ c ∈ p, timeB c.at_ = true
  | [], _, _, _, c, hc => by cases hc
  | d :: p, s, r, e, c, hc => by
    obtain ⟨h1, h2⟩ := appR_zero e
    rcases List.mem_cons.1 hc with rfl | hc
    · exact (ok_parts ((doE_zero_iff s c).1 h1).2.1).2.1
    · exact appR_times p _ r h2 c hc

/-! ### the difference as changes -/
theorem chg_mem {t : Int} {n : Int} {a b : List Spot} {c : Change} (h : c ∈ chgG t (getS n a) (getS n b)) : c.at_ = t ∧ c.spot.id = n ∧ getS n a ≠ getS n b ∧ chgG t (getS n a) (getS n b) = [c] := by
  cases hx : getS n a <;> cases hy : getS n b <;> rw [hx, hy] at h
  · cases h
  · rename_i y
    change c ∈ [_] at h
    rw [List.mem_singleton] at h
    subst h
    exact ⟨rfl, (getS_some hy).2, by simp, rfl⟩
  · rename_i x
    change c ∈ [_] at h
    rw [List.mem_singleton] at h
    subst h
    exact ⟨rfl, (getS_some hx).2, by simp, rfl⟩
  · rename_i x y
    change c ∈ (if x.ver = y.ver then [] else [_]) at h
    by_cases hv : x.ver = y.ver
    · rw [if_pos hv] at h; cases h
    · rw [if_neg hv, List.mem_singleton] at h
      subst h
      refine ⟨rfl, (getS_some hy).2, fun e => hv ?_, ?_⟩
      · injection e with e; rw [e]
      · show (if x.ver = y.ver then [] else _) = _
        rw [if_neg hv]
theorem diffK_ids (t : Int) (a b : List Spot) : ∀ U : List Int, U.Pairwise (fun a b => a < b) → ((diffK t a b U).map (fun c => c.spot.id)).Pairwise (fun a b => a < b) ∧ (∀ c ∈ diffK t a b U, c.at_ = t ∧ c.spot.id ∈ U ∧ getS c.spot.id a ≠ getS c.spot.id b)
  | [], _ => ⟨List.Pairwise.nil, by intro c hc; cases hc⟩
  | n :: U, h => by
    obtain ⟨h1, h2⟩ := List.pairwise_cons.1 h
    obtain ⟨i1, i2⟩ := diffK_ids t a b U h2
    have e : diffK t a b (n :: U) = chgG t (getS n a) (getS n b) ++ diffK t a b U := List.flatMap_cons ..
    rw [e]
    refine ⟨?_, ?_⟩
    · rw [List.map_append, List.pairwise_append]
      refine ⟨?_, i1, ?_⟩
      · cases hc : chgG t (getS n a) (getS n b) with
        | nil => exact List.Pairwise.nil
        | cons c q =>
          have := (chg_mem (t := t) (c := c) (by rw [hc]; simp)).2.2.2
          rw [hc] at this
          rw [this]; simp
      · intro x hx y hy
        obtain ⟨c, hc, rfl⟩ := List.mem_map.1 hx
        obtain ⟨d, hd, rfl⟩ := List.mem_map.1 hy
        rw [(chg_mem hc).2.1]
        exact h1 _ (i2 d hd).2.1
    · intro c hc
      rcases List.mem_append.1 hc with hc | hc
      · obtain ⟨k1, k2, k3, _⟩ := chg_mem hc
        rw [k2]
        exact ⟨k1, by simp, k3⟩
      · obtain ⟨k1, k2, k3⟩ := i2 c hc
        exact ⟨k1, by simp [k2], k3⟩
/-- No list of changes that makes b of a is shorter than the difference. -/
theorem diff_least {t : Int} {a b : List Spot} (ha : Asc a) (hb : Asc b) {p : List Change} (h : appR a p = (0, b)) : (diffL t a b).length ≤ p.length := by
  obtain ⟨h1, h2⟩ := diff_union t a b ha hb
  obtain ⟨k1, k2⟩ := diffK_ids t a b _ h1.asc
  rw [h2]
  have := nodup_len (v := p.map (fun c => c.spot.id)) (ascI_nodup k1) (fun n hn => by
    obtain ⟨c, hc, rfl⟩ := List.mem_map.1 hn
    refine Decidable.byContradiction fun hh => (k2 c hc).2.2 ?_
    exact (appR_ids p a b h _ hh).symm)
  simpa using this
theorem asc_ids {s : List Spot} (h : Asc s) : (s.map (fun x => x.id)).Pairwise (fun a b => a < b) := by
  rw [List.pairwise_map]; exact (asc_iff s).1 h
theorem getS_of_mem {s : List Spot} (h : Asc s) {x : Spot} (hx : x ∈ s) : (getS x.id s).isSome = true := by rw [getS_mem h hx]; rfl
theorem union_len {a b : List Spot} {U : List Int} (h : IsU U a b) : U.length ≤ a.length + b.length := by
  have := nodup_len (v := a.map (fun x => x.id) ++ b.map (fun x => x.id)) (ascI_nodup h.asc) (fun n hn => by
    rcases (h.mem n).1 hn with h | h
    · obtain ⟨x, hx, rfl⟩ := getS_isSome h; exact List.mem_append_left _ (List.mem_map.2 ⟨x, hx, rfl⟩)
    · obtain ⟨x, hx, rfl⟩ := getS_isSome h; exact List.mem_append_right _ (List.mem_map.2 ⟨x, hx, rfl⟩))
  simpa using this
/-- The change at an id does what the other display shows. -/
theorem chg_step {t : Int} (ht : timeB t = true) {a b s : List Spot} (hab : a.length + b.length ≤ 1024) {U : List Int} (hU : IsU U a b) (hca : checkE a = 0) (hcb : checkE b = 0) (hs : checkE s = 0)
    (hsub : ∀ x ∈ s, x.id ∈ U) {n : Int} (hn : n ∈ U) (hsn : getS n s = getS n a) {c : Change} (hc : chgG t (getS n a) (getS n b) = [c]) :
    doE s c = 0 ∧ (∀ m, getS m (madeL c s) = if m = n then getS n b else getS m s) ∧ (∀ x ∈ madeL c s, x.id ∈ U) := by
  obtain ⟨_, oka, aa⟩ := (checkE_iff a).1 hca
  obtain ⟨_, okb, ab⟩ := (checkE_iff b).1 hcb
  obtain ⟨hl, oks, sa⟩ := (checkE_iff s).1 hs
  have hid : c.spot.id = n := (chg_mem (c := c) (by rw [hc]; simp)).2.1
  have key : c.ok = true ∧ fitsG c (getS n a) = true ∧ madeG c = getS n b := by
    cases hx : getS n a <;> cases hy : getS n b <;> rw [hx, hy] at hc
    · cases hc
    · rename_i y
      change [_] = [c] at hc
      injection hc with hc
      subst hc
      have hok := okb y (getS_some hy).1
      refine ⟨?_, rfl, rfl⟩
      show (kindB 1 && timeB t && y.ok) = true
      rw [ht, hok]; rfl
    · rename_i x
      change [_] = [c] at hc
      injection hc with hc
      subst hc
      have hok := oka x (getS_some hx).1
      refine ⟨?_, ?_, rfl⟩
      · show (kindB 2 && timeB t && x.ok) = true
        rw [ht, hok]; rfl
      · show ((some x : Option Spot) == some x) = true
        simp
    · rename_i x y
      change (if x.ver = y.ver then [] else [_]) = [c] at hc
      by_cases hv : x.ver = y.ver
      · rw [if_pos hv] at hc; cases hc
      · rw [if_neg hv] at hc
        injection hc with hc
        subst hc
        have hok := okb y (getS_some hy).1
        refine ⟨?_, ?_, rfl⟩
        · show (kindB 3 && timeB t && y.ok) = true
          rw [ht, hok]; rfl
        · show (!(x.ver == y.ver)) = true
          simpa using hv
  obtain ⟨k1, k2, k3⟩ := key
  have hfit : fitsB c s = true := by rw [fits_get sa, hid, hsn]; exact k2
  have hget : ∀ m, getS m (madeL c s) = if m = n then getS n b else getS m s := fun m => by rw [made_get sa hfit, hid, k3]
  have hmem : ∀ x ∈ madeL c s, x.id ∈ U := fun x hx => by
    rcases made_mem sa hfit hx with rfl | hx
    · rw [hid]; exact hn
    · exact hsub x hx
  have hasc := made_asc sa hfit
  have hlen : (madeL c s).length ≤ 1024 := by
    have := nodup_len (v := U) (ascI_nodup (asc_ids hasc)) (fun m hm => by
      obtain ⟨x, hx, rfl⟩ := List.mem_map.1 hm
      exact hmem x hx)
    have h2 := union_len hU
    simp at this
    omega
  exact ⟨(doE_zero_iff s c).2 ⟨hs, k1, hfit, hlen⟩, hget, hmem⟩
theorem diff_steps {t : Int} (ht : timeB t = true) {a b : List Spot} (hab : a.length + b.length ≤ 1024) {U : List Int} (hU : IsU U a b) (hca : checkE a = 0) (hcb : checkE b = 0) (hcl : clashB a b = false) :
    ∀ (Q P : List Int) (s : List Spot), U = P ++ Q → checkE s = 0 → (∀ x ∈ s, x.id ∈ U) → (∀ n, getS n s = if n ∈ P then getS n b else getS n a) → appR s (diffK t a b Q) = (0, b)
  | [], P, s, hP, hs, _, hg => by
    show (0, s) = (0, b)
    rw [List.append_nil] at hP
    congr 1
    refine asc_ext s b ((checkE_iff s).1 hs).2.2 ((checkE_iff b).1 hcb).2.2 (fun n => ?_)
    rw [hg n]
    by_cases h : n ∈ P
    · rw [if_pos h]
    · rw [if_neg h]
      have : ¬ ((getS n a).isSome = true ∨ (getS n b).isSome = true) := fun hh => h (hP ▸ (hU.mem n).2 hh)
      rw [not_or] at this
      rw [Option.not_isSome_iff_eq_none.1 this.1, Option.not_isSome_iff_eq_none.1 this.2]
  | n :: Q, P, s, hP, hs, hsub, hg => by
    have e : diffK t a b (n :: Q) = chgG t (getS n a) (getS n b) ++ diffK t a b Q := List.flatMap_cons ..
    have hU2 : U = (P ++ [n]) ++ Q := by rw [hP]; simp
    have hnP : n ∉ P := by
      have := hU.asc
      rw [hP, List.pairwise_append] at this
      intro hh
      have := this.2.2 n hh n (by simp)
      omega
    have hn : n ∈ U := by rw [hP]; simp
    have hsn : getS n s = getS n a := by rw [hg n, if_neg hnP]
    rw [e]
    cases hc : chgG t (getS n a) (getS n b) with
    | nil =>
      have hsame := same_of (clash_of hcl n) ((chg_nil t 0 _ _).1 hc)
      refine diff_steps ht hab hU hca hcb hcl Q (P ++ [n]) s hU2 hs hsub (fun m => ?_)
      rw [hg m]
      by_cases hm : m ∈ P
      · rw [if_pos hm, if_pos (by simp [hm])]
      · rw [if_neg hm]
        by_cases hmn : m = n
        · subst hmn; rw [if_pos (by simp)]; exact hsame
        · rw [if_neg (by simp [hm, hmn])]
    | cons c q =>
      have hq := (chg_mem (t := t) (c := c) (by rw [hc]; simp)).2.2.2
      rw [hc] at hq
      injection hq with _ hq
      subst hq
      obtain ⟨d1, d2, d3⟩ := chg_step ht hab hU hca hcb hs hsub hn hsn hc
      obtain ⟨a1, a2, a3, a4⟩ := (doE_zero_iff s c).1 d1
      rw [List.cons_append, List.nil_append, appR_ok d1]
      refine diff_steps ht hab hU hca hcb hcl Q (P ++ [n]) _ hU2 (made_ok a1 a2 a3 a4) d3 (fun m => ?_)
      rw [d2 m]
      by_cases hmn : m = n
      · subst hmn; rw [if_pos rfl, if_pos (by simp)]
      · rw [if_neg hmn, hg m]
        by_cases hm : m ∈ P
        · rw [if_pos hm, if_pos (by simp [hm])]
        · rw [if_neg hm, if_neg (by simp [hm, hmn])]
/-- The difference makes b of a. -/
theorem diff_applied {t : Int} (ht : timeB t = true) {a b : List Spot} (hab : a.length + b.length ≤ 1024) (hca : checkE a = 0) (hcb : checkE b = 0) (hcl : clashB a b = false) : appR a (diffL t a b) = (0, b) := by
  obtain ⟨_, _, aa⟩ := (checkE_iff a).1 hca
  obtain ⟨_, _, ab⟩ := (checkE_iff b).1 hcb
  obtain ⟨h1, h2⟩ := diff_union t a b aa ab
  rw [h2]
  exact diff_steps ht hab h1 hca hcb hcl _ [] a rfl hca (fun x hx => (h1.mem _).2 (.inl (getS_of_mem aa hx))) (fun n => by simp)
theorem diff_nil_iff {t : Int} (ht : timeB t = true) {a b : List Spot} (hab : a.length + b.length ≤ 1024) (hca : checkE a = 0) (hcb : checkE b = 0) (hcl : clashB a b = false) : diffL t a b = [] ↔ a = b := by
  constructor
  · intro h
    have := diff_applied ht hab hca hcb hcl
    rw [h] at this
    simpa [appR] using this
  · rintro rfl
    obtain ⟨_, _, aa⟩ := (checkE_iff a).1 hca
    have := diff_least (t := t) aa aa (p := []) rfl
    exact List.eq_nil_of_length_eq_zero (by simpa using this)
def diffE (a b : List Spot) (t : Int) : Int := if checkE a ≠ 0 then checkE a else if checkE b ≠ 0 then checkE b else if timeB t = false then 1 else if clashB a b = true then 510 else 0
def diffO (a b : List Spot) (t : Int) : List Change := if diffE a b t = 0 then diffL t a b else []
def applyE (a : List Spot) (p : List Change) : Int := if checkE a ≠ 0 then checkE a else if 4096 < p.length then 2 else (appR a p).1
def applyO (a : List Spot) (p : List Change) : List Spot := if applyE a p = 0 then (appR a p).2 else []
theorem diffE_zero {a b : List Spot} {t : Int} (h : diffE a b t = 0) : checkE a = 0 ∧ checkE b = 0 ∧ timeB t = true ∧ clashB a b = false := by
  unfold diffE at h
  by_cases h1 : checkE a = 0
  · rw [if_neg (by simpa using h1)] at h
    by_cases h2 : checkE b = 0
    · rw [if_neg (by simpa using h2)] at h
      cases h3 : timeB t
      · rw [h3, if_pos rfl] at h; cases h
      · rw [h3, if_neg (by simp)] at h
        cases h4 : clashB a b
        · exact ⟨h1, h2, rfl, rfl⟩
        · rw [h4, if_pos rfl] at h; cases h
    · rw [if_pos h2] at h; exact absurd h h2
  · rw [if_pos h1] at h; exact absurd h h1
theorem applyE_zero {a : List Spot} {p : List Change} (h : applyE a p = 0) : checkE a = 0 ∧ p.length ≤ 4096 ∧ appR a p = (0, applyO a p) := by
  have h0 := h
  unfold applyE at h
  by_cases h1 : checkE a = 0
  · rw [if_neg (by simpa using h1)] at h
    by_cases h2 : 4096 < p.length
    · rw [if_pos h2] at h; cases h
    · rw [if_neg h2] at h
      refine ⟨h1, by omega, ?_⟩
      unfold applyO
      rw [if_pos h0, ← h]
  · rw [if_pos h1] at h; exact absurd h h1
end Go.Proofs.YtfbhfimejcdopaaGreatDoor

/- Maps as functions: what a map of the call's own holds at each key; ranging over one. No program in sight. -/
namespace Go.Han
open Go.Maps (Keyed)

section
variable {α β : Type} {P : Program} {k : TypeId}

/-- How keys are spelled: as values, as the reader's keys; which of them are keys at all. -/
structure KeyShape (P : Program) (k : TypeId) (α : Type) where
  val : α → Value
  lit : α → Lit
  good : α → Prop
  of : ∀ x, good x → keyOf P k (val x) = some (lit x)
  inv : ∀ v l, keyOf P k v = some l → ∃ x, good x ∧ v = val x ∧ l = lit x
  inj : ∀ x y, good x → good y → lit x = lit y → x = y
/-- How elements are spelled. -/
structure ElemShape (β : Type) where
  val : β → Value
  inj : ∀ x y, val x = val y → x = y

/-- An element reads as itself. -/
noncomputable def ElemShape.read (E : ElemShape β) (v : Value) : Option (DataW β × List MemPlace) :=
  open Classical in if h : ∃ c, v = E.val c then some (.held (Classical.choose h), []) else none
theorem ElemShape.read_val (E : ElemShape β) (c : β) : E.read (E.val c) = some (.held c, []) := by
  unfold ElemShape.read
  have h : ∃ c', E.val c = E.val c' := ⟨c, rfl⟩
  rw [dif_pos h, E.inj _ _ (Classical.choose_spec h).symm]
theorem ElemShape.read_inv (E : ElemShape β) {v : Value} {y : DataW β × List MemPlace} (h : E.read v = some y) : ∃ c, v = E.val c ∧ y = (.held c, []) := by
  unfold ElemShape.read at h
  split at h
  · rename_i hc
    cases h
    exact ⟨Classical.choose hc, Classical.choose_spec hc, rfl⟩
  · cases h

/-- What stands at the keys. -/
def HoldsAt (S : KeyShape P k α) (D : DataW β) (f : α → Option β) : Prop :=
  ∀ x, S.good x → (f x = none → Maps.has D (S.lit x) = false) ∧ ∀ c, f x = some c → Maps.has D (S.lit x) = true ∧ ∀ z, D.atKey (S.lit x) z = .held c

/-- Block b is a map of at most n entries that holds f. -/
def MapF (w : World) (S : KeyShape P k α) (E : ElemShape β) (b n : Nat) (f : α → Option β) : Prop :=
  ∃ D : DataW β, w.ownsMap P k E.read b n D ∧ HoldsAt S D f

theorem MapF.lt {w : World} {S : KeyShape P k α} {E : ElemShape β} {b n : Nat} {f : α → Option β} (h : MapF w S E b n f) : b < w.heap.size := let ⟨_, h1, _⟩ := h; h1.lt
theorem MapF.made (w : World) (S : KeyShape P k α) (E : ElemShape β) : MapF (w.alloc (.map #[] 0)) S E w.heap.size 0 (fun _ => none) :=
  ⟨.map [], World.ownsMap_made w P k E.read, fun x _ => ⟨fun _ => rfl, fun c h => by cases h⟩⟩
theorem MapF.mono {w : World} {S : KeyShape P k α} {E : ElemShape β} {b n n' : Nat} {f : α → Option β} (h : MapF w S E b n f) (hn : n ≤ n') : MapF w S E b n' f :=
  let ⟨D, h1, h2⟩ := h; ⟨D, h1.mono hn, h2⟩
theorem MapF.of_block {w w' : World} {S : KeyShape P k α} {E : ElemShape β} {b n : Nat} {f : α → Option β} (h : MapF w S E b n f) (hb : w'.heap[b]? = w.heap[b]?) : MapF w' S E b n f := by
  obtain ⟨D, ⟨es, clock, h1, h2⟩, h3⟩ := h
  exact ⟨D, ⟨es, clock, hb.trans h1, h2⟩, h3⟩
theorem MapF.congr {w : World} {S : KeyShape P k α} {E : ElemShape β} {b n : Nat} {f g : α → Option β} (h : MapF w S E b n f) (e : ∀ x, S.good x → g x = f x) : MapF w S E b n g := by
  obtain ⟨D, h1, h2⟩ := h
  exact ⟨D, h1, fun x hx => by rw [e x hx]; exact h2 x hx⟩

theorem HoldsAt.put [DecidableEq α] {S : KeyShape P k α} (K : Keyed P k) {D : DataW β} {f : α → Option β} (h : HoldsAt S D f) (hD : Maps.IsMap D) {x : α} (hx : S.good x) (c : β) :
    HoldsAt S (D.put (S.lit x) (.held c)) (fun y => if y = x then some c else f y) := by
  intro y hy
  have hk : WideAt.IsKeyLit (S.lit x) := K.key (S.of x hx)
  by_cases e : y = x
  · subst e
    exact ⟨fun h => by simp at h, fun c' h => by
      simp at h; subst h
      exact ⟨Maps.has_put_same hD hk _, fun z => Maps.atKey_put_same hD hk _ z⟩⟩
  · have hne : S.lit y ≠ S.lit x := fun h' => e (S.inj y x hy hx h')
    obtain ⟨h1, h2⟩ := h y hy
    exact ⟨fun h' => by rw [Maps.has_put_other hne]; exact h1 (by simpa [e] using h'), fun c' h' => by
      have := h2 c' (by simpa [e] using h')
      exact ⟨by rw [Maps.has_put_other hne]; exact this.1, fun z => by rw [Maps.atKey_put_other hne]; exact this.2 z⟩⟩

section
variable (w : World) {ops : Array Oper} {rest : List Oper} {o : Oper} {a : Act} {Q : Exit → Act → World → Prop}

/-- m[x] = c. -/
theorem wpList_mapUpdate_f [DecidableEq α] (hg : o.guard = none) (m x v : Operand) (t : TypeId) (hop : o.op = Op.mapUpdate t m x v) (e : TypeId) (K : Keyed P k) (ht : P.underlying t = some (.map k e)) (S : KeyShape P k α) (E : ElemShape β) (b n : Nat) (f : α → Option β)
    (hm : a.eval m = .map (some b)) (hown : MapF w S E b n f) (hn : n < maxLen) (key : α) (c : β) (hx : a.eval x = S.val key) (hv : a.eval v = E.val c) (hgood : S.good key)
    (hK : ∀ w', MapF w' S E b (n + 1) (fun y => if y = key then some c else f y) → w.grownBy w' (some b) → w'.heap.size = w.heap.size → wpList P ops Q rest (a.put o.dst undef) w') :
    wpList P ops Q (o :: rest) a w := by
  obtain ⟨D, h1, h2⟩ := hown
  refine wpList_plain hg fun K' hK' => ?_
  obtain ⟨w', hrun, r1, r2⟩ := h1.store K ht hn (S.of key hgood) (E.read_val c)
  have hsz : w'.heap.size = w.heap.size := by
    obtain ⟨es, clock, es', clock', hb, rfl⟩ := r2
    simp [ChangeMaps.setBlock]
  unfold Oper.wp
  simp [execOp, hop, hm, hx, hv, hrun, Result.andThen]
  exact hK' _ _ (hK w' ⟨_, r1, h2.put K h1.isMap hgood c⟩ r2.grown hsz)

/-- m[x] = c, as an equation. -/
theorem MapF.store [DecidableEq α] {t e : TypeId} (K : Keyed P k) (ht : P.underlying t = some (.map k e)) {S : KeyShape P k α} {E : ElemShape β} {b n : Nat} {f : α → Option β} (hown : MapF w S E b n f) (hn : n < maxLen) (key : α) (c : β) (hgood : S.good key) :
    ∃ w', (Instr.mapUpdate t (.map (some b)) (S.val key) (E.val c)).run P w = .ok () w' ∧ MapF w' S E b (n + 1) (fun y => if y = key then some c else f y) ∧ w.grownBy w' (some b) ∧ w'.heap.size = w.heap.size := by
  obtain ⟨D, h1, h2⟩ := hown
  obtain ⟨w', hrun, r1, r2⟩ := h1.store K ht hn (S.of key hgood) (E.read_val c)
  refine ⟨w', hrun, ⟨_, r1, h2.put K h1.isMap hgood c⟩, r2.grown, ?_⟩
  obtain ⟨es, clock, es', clock', hb, rfl⟩ := r2
  simp [ChangeMaps.setBlock]
/-- v, ok := m[x]. -/
theorem run_lookup_f {t e : TypeId} (K : Keyed P k) (ht : P.underlying t = some (.map k e)) (S : KeyShape P k α) (E : ElemShape β) (z0 : β) {b n : Nat} {f : α → Option β} (hz : (zeroValue e).run P w = .ok (E.val z0) w) (hown : MapF w S E b n f) (key : α) (hgood : S.good key) :
    (Instr.lookup t (.map (some b)) (S.val key) true).run P w = .ok (.tuple #[E.val ((f key).getD z0), .bool (f key).isSome]) w := by
  obtain ⟨D, h1, h2⟩ := hown
  obtain ⟨v, ps, hrun, hv⟩ := h1.look_ok K ht hz (E.read_val z0) (S.of key hgood)
  obtain ⟨g1, g2⟩ := h2 key hgood
  obtain ⟨c, rfl, hc⟩ := E.read_inv hv
  simp only [Prod.mk.injEq] at hc
  cases hf : f key with
  | none =>
    have := g1 hf
    rw [Maps.atKey_of_not_has this] at hc
    cases hc.1
    rw [this] at hrun
    exact hrun
  | some c' =>
    obtain ⟨g3, g4⟩ := g2 c' hf
    rw [g4] at hc
    cases hc.1
    rw [g3] at hrun
    exact hrun
theorem wpList_lookup_f (hg : o.guard = none) (m x : Operand) (t : TypeId) (hop : o.op = Op.lookup t m x true) (e : TypeId) (K : Keyed P k) (ht : P.underlying t = some (.map k e)) (S : KeyShape P k α) (E : ElemShape β) (z0 : β) (b n : Nat) (f : α → Option β)
    (hz : (zeroValue e).run P w = .ok (E.val z0) w) (hm : a.eval m = .map (some b)) (hown : MapF w S E b n f) (key : α) (hx : a.eval x = S.val key) (hgood : S.good key)
    (hK : wpList P ops Q rest (a.put o.dst (.tuple #[E.val ((f key).getD z0), .bool (f key).isSome])) w) :
    wpList P ops Q (o :: rest) a w := by
  refine wpList_plain hg fun K' hK' => ?_
  have hrun := run_lookup_f w K ht S E z0 hz hown key hgood
  unfold Oper.wp
  simp only [execOp, hop, hm, hx, Sem.run_bind, hrun, Result.andThen_ok, Sem.run_pure]
  exact hK' _ _ hK

theorem wpList_lookup_is (hg : o.guard = none) (m x : Operand) (t : TypeId) (hop : o.op = Op.lookup t m x true) (e : TypeId) (K : Keyed P k) (ht : P.underlying t = some (.map k e)) (S : KeyShape P k α) (E : ElemShape β) (z0 : β) (b n : Nat) (f : α → Option β)
    (hz : (zeroValue e).run P w = .ok (E.val z0) w) (hm : a.eval m = .map (some b)) (hown : MapF w S E b n f) (key : α) (hx : a.eval x = S.val key) (hgood : S.good key) (vc : Value) (bc : Bool) (hv : E.val ((f key).getD z0) = vc) (hb : (f key).isSome = bc)
    (hK : wpList P ops Q rest (a.put o.dst (.tuple #[vc, .bool bc])) w) :
    wpList P ops Q (o :: rest) a w := by
  subst hv hb
  exact wpList_lookup_f w hg m x t hop e K ht S E z0 b n f hz hm hown key hx hgood hK

/-! ### ranging -/
/-- Block r ranges over the map in block b; 'left': what is still to come. -/
def RangeF (w : World) (S : KeyShape P k α) (E : ElemShape β) (b r n : Nat) (f : α → Option β) (left : α → Bool) (cnt : Nat) : Prop :=
  ∃ (D : DataW β) (lf : Lit → Bool), w.ranges P k E.read b r n D lf cnt ∧ HoldsAt S D f ∧ (∀ x, S.good x → left x = lf (S.lit x)) ∧ ∀ l, lf l = true → ∃ x, S.good x ∧ l = S.lit x
end
theorem RangeF.kept {w w' : World} {S : KeyShape P k α} {E : ElemShape β} {b r n cnt : Nat} {f : α → Option β} {left : α → Bool} {row : Option Nat} (h : RangeF w S E b r n f left cnt) (hg : w.grownBy w' row) (hb : some b ≠ row) (hr : some r ≠ row) : RangeF w' S E b r n f left cnt :=
  let ⟨D, lf, h1, h2⟩ := h; ⟨D, lf, h1.kept hg hb hr, h2⟩
theorem RangeF.owns {w : World} {S : KeyShape P k α} {E : ElemShape β} {b r n cnt : Nat} {f : α → Option β} {left : α → Bool} (h : RangeF w S E b r n f left cnt) : MapF w S E b n f :=
  let ⟨D, _, h1, h2, _⟩ := h; ⟨D, h1.owns, h2⟩
theorem RangeF.left_eq {w : World} {S : KeyShape P k α} {E : ElemShape β} {b r n cnt : Nat} {f : α → Option β} {left : α → Bool} (h : RangeF w S E b r n f left cnt) : w.rangeLeft b r = cnt :=
  let ⟨_, _, h1, _⟩ := h; h1.left_eq
theorem RangeF.lt {w : World} {S : KeyShape P k α} {E : ElemShape β} {b r n cnt : Nat} {f : α → Option β} {left : α → Bool} (h : RangeF w S E b r n f left cnt) : r < w.heap.size :=
  let ⟨_, _, h1, _⟩ := h; h1.lt

section
variable (w : World) {ops : Array Oper} {rest : List Oper} {o : Oper} {a : Act} {Q : Exit → Act → World → Prop}
/-- range m. -/
theorem wpList_range_f (hg : o.guard = none) (m : Operand) (t : TypeId) (hop : o.op = Op.range t m) (e : TypeId) (K : Keyed P k) (ht : P.underlying t = some (.map k e)) (S : KeyShape P k α) (E : ElemShape β) (b n : Nat) (f : α → Option β)
    (hm : a.eval m = .map (some b)) (hown : MapF w S E b n f)
    (hK : ∀ w' cnt, RangeF w' S E b w.heap.size n f (fun x => (f x).isSome) cnt → w.grownBy w' none → w'.heap.size = w.heap.size + 1 → wpList P ops Q rest (a.put o.dst (.pointer (some ⟨w.heap.size, 0, none⟩))) w') :
    wpList P ops Q (o :: rest) a w := by
  obtain ⟨D, h1, h2⟩ := hown
  obtain ⟨es, hes, hpw, hkl⟩ := h1.entries K
  refine wpList_range_own w hg m t hop k e K ht E.read b n D hm h1 fun w' hr hgr hs => hK w' _ ⟨D, Maps.has D, hr, h2, fun x hx => ?_, fun l hl => ?_⟩ hgr hs
  · obtain ⟨g1, g2⟩ := h2 x hx
    show (f x).isSome = _
    cases hf : f x with
    | none => exact (g1 hf).symm
    | some c => exact ((g2 c hf).1).symm
  · obtain ⟨es', clock, _, F, _, hD⟩ := h1
    subst hD
    obtain ⟨p, hp, hpk⟩ := List.any_eq_true.1 hl
    obtain ⟨y, hy, rfl⟩ := List.mem_map.1 (mem_sorted.1 hp)
    obtain ⟨z, hz⟩ := F.reads y hy
    have hk' := WideElems.rd_key hz
    have e1 : (WideElems.rg P k E.read y).1 = z.1 := by rw [WideElems.rg_of hz]
    obtain ⟨x, hx, _, hl'⟩ := S.inv _ _ hk'
    exact ⟨x, hx, by rw [← hl', ← e1]; exact (WideAt.sameKey_eq hpk).symm⟩

/-- The step. -/
theorem wpList_next_f [DecidableEq α] (hg : o.guard = none) (it : Operand) (hop : o.op = Op.next it false) (K : Keyed P k) (S : KeyShape P k α) (E : ElemShape β) (b r n : Nat) (f : α → Option β) (left : α → Bool) (cnt : Nat) (kv : α → Value) (cv : β → Value) (hkv : ∀ x, S.val x = kv x) (hcv : ∀ c, E.val c = cv c)
    (hit : a.eval it = .pointer (some ⟨r, 0, none⟩)) (h : RangeF w S E b r n f left cnt)
    (hDone : (∀ x, S.good x → left x = false) → wpList P ops Q rest (a.put o.dst (.tuple #[.bool false])) w)
    (hMore : ∀ (x : α) (c : β) (w' : World) (cnt' : Nat), S.good x → left x = true → f x = some c → RangeF w' S E b r n f (fun y => left y && !decide (y = x)) cnt' → cnt' < cnt →
      w.grownBy w' (some r) → w'.heap.size = w.heap.size → (Instr.entry (.pointer (some ⟨r, 0, none⟩))).run P w' = .ok (.tuple #[kv x, cv c]) w' → wpList P ops Q rest (a.put o.dst (.tuple #[.bool true, kv x, cv c])) w') :
    wpList P ops Q (o :: rest) a w := by
  obtain ⟨D, lf, h1, h2, h3, h4⟩ := h
  refine wpList_next_ranges w hg it hop k K E.read S.val E.val (fun key kl hk => by obtain ⟨x, _, hx, _⟩ := S.inv key kl hk; exact ⟨x, hx⟩) (fun v y hv => by obtain ⟨c, hc, _⟩ := E.read_inv hv; exact ⟨c, hc⟩) b r n D lf cnt hit h1
    (fun _ hl => hDone fun x hx => by rw [h3 x hx, hl]) ?_
  intro x' c kl y w' cnt' hkey hlk hv hat hrg hlt hgr hsz hen
  obtain ⟨x, hx, hxv, hxl⟩ := S.inv _ _ hkey
  subst hxl
  obtain ⟨c', hc', hy⟩ := E.read_inv hv
  obtain rfl : c = c' := E.inj _ _ hc'
  subst hy
  rw [hxv, hkv, hcv] at hen
  rw [hxv, hkv, hcv]
  have hfx : f x = some c := by
    obtain ⟨g1, g2⟩ := h2 x hx
    cases hf : f x with
    | none =>
      have := g1 hf
      have h0 := hat .nil
      rw [Maps.atKey_of_not_has this] at h0
      cases h0
    | some c2 =>
      have h0 := (g2 c2 hf).2 .nil
      rw [hat] at h0
      cases h0
      rfl
  refine hMore x c w' cnt' hx (by rw [h3 x hx]; exact hlk) hfx ⟨D, _, hrg, h2, fun y hy => ?_, fun l hl => ?_⟩ hlt hgr hsz hen
  · show (left y && !decide (y = x)) = (lf (S.lit y) && !(S.lit y).sameKey (S.lit x))
    rw [h3 y hy]
    by_cases e : y = x
    · subst e
      rw [WideAt.sameKey_self (K.key (S.of y hy))]; simp
    · rw [Maps.sameKey_ne (fun h' => e (S.inj y x hy hx h'))]; simp [e]
  · refine h4 l ?_
    cases hl' : lf l
    · simp [hl'] at hl
    · rfl
end

/-- Keys of the type int. -/
def intShape {q : IntKind} (hk : P.underlying k = some (.int q)) : KeyShape P k Int where
  val := .int q
  lit := .int q
  good x := (Lit.int q x).wf = true
  of x hx := by simp [keyOf, mapKey, hk, hx]
  inv v l h := by
    obtain ⟨x, h1, h2, h3⟩ := Maps.keyOf_int_inv hk h
    exact ⟨x, h3, h1, h2⟩
  inj x y _ _ h := by cases h; rfl
end
end Go.Han

/- Slices of the call's own, elements of any number of cells. No program in sight. -/
namespace Go.Han
open Go.RowKit
section
variable {α : Type} {f : α → List Value} {E sz : Nat} {w w' : World} {base : Nat} {v : Value} {l : List α}

/-- v owns the elements l. -/
def OwnL (f : α → List Value) (E sz : Nat) (w : World) (base : Nat) (v : Value) (l : List α) : Prop := w.ownsRow base E sz v l.length (l.flatMap f)
theorem OwnL.nil (f : α → List Value) (E sz : Nat) (w : World) (base : Nat) : OwnL f E sz w base (.slice none 0 0) [] := ⟨by simp, .inl ⟨rfl, rfl⟩⟩
theorem OwnL.form (h0 : 0 < sz) (h : OwnL f E sz w base v l) : ∃ A c, v = .slice A l.length c ∧ Rd w A (l.flatMap f) ∧ (A = none → l = []) := by
  obtain ⟨A, c, rfl, _, _, hl, hr⟩ := SlOf.of_own h
  refine ⟨A, c, rfl, hr, ?_⟩
  rintro rfl
  rcases hr with h | ⟨b, off, h, _⟩
  · rw [h] at hl
    refine List.eq_nil_of_length_eq_zero ?_
    rcases Nat.eq_zero_or_pos l.length with h | h
    · exact h
    · have := Nat.mul_pos h h0
      simp at hl
      omega
  · cases h
theorem OwnL.mono {b' : Nat} (h : OwnL f E sz w base v l) (hb : b' ≤ base) : OwnL f E sz w b' v l := by
  refine ⟨h.1, ?_⟩
  rcases h.2 with h | ⟨g, c, cur, h1, h2, h3⟩
  · exact .inl h
  · exact .inr ⟨g, c, cur, h1, Nat.le_trans hb h2, h3⟩
theorem OwnL.snoc (x : α) (h : w.ownsRow base E sz v (l.length + 1) (l.flatMap f ++ f x)) : OwnL f E sz w base v (l ++ [x]) := by
  unfold OwnL
  simpa using h
theorem OwnL.lt (h : OwnL f E sz w base v l) : ∀ g, v.ownBlock = some g → base ≤ g ∧ g < w.heap.size := fun g hg => World.ownsRow.lt h g hg
theorem OwnL.block (h : OwnL f E sz w base v l) (hb : ∀ g, v.ownBlock = some g → w'.heap[g]? = w.heap[g]?) : OwnL f E sz w' base v l := ownsRow_of_block h hb
theorem OwnL.ext (h : OwnL f E sz w base v l) (hb : Below w.heap.size w w') : OwnL f E sz w' base v l := h.block fun g hg => hb.block g (h.lt g hg).2
theorem OwnL.far {row : Option Nat} (h : OwnL f E sz w base v l) (hg : w.grownBy w' row) (hne : ∀ g, v.ownBlock = some g → some g ≠ row) : OwnL f E sz w' base v l := h.block fun g hgv => hg.block g (h.lt g hgv).2 (hne g hgv)
/-- A step that grows one's own row keeps what was there before. -/
theorem below_own {w0 : World} (h : Below w0.heap.size w0 w) (ho : OwnL f E sz w base v l) (hbase : w0.heap.size ≤ base) (hg : w.grownBy w' v.ownBlock) : Below w0.heap.size w0 w' :=
  ⟨hg.os.trans h.os, hg.tape.trans h.tape, hg.output.trans h.output, Nat.le_trans h.size hg.size, fun i hi => (hg.block i (Nat.lt_of_lt_of_le hi h.size) (fun e => by have := (ho.lt i e.symm).1; omega)).trans (h.block i hi)⟩
end
end Go.Han

/- Small lemmas: blocks, new slices, rows that grow. No program in sight. -/
namespace Go.Han
open Go.RowKit
theorem gblk {w : World} {b t : Nat} {cs : Array Value} {fr : Nat × Nat} (h : w.heap[b]? = some (.cells cs t fr)) (j : Nat) : w.cell? ⟨b, j, none⟩ = cs[j]? := by
  simp [World.cell?, h]
theorem galloc_at (w : World) (o : Obj) (n : Nat) (h : n = w.heap.size) : (w.alloc o).heap[n]? = some o := by
  subst h; exact World.alloc_heap_new _ _
theorem grd_blk {w : World} {b t : Nat} {cs : Array Value} {fr : Nat × Nat} {xs : List Value} (h : w.heap[b]? = some (.cells cs t fr)) (hx : cs.toList = xs) : Rd w (some ⟨b, 0, none⟩) xs := by
  refine .inr ⟨b, 0, rfl, lt_block h, fun j u hu => ?_⟩
  rw [Nat.zero_add, gblk h]
  rw [← hx] at hu
  simpa using hu
theorem grd_new {w : World} {cs : Array Value} {t : Nat} {xs : List Value} (hx : cs.toList = xs) : Rd (w.alloc (.cells cs t)) (some ⟨w.heap.size, 0, none⟩) xs := grd_blk (galloc_at _ _ _ rfl) hx
theorem gcells_new (w : World) (cs : List Value) (t : Nat) : ∀ (j : Nat) (u : Value), cs[j]? = some u → (w.alloc (.cells cs.toArray t)).cell? ((⟨w.heap.size, 0, none⟩ : Addr).add j) = some u := by
  intro j u hu
  rw [show (⟨w.heap.size, 0, none⟩ : Addr).add j = ⟨w.heap.size, j, none⟩ from by unfold Addr.add; split <;> simp_all, gblk (galloc_at _ _ _ rfl)]
  simpa using hu
theorem gcells_new2 (w : World) (o : Obj) (cs : List Value) (t : Nat) : ∀ (j : Nat) (u : Value), cs[j]? = some u → ((w.alloc o).alloc (.cells cs.toArray t)).cell? ((⟨w.heap.size + 1, 0, none⟩ : Addr).add j) = some u := by
  have h := gcells_new (w.alloc o) cs t
  rw [World.size_alloc] at h
  exact h
theorem gcells_newd (w : World) (cs : List Value) (t : Nat) : ∀ (j : Nat) (u : Value), cs[j]? = some u → (w.alloc (.cells cs.toArray t)).drew.cell? ((⟨w.heap.size, 0, none⟩ : Addr).add j) = some u := fun j u hu => gcells_new w cs t j u hu
theorem gbelow_grown {w w' : World} (h : Below w.heap.size w w') (row : Option Nat) : w.grownBy w' row := ⟨h.os, h.tape, h.output, h.size, fun i hi _ => h.block i hi⟩
theorem grd_grown {w w' : World} {A : Option Addr} {xs : List Value} {row : Option Nat} (h : Rd w A xs) (hg : w.grownBy w' row) (hne : ∀ a, A = some a → some a.block ≠ row) : Rd w' A xs := by
  rcases h with h | ⟨b, off, rfl, hlt, hc⟩
  · exact .inl h
  · exact .inr ⟨b, off, rfl, Nat.lt_of_lt_of_le hlt hg.size, fun j u hu => (World.cell?_of_block (w := w) (a := ⟨b, off + j, none⟩) (hg.block b hlt (hne _ rfl))).trans (hc j u hu)⟩
theorem below_drewN {w w' : World} (h : Below w.heap.size w w') (n : Nat) : Below w.heap.size w (w'.drewN n) := ⟨h.os, h.tape, h.output, h.size, h.block⟩
end Go.Han

/- A region that draws its order, whose operations only read and whose callees may also lay blocks of their own: one walk in the order of the text. -/
namespace Go.Han
open Go.RowKit

/-- A world that has come out of w by draws and new blocks. -/
structure ExtBy (w : World) where
  to : World
  ext : Below w.heap.size w to

instance (w : World) : Nonempty (ExtBy w) := ⟨⟨w, Below.refl _ _⟩⟩

theorem wp_region_ext {P : Program} {id : Nat} {Q : Exit → Act → World → Prop} {a : Act} {w : World} {l : List Oper} (hm : P.follows .mixedOrders = true) (hB : Region.lexB .any l.toArray = true)
    (h : wpQuiet P l.toArray (fun w' => ∃ p : ExtBy w, w' = p.to) (fun a' => ∀ w', (∃ p : ExtBy w, w' = p.to) → Q .normal a' w') l a) : (Code.region id l.toArray true).wp P Q a w :=
  wp_region_quiet (C := fun w' => ∃ p : ExtBy w, w' = p.to) hm hB ⟨⟨_, (Below.refl _ w).drew⟩, rfl⟩ (by simpa using h)
theorem cell_ext {w : World} {a : Addr} {v : Value} (hb : a.block < w.heap.size) (h : w.cell? a = some v) (p : ExtBy w) : p.to.cell? a = some v := (p.ext.cell (p := a) hb).trans h
theorem Calls.ext_of {P : Program} {f : FuncId} {args : Array Value} {w : World} {p : ExtBy w} {v : Value}
    (h : Calls P f args p.to fun e w' => e = .returned v ∧ Below p.to.heap.size p.to w') : Calls P f args p.to fun e w'' => e = .returned v ∧ ∃ q : ExtBy w, w'' = q.to :=
  h.mono fun _ _ ⟨he, hb⟩ => ⟨he, ⟨_, ext_trans p.ext hb⟩, rfl⟩
theorem Calls.ext_same {P : Program} {f : FuncId} {args : Array Value} {w : World} {p : ExtBy w} {v : Value}
    (h : Calls P f args p.to fun e w' => e = .returned v ∧ p.to = w') : Calls P f args p.to fun e w'' => e = .returned v ∧ ∃ q : ExtBy w, w'' = q.to :=
  h.mono fun _ _ ⟨he, hb⟩ => ⟨he, p, hb.symm⟩
end Go.Han

/- The code point with which bytes begin, as the reference has it: plain functions on lists of bytes, and that they answer as 'dec' does. No program in sight. -/
namespace Go.Han
open Go.Lib

def longR (b : Nat) : Nat × Nat := if b < 128 then (1, b) else if 192 ≤ b ∧ b < 224 then (2, b - 192) else if 224 ≤ b ∧ b < 240 then (3, b - 224) else if 240 ≤ b ∧ b < 248 then (4, b - 240) else (0, 0)
def contB (b : Nat) : Bool := decide (128 ≤ b) && decide (b < 192)
def pointB (r : Int) : Bool := decide (0 ≤ r) && (decide (r ≤ 1114111) && (decide (r < 55296) || decide (57343 < r)))
def bytesR (r : Nat) : List UInt8 :=
  if r < 128 then [UInt8.ofNat r] else if r < 2048 then [UInt8.ofNat (192 + r / 64), UInt8.ofNat (128 + r % 64)]
  else if r < 65536 then [UInt8.ofNat (224 + r / 4096), UInt8.ofNat (128 + r / 64 % 64), UInt8.ofNat (128 + r % 64)]
  else [UInt8.ofNat (240 + r / 262144), UInt8.ofNat (128 + r / 4096 % 64), UInt8.ofNat (128 + r / 64 % 64), UInt8.ofNat (128 + r % 64)]
/-- The bits of the first k + 1 bytes. -/
def accR (l : List UInt8) : Nat → Nat
  | 0 => (longR (byteAt l 0)).2
  | k + 1 => accR l k * 64 + byteAt l (k + 1) - 128
/-- The bytes 1 .. k go on a code point. -/
def goesR (l : List UInt8) : Nat → Bool
  | 0 => true
  | k + 1 => goesR l k && contB (byteAt l (k + 1))
def lastR (l : List UInt8) (n : Nat) : Nat × Nat := if pointB (accR l (n - 1)) && (bytesR (accR l (n - 1)) == l.take n) then (accR l (n - 1), n) else (0, 0)
def firstR (l : List UInt8) : Nat × Nat :=
  if (longR (byteAt l 0)).1 = 0 ∨ l.length < (longR (byteAt l 0)).1 then (0, 0)
  else if goesR l ((longR (byteAt l 0)).1 - 1) then lastR l (longR (byteAt l 0)).1 else (0, 0)

theorem acc1 (l : List UInt8) (n x : Nat) (e : longR (byteAt l 0) = (n, x)) : accR l 1 = x * 64 + byteAt l 1 - 128 := by
  show (longR (byteAt l 0)).2 * 64 + byteAt l 1 - 128 = _
  rw [e]
theorem acc2 (l : List UInt8) (n x : Nat) (e : longR (byteAt l 0) = (n, x)) : accR l 2 = (x * 64 + byteAt l 1 - 128) * 64 + byteAt l 2 - 128 := by
  show accR l 1 * 64 + byteAt l 2 - 128 = _
  rw [acc1 l n x e]
theorem acc3 (l : List UInt8) (n x : Nat) (e : longR (byteAt l 0) = (n, x)) : accR l 3 = ((x * 64 + byteAt l 1 - 128) * 64 + byteAt l 2 - 128) * 64 + byteAt l 3 - 128 := by
  show accR l 2 * 64 + byteAt l 3 - 128 = _
  rw [acc2 l n x e]

theorem u8_eq (c : UInt8) (n : Nat) (h : n < 256) : (UInt8.ofNat n = c) ↔ n = c.toNat := by
  constructor
  · rintro rfl
    rw [UInt8.toNat_ofNat', Nat.mod_eq_of_lt (by omega)]
  · rintro rfl
    exact UInt8.ofNat_toNat

theorem bytes_len (r : Nat) : (bytesR r).length = if r < 128 then 1 else if r < 2048 then 2 else if r < 65536 then 3 else 4 := by
  unfold bytesR
  repeat' split
  all_goals rfl

theorem decN_1 (n b0 b1 b2 b3 : Nat) (h : b0 < 128) : decodeN n b0 b1 b2 b3 = (b0, 1) := by unfold decodeN; rw [if_pos h]
theorem decN_2 (n b0 b1 b2 b3 : Nat) (h : 192 ≤ b0 ∧ b0 < 224) (hn : 1 < n) (h1 : 128 ≤ b1 ∧ b1 < 192) (r : Nat) (hr : (b0 - 192) * 64 + b1 - 128 = r) :
    decodeN n b0 b1 b2 b3 = if 128 ≤ r then (r, 2) else (65533, 1) := by
  have e : b0 % 32 * 64 + b1 % 64 = r := by omega
  unfold decodeN
  rw [if_neg (show ¬ b0 < 128 by omega), if_pos (show b0 / 32 = 6 ∧ (1 < n ∧ b1 / 64 = 2) by omega), e]
theorem decN_3 (n b0 b1 b2 b3 : Nat) (h : 224 ≤ b0 ∧ b0 < 240) (hn : 2 < n) (h1 : 128 ≤ b1 ∧ b1 < 192) (h2 : 128 ≤ b2 ∧ b2 < 192) (r : Nat) (hr : ((b0 - 224) * 64 + b1 - 128) * 64 + b2 - 128 = r) :
    decodeN n b0 b1 b2 b3 = if 2048 ≤ r ∧ (r < 55296 ∨ (57344 ≤ r ∧ r ≤ 1114111)) then (r, 3) else (65533, 1) := by
  have e : b0 % 16 * 4096 + b1 % 64 * 64 + b2 % 64 = r := by omega
  unfold decodeN
  rw [if_neg (show ¬ b0 < 128 by omega), if_neg (show ¬ (b0 / 32 = 6 ∧ (1 < n ∧ b1 / 64 = 2)) by omega), if_pos (show b0 / 16 = 14 ∧ (1 < n ∧ b1 / 64 = 2) ∧ (2 < n ∧ b2 / 64 = 2) by omega), e]
theorem decN_4 (n b0 b1 b2 b3 : Nat) (h : 240 ≤ b0 ∧ b0 < 248) (hn : 3 < n) (h1 : 128 ≤ b1 ∧ b1 < 192) (h2 : 128 ≤ b2 ∧ b2 < 192) (h3 : 128 ≤ b3 ∧ b3 < 192) (r : Nat) (hr : (((b0 - 240) * 64 + b1 - 128) * 64 + b2 - 128) * 64 + b3 - 128 = r) :
    decodeN n b0 b1 b2 b3 = if 65536 ≤ r ∧ (r < 55296 ∨ (57344 ≤ r ∧ r ≤ 1114111)) then (r, 4) else (65533, 1) := by
  have e : b0 % 8 * 262144 + b1 % 64 * 4096 + b2 % 64 * 64 + b3 % 64 = r := by omega
  unfold decodeN
  rw [if_neg (show ¬ b0 < 128 by omega), if_neg (show ¬ (b0 / 32 = 6 ∧ (1 < n ∧ b1 / 64 = 2)) by omega), if_neg (show ¬ (b0 / 16 = 14 ∧ (1 < n ∧ b1 / 64 = 2) ∧ (2 < n ∧ b2 / 64 = 2)) by omega),
    if_pos (show b0 / 8 = 30 ∧ (1 < n ∧ b1 / 64 = 2) ∧ (2 < n ∧ b2 / 64 = 2) ∧ (3 < n ∧ b3 / 64 = 2) by omega), e]
theorem decN_0 (n b0 b1 b2 b3 : Nat) (h0 : ¬ b0 < 128) (h2 : ¬ ((192 ≤ b0 ∧ b0 < 224) ∧ 1 < n ∧ 128 ≤ b1 ∧ b1 < 192)) (h3 : ¬ ((224 ≤ b0 ∧ b0 < 240) ∧ 2 < n ∧ (128 ≤ b1 ∧ b1 < 192) ∧ (128 ≤ b2 ∧ b2 < 192)))
    (h4 : ¬ ((240 ≤ b0 ∧ b0 < 248) ∧ 3 < n ∧ (128 ≤ b1 ∧ b1 < 192) ∧ (128 ≤ b2 ∧ b2 < 192) ∧ (128 ≤ b3 ∧ b3 < 192))) : decodeN n b0 b1 b2 b3 = (65533, 1) := by
  unfold decodeN
  rw [if_neg h0, if_neg (show ¬ (b0 / 32 = 6 ∧ (1 < n ∧ b1 / 64 = 2)) by omega), if_neg (show ¬ (b0 / 16 = 14 ∧ (1 < n ∧ b1 / 64 = 2) ∧ (2 < n ∧ b2 / 64 = 2)) by omega),
    if_neg (show ¬ (b0 / 8 = 30 ∧ (1 < n ∧ b1 / 64 = 2) ∧ (2 < n ∧ b2 / 64 = 2) ∧ (3 < n ∧ b3 / 64 = 2)) by omega)]

theorem take_bytes (l : List UInt8) (r n : Nat) (h : n ≤ l.length) : (bytesR r == l.take n) = true ↔ (n = (bytesR r).length ∧ ∀ i, i < n → ((bytesR r)[i]?.getD 0).toNat = byteAt l i) := by
  rw [beq_iff_eq]
  constructor
  · intro e
    refine ⟨by rw [e]; simp; omega, fun i hi => ?_⟩
    rw [e, List.getElem?_take_of_lt hi]; rfl
  · rintro ⟨e, hi⟩
    apply List.ext_getElem?
    intro i
    by_cases hin : i < n
    · have h5 := hi i hin
      rw [List.getElem?_take_of_lt hin]
      unfold byteAt at h5
      rw [List.getElem?_eq_getElem (by omega), List.getElem?_eq_getElem (by omega)] at h5
      rw [List.getElem?_eq_getElem (by omega), List.getElem?_eq_getElem (by omega)]
      simp only [Option.getD_some] at h5
      rw [UInt8.toNat_inj.1 h5]
    · rw [List.getElem?_eq_none (by omega), List.getElem?_eq_none (by simp; omega)]
theorem u8_nat (x : Nat) (h : x < 256) : (UInt8.ofNat x).toNat = x := by rw [UInt8.toNat_ofNat', Nat.mod_eq_of_lt (by omega)]

theorem last_no (l : List UInt8) (n : Nat) (hn : n ≤ l.length) (h : (bytesR (accR l (n - 1))).length ≠ n) : lastR l n = (0, 0) := by
  unfold lastR
  have hk : (bytesR (accR l (n - 1)) == l.take n) = false := by
    rw [Bool.eq_false_iff]; intro h'
    exact h ((take_bytes l _ n hn).1 h').1.symm
  rw [hk, Bool.and_false]; rfl
theorem last_point (l : List UInt8) (n : Nat) (h : pointB (accR l (n - 1)) = false) : lastR l n = (0, 0) := by
  unfold lastR
  rw [h, Bool.false_and]; rfl
theorem last_yes (l : List UInt8) (n : Nat) (hn : n ≤ l.length) (h : pointB (accR l (n - 1)) = true) (hk : n = (bytesR (accR l (n - 1))).length ∧ ∀ i, i < n → ((bytesR (accR l (n - 1)))[i]?.getD 0).toNat = byteAt l i) : lastR l n = (accR l (n - 1), n) := by
  unfold lastR
  rw [h, (take_bytes l _ n hn).2 hk]; rfl

theorem bad_no (r n : Nat) (h : r ≠ 65533 ∨ 2 ≤ n) : badB (r, n) = false := by
  unfold badB
  rcases h with h | h
  · rw [show ((r, n).1 == 65533) = false by simpa using h]; rfl
  · rw [show decide ((r, n).2 < 2) = false by simpa using h, Bool.and_false]
theorem bad_yes : badB (65533, 1) = true := rfl

theorem firstR_dec (l : List UInt8) (hl : l ≠ []) : firstR l = if badB (dec l) then (0, 0) else dec l := by
  have hb : ∀ i, byteAt l i < 256 := fun i => (l[i]?.getD 0).toNat_lt
  have h0 := hb 0; have h1 := hb 1; have h2 := hb 2; have h3 := hb 3
  have hn : 1 ≤ l.length := by cases l with | nil => exact absurd rfl hl | cons _ _ => simp
  have hbad : dec l = (65533, 1) → firstR l = (0, 0) → firstR l = if badB (dec l) then (0, 0) else dec l := fun a b => by rw [a, b, bad_yes]; rfl
  have hgood : ∀ r n, dec l = (r, n) → (r ≠ 65533 ∨ 2 ≤ n) → firstR l = (r, n) → firstR l = if badB (dec l) then (0, 0) else dec l := fun r n a b c => by rw [a, c, bad_no r n b]; rfl
  have fno : ∀ n, longR (byteAt l 0) = n → (n.1 = 0 ∨ l.length < n.1) → firstR l = (0, 0) := fun n e h => by unfold firstR; rw [e, if_pos h]
  have fgo : ∀ n, longR (byteAt l 0) = n → 0 < n.1 → n.1 ≤ l.length → goesR l (n.1 - 1) = true → firstR l = lastR l n.1 := fun n e ha hb hg => by unfold firstR; rw [e, if_neg (by omega), if_pos hg]
  have fst : ∀ n, longR (byteAt l 0) = n → 0 < n.1 → n.1 ≤ l.length → goesR l (n.1 - 1) = false → firstR l = (0, 0) := fun n e ha hb hg => by unfold firstR; rw [e, if_neg (by omega), hg]; rfl
  clear hb hl
  by_cases c1 : byteAt l 0 < 128
  · have e1 : longR (byteAt l 0) = (1, byteAt l 0) := by unfold longR; rw [if_pos c1]
    have ea : accR l 0 = byteAt l 0 := by
      show (longR (byteAt l 0)).2 = _
      rw [e1]
    have hbr : bytesR (byteAt l 0) = [UInt8.ofNat (byteAt l 0)] := by unfold bytesR; rw [if_pos c1]
    have hd : dec l = (byteAt l 0, 1) := by unfold dec; exact decN_1 _ _ _ _ _ c1
    refine hgood (byteAt l 0) 1 hd (.inl (fun h => by omega)) ?_
    rw [fgo _ e1 (by simp) hn rfl, last_yes l 1 hn (by rw [ea]; simp [pointB]; omega) ?_]
    · rw [ea]
    · rw [ea, hbr]
      refine ⟨rfl, fun i hi => ?_⟩
      obtain rfl : i = 0 := by omega
      simp [u8_nat _ h0]
  by_cases c2 : 192 ≤ byteAt l 0 ∧ byteAt l 0 < 224
  · have e1 : longR (byteAt l 0) = (2, byteAt l 0 - 192) := by unfold longR; rw [if_neg c1, if_pos c2]
    by_cases n2 : 2 ≤ l.length
    · by_cases k1 : contB (byteAt l 1) = true
      · have k1' : 128 ≤ byteAt l 1 ∧ byteAt l 1 < 192 := by simpa [contB] using k1
        have hg := fgo _ e1 (by simp) n2 (by simp [goesR, k1])
        have ea : accR l 1 = (byteAt l 0 - 192) * 64 + byteAt l 1 - 128 := acc1 l _ _ e1
        have hd := decN_2 l.length (byteAt l 0) (byteAt l 1) (byteAt l 2) (byteAt l 3) c2 (by omega) k1' _ rfl
        generalize hr : (byteAt l 0 - 192) * 64 + byteAt l 1 - 128 = r at hd
        rw [hr] at ea
        by_cases c : 128 ≤ r
        · rw [if_pos c] at hd
          have hbr : bytesR r = [UInt8.ofNat (192 + r / 64), UInt8.ofNat (128 + r % 64)] := by unfold bytesR; rw [if_neg (by omega), if_pos (by omega)]
          refine hgood r 2 hd (by omega) ?_
          rw [hg, last_yes l 2 n2 (by rw [ea]; simp [pointB]; omega) ?_]
          · rw [ea]
          · rw [ea, hbr]
            refine ⟨rfl, fun i hi => ?_⟩
            rcases (show i = 0 ∨ i = 1 by omega) with rfl | rfl
            · show (UInt8.ofNat (192 + r / 64)).toNat = _
              rw [u8_nat _ (by omega)]; omega
            · show (UInt8.ofNat (128 + r % 64)).toNat = _
              rw [u8_nat _ (by omega)]; omega
        · rw [if_neg c] at hd
          refine hbad hd (hg.trans (last_no l 2 n2 ?_))
          rw [ea, bytes_len, if_pos (by omega)]; decide
      · have k1' : ¬ (128 ≤ byteAt l 1 ∧ byteAt l 1 < 192) := by simpa [contB] using k1
        exact hbad (decN_0 _ _ _ _ _ c1 (by omega) (by omega) (by omega)) (fst _ e1 (by simp) n2 (by simp [goesR, k1]))
    · exact hbad (decN_0 _ _ _ _ _ c1 (by omega) (by omega) (by omega)) (fno _ e1 (.inr (by simp; omega)))
  by_cases c3 : 224 ≤ byteAt l 0 ∧ byteAt l 0 < 240
  · have e1 : longR (byteAt l 0) = (3, byteAt l 0 - 224) := by unfold longR; rw [if_neg c1, if_neg c2, if_pos c3]
    by_cases n3 : 3 ≤ l.length
    · by_cases k : goesR l 2 = true
      · have k' : (128 ≤ byteAt l 1 ∧ byteAt l 1 < 192) ∧ (128 ≤ byteAt l 2 ∧ byteAt l 2 < 192) := by simpa [goesR, contB] using k
        have hg := fgo _ e1 (by simp) n3 k
        have ea : accR l 2 = ((byteAt l 0 - 224) * 64 + byteAt l 1 - 128) * 64 + byteAt l 2 - 128 := acc2 l _ _ e1
        have hd := decN_3 l.length (byteAt l 0) (byteAt l 1) (byteAt l 2) (byteAt l 3) c3 (by omega) k'.1 k'.2 _ rfl
        generalize hr : ((byteAt l 0 - 224) * 64 + byteAt l 1 - 128) * 64 + byteAt l 2 - 128 = r at hd
        rw [hr] at ea
        by_cases c : 2048 ≤ r
        · by_cases cp : r < 55296 ∨ 57344 ≤ r
          · rw [if_pos (by omega)] at hd
            have hbr : bytesR r = [UInt8.ofNat (224 + r / 4096), UInt8.ofNat (128 + r / 64 % 64), UInt8.ofNat (128 + r % 64)] := by unfold bytesR; rw [if_neg (by omega), if_neg (by omega), if_pos (by omega)]
            refine hgood r 3 hd (by omega) ?_
            rw [hg, last_yes l 3 n3 (by rw [ea]; simp [pointB]; omega) ?_]
            · rw [ea]
            · rw [ea, hbr]
              refine ⟨rfl, fun i hi => ?_⟩
              rcases (show i = 0 ∨ i = 1 ∨ i = 2 by omega) with rfl | rfl | rfl
              · show (UInt8.ofNat (224 + r / 4096)).toNat = _
                rw [u8_nat _ (by omega)]; omega
              · show (UInt8.ofNat (128 + r / 64 % 64)).toNat = _
                rw [u8_nat _ (by omega)]; omega
              · show (UInt8.ofNat (128 + r % 64)).toNat = _
                rw [u8_nat _ (by omega)]; omega
          · rw [if_neg (by omega)] at hd
            refine hbad hd (hg.trans (last_point l 3 ?_))
            rw [ea]; simp [pointB]; omega
        · rw [if_neg (by omega)] at hd
          refine hbad hd (hg.trans (last_no l 3 n3 ?_))
          rw [ea, bytes_len]
          split
          · decide
          · rw [if_pos (by omega)]; decide
      · have k' : ¬ ((128 ≤ byteAt l 1 ∧ byteAt l 1 < 192) ∧ (128 ≤ byteAt l 2 ∧ byteAt l 2 < 192)) := by
          intro h; exact k (by simpa [goesR, contB] using h)
        exact hbad (decN_0 _ _ _ _ _ c1 (by omega) (by omega) (by omega)) (fst _ e1 (by simp) n3 (by simpa using k))
    · exact hbad (decN_0 _ _ _ _ _ c1 (by omega) (by omega) (by omega)) (fno _ e1 (.inr (by simp; omega)))
  by_cases c4 : 240 ≤ byteAt l 0 ∧ byteAt l 0 < 248
  · have e1 : longR (byteAt l 0) = (4, byteAt l 0 - 240) := by unfold longR; rw [if_neg c1, if_neg c2, if_neg c3, if_pos c4]
    by_cases n4 : 4 ≤ l.length
    · by_cases k : goesR l 3 = true
      · have k' : ((128 ≤ byteAt l 1 ∧ byteAt l 1 < 192) ∧ (128 ≤ byteAt l 2 ∧ byteAt l 2 < 192)) ∧ (128 ≤ byteAt l 3 ∧ byteAt l 3 < 192) := by simpa [goesR, contB] using k
        have hg := fgo _ e1 (by simp) n4 k
        have ea : accR l 3 = (((byteAt l 0 - 240) * 64 + byteAt l 1 - 128) * 64 + byteAt l 2 - 128) * 64 + byteAt l 3 - 128 := acc3 l _ _ e1
        have hd := decN_4 l.length (byteAt l 0) (byteAt l 1) (byteAt l 2) (byteAt l 3) c4 (by omega) k'.1.1 k'.1.2 k'.2 _ rfl
        generalize hr : (((byteAt l 0 - 240) * 64 + byteAt l 1 - 128) * 64 + byteAt l 2 - 128) * 64 + byteAt l 3 - 128 = r at hd
        rw [hr] at ea
        by_cases c : 65536 ≤ r
        · by_cases cp : r ≤ 1114111
          · rw [if_pos (by omega)] at hd
            have hbr : bytesR r = [UInt8.ofNat (240 + r / 262144), UInt8.ofNat (128 + r / 4096 % 64), UInt8.ofNat (128 + r / 64 % 64), UInt8.ofNat (128 + r % 64)] := by unfold bytesR; rw [if_neg (by omega), if_neg (by omega), if_neg (by omega)]
            refine hgood r 4 hd (by omega) ?_
            rw [hg, last_yes l 4 n4 (by rw [ea]; simp [pointB]; omega) ?_]
            · rw [ea]
            · rw [ea, hbr]
              refine ⟨rfl, fun i hi => ?_⟩
              rcases (show i = 0 ∨ i = 1 ∨ i = 2 ∨ i = 3 by omega) with rfl | rfl | rfl | rfl
              · show (UInt8.ofNat (240 + r / 262144)).toNat = _
                rw [u8_nat _ (by omega)]; omega
              · show (UInt8.ofNat (128 + r / 4096 % 64)).toNat = _
                rw [u8_nat _ (by omega)]; omega
              · show (UInt8.ofNat (128 + r / 64 % 64)).toNat = _
                rw [u8_nat _ (by omega)]; omega
              · show (UInt8.ofNat (128 + r % 64)).toNat = _
                rw [u8_nat _ (by omega)]; omega
          · rw [if_neg (by omega)] at hd
            refine hbad hd (hg.trans (last_point l 4 ?_))
            rw [ea]; simp [pointB]; omega
        · rw [if_neg (by omega)] at hd
          refine hbad hd (hg.trans (last_no l 4 n4 ?_))
          rw [ea, bytes_len]
          split
          · decide
          · split
            · decide
            · rw [if_pos (by omega)]; decide
      · have k' : ¬ (((128 ≤ byteAt l 1 ∧ byteAt l 1 < 192) ∧ (128 ≤ byteAt l 2 ∧ byteAt l 2 < 192)) ∧ (128 ≤ byteAt l 3 ∧ byteAt l 3 < 192)) := by
          intro h; exact k (by simpa [goesR, contB] using h)
        exact hbad (decN_0 _ _ _ _ _ c1 (by omega) (by omega) (by omega)) (fst _ e1 (by simp) n4 (by simpa using k))
    · exact hbad (decN_0 _ _ _ _ _ c1 (by omega) (by omega) (by omega)) (fno _ e1 (.inr (by simp; omega)))
  · have e1 : longR (byteAt l 0) = (0, 0) := by unfold longR; rw [if_neg c1, if_neg c2, if_neg c3, if_neg c4]
    exact hbad (decN_0 _ _ _ _ _ c1 (by omega) (by omega) (by omega)) (fno _ e1 (.inl rfl))
end Go.Han
