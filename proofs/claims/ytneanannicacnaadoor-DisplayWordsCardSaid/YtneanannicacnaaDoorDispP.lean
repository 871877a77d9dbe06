/- Package display: displays as lists, and what a change makes of one. Plain lists, no program in sight. -/
import Derived.Test.YtneanannicacnaaDoorDisp9
namespace Go.Proofs.YtneanannicacnaaDoor
open Go.RowKit Go.Han

theorem asc_iff (l : List Spot) : Asc l ↔ l.Pairwise (fun x y => x.id < y.id) := by
  rw [List.pairwise_iff_getElem]
  exact Iff.rfl
def getS (n : Int) (l : List Spot) : Option Spot := l.find? (fun x => x.id == n)

theorem getS_nil (n : Int) : getS n [] = none := rfl
theorem getS_cons (n : Int) (x : Spot) (l : List Spot) : getS n (x :: l) = if x.id = n then some x else getS n l := by
  unfold getS
  rw [List.find?_cons]
  by_cases h : x.id = n
  · rw [if_pos h]; simp [h]
  · rw [if_neg h, show (x.id == n) = false by simpa using h]
theorem getS_app (n : Int) (l l' : List Spot) : getS n (l ++ l') = (getS n l).or (getS n l') := by
  unfold getS; rw [List.find?_append]
theorem getS_none {n : Int} {l : List Spot} (h : ∀ x ∈ l, x.id ≠ n) : getS n l = none := by
  unfold getS
  rw [List.find?_eq_none]
  intro x hx
  simpa using h x hx
theorem getS_some {n : Int} {l : List Spot} {x : Spot} (h : getS n l = some x) : x ∈ l ∧ x.id = n := by
  unfold getS at h
  exact ⟨List.mem_of_find?_eq_some h, by simpa using List.find?_some h⟩
theorem getS_mem {l : List Spot} (hs : Asc l) {x : Spot} (hx : x ∈ l) : getS x.id l = some x := by
  rw [asc_iff] at hs
  induction l with
  | nil => cases hx
  | cons y l ih =>
    rw [List.pairwise_cons] at hs
    rw [getS_cons]
    rcases List.mem_cons.1 hx with rfl | hx
    · rw [if_pos rfl]
    · rw [if_neg (by have := hs.1 x hx; omega)]
      exact ih hs.2 hx

theorem asc_ext : ∀ (l l' : List Spot), Asc l → Asc l' → (∀ n, getS n l = getS n l') → l = l'
  | [], [], _, _, _ => rfl
  | [], y :: l', _, _, h => by
    have := h y.id
    rw [getS_cons, if_pos rfl] at this
    cases this
  | x :: l, [], _, _, h => by
    have := h x.id
    rw [getS_cons, if_pos rfl] at this
    cases this
  | x :: l, y :: l', h1, h2, h => by
    rw [asc_iff, List.pairwise_cons] at h1 h2
    have e : x = y := by
      have hx := h x.id
      have hy := h y.id
      rw [getS_cons, if_pos rfl, getS_cons] at hx
      rw [getS_cons, getS_cons, if_pos rfl] at hy
      by_cases c : y.id = x.id
      · rw [if_pos c] at hx
        exact Option.some.inj hx
      · rw [if_neg c] at hx
        rw [if_neg (fun e => c e.symm)] at hy
        obtain ⟨m1, e1⟩ := getS_some hx.symm
        obtain ⟨m2, e2⟩ := getS_some hy
        have := h2.1 x m1
        have := h1.1 y m2
        omega
    subst e
    congr 1
    refine asc_ext l l' ((asc_iff l).2 h1.2) ((asc_iff l').2 h2.2) fun n => ?_
    by_cases c : x.id = n
    · rw [getS_none (fun y hy => by have := h1.1 y hy; omega), getS_none (fun y hy => by have := h2.1 y hy; omega)]
    · have := h n
      rwa [getS_cons, getS_cons, if_neg c, if_neg c] at this

/-- An ascending list, cut at an Id. -/
theorem split_pos (n : Int) : ∀ (l : List Spot), Asc l → ∃ lo hi, l = lo ++ hi ∧ lo.length = posB n l ∧ (∀ x ∈ lo, x.id < n) ∧ (∀ x ∈ hi, n ≤ x.id)
  | [], _ => ⟨[], [], rfl, rfl, by simp, by simp⟩
  | x :: l, h => by
    rw [asc_iff, List.pairwise_cons] at h
    by_cases c : x.id < n
    · obtain ⟨lo, hi, e, hl, h1, h2⟩ := split_pos n l ((asc_iff l).2 h.2)
      refine ⟨x :: lo, hi, by rw [e]; rfl, ?_, ?_, h2⟩
      · unfold posB at hl ⊢
        rw [List.takeWhile_cons_of_pos (by simp; exact c), List.length_cons, List.length_cons, hl]
      · intro y hy
        rcases List.mem_cons.1 hy with rfl | hy
        · exact c
        · exact h1 y hy
    · refine ⟨[], x :: l, rfl, ?_, by simp, ?_⟩
      · unfold posB
        rw [List.takeWhile_cons_of_neg (by simp; omega)]
        first | done | rfl
      · intro y hy
        rcases List.mem_cons.1 hy with rfl | hy
        · omega
        · have := h.1 y hy; omega

/-- How a change that fits sees a display: what is below its Id, the spot with it, what is above. -/
structure Split (n : Int) (l L H : List Spot) (o : Option Spot) : Prop where
  eq : l = L ++ (o.toList ++ H)
  pos : L.length = posB n l
  lo : ∀ x ∈ L, x.id < n
  hi : ∀ x ∈ H, n < x.id
  at_ : ∀ x, o = some x → x.id = n
  get : getS n l = o
  ascLo : L.Pairwise (fun x y => x.id < y.id)
  ascHi : H.Pairwise (fun x y => x.id < y.id)
theorem split_at (n : Int) (l : List Spot) (hs : Asc l) : ∃ lo hi o, Split n l lo hi o := by
  obtain ⟨lo, hi, e, hl, h1, h2⟩ := split_pos n l hs
  have hp := (asc_iff l).1 hs
  rw [e, List.pairwise_append] at hp
  cases hi with
  | nil => exact ⟨lo, [], none, by simpa using e, hl, h1, by simp, by simp, by rw [e, List.append_nil, getS_none (fun x hx => by have := h1 x hx; omega)], hp.1, List.Pairwise.nil⟩
  | cons y t =>
    have ht := (List.pairwise_cons.1 hp.2.1)
    have hlo : getS n lo = none := getS_none (fun x hx => by have := h1 x hx; omega)
    by_cases c : y.id = n
    · refine ⟨lo, t, some y, e, hl, h1, fun x hx => by have := ht.1 x hx; omega, fun x hx => by cases hx; exact c, ?_, hp.1, ht.2⟩
      rw [e, getS_app, hlo, getS_cons, if_pos c]; rfl
    · have hy := h2 y (List.mem_cons_self ..)
      refine ⟨lo, y :: t, none, e, hl, h1, fun x hx => ?_, by simp, ?_, hp.1, hp.2.1⟩
      · rcases List.mem_cons.1 hx with rfl | hx
        · omega
        · have := ht.1 x hx; omega
      · rw [e, getS_app, hlo, getS_none]; rfl
        intro x hx
        rcases List.mem_cons.1 hx with rfl | hx
        · omega
        · have := ht.1 x hx; omega

/-- Whether a change fits, by what its Id shows. -/
def fitsG (c : Change) (o : Option Spot) : Bool :=
  if c.kind = 1 then o.isNone else if c.kind = 2 then o == some c.spot else match o with | some y => !(y.ver == c.spot.ver) | none => false
/-- What the Id of a change shows then. -/
def madeG (c : Change) : Option Spot := if c.kind = 2 then none else some c.spot

theorem Split.head {n : Int} {l lo hi : List Spot} {o : Option Spot} (h : Split n l lo hi o) : l[posB n l]? = o.or hi.head? := by
  rw [← h.pos, h.eq, List.getElem?_append_right (Nat.le_refl _), Nat.sub_self]
  cases o
  · cases hi <;> rfl
  · rfl
theorem Split.headB {n : Int} {l lo hi : List Spot} {o : Option Spot} (h : Split n l lo hi o) : headB n l (posB n l) = o.isSome := by
  unfold Go.Proofs.YtneanannicacnaaDoor.headB
  rw [h.head]
  cases o with
  | none =>
    cases hi with
    | nil => rfl
    | cons y t =>
      have := h.hi y (List.mem_cons_self ..)
      show (y.id == n) = false
      simp; omega
  | some x => simpa using h.at_ x rfl
theorem Split.fits {l lo hi : List Spot} {o : Option Spot} {c : Change} (h : Split c.spot.id l lo hi o) : fitsB c l = fitsG c o := by
  unfold fitsB testB fitsG
  rw [h.headB, h.head]
  by_cases c1 : c.kind = 1
  · rw [if_pos c1, if_pos c1]; cases o <;> rfl
  · rw [if_neg c1, if_neg c1]
    by_cases c2 : c.kind = 2
    · rw [if_pos c2, if_pos c2]; cases o <;> rfl
    · rw [if_neg c2, if_neg c2]; cases o <;> rfl
theorem fitsG_cases {c : Change} {o : Option Spot} (h : fitsG c o = true) : (c.kind = 1 ∧ o = none) ∨ (c.kind = 2 ∧ o = some c.spot) ∨ (c.kind ≠ 1 ∧ c.kind ≠ 2 ∧ ∃ y, o = some y ∧ y.ver ≠ c.spot.ver) := by
  unfold fitsG at h
  by_cases c1 : c.kind = 1
  · rw [if_pos c1] at h; exact .inl ⟨c1, by simpa using h⟩
  · rw [if_neg c1] at h
    by_cases c2 : c.kind = 2
    · rw [if_pos c2] at h; exact .inr (.inl ⟨c2, by simpa using h⟩)
    · rw [if_neg c2] at h
      cases o with
      | none => cases h
      | some y => exact .inr (.inr ⟨c1, c2, y, rfl, by simpa using h⟩)
theorem Split.made {l lo hi : List Spot} {o : Option Spot} {c : Change} (h : Split c.spot.id l lo hi o) (hf : fitsG c o = true) : madeL c l = lo ++ ((madeG c).toList ++ hi) := by
  have ht : l.take (posB c.spot.id l) = lo := by
    rw [← h.pos, h.eq, List.take_left]
  have hd : l.drop (posB c.spot.id l) = o.toList ++ hi := by
    rw [← h.pos, h.eq, List.drop_left]
  have hd1 : l.drop (posB c.spot.id l + 1) = (o.toList ++ hi).drop 1 := by rw [← hd, List.drop_drop]
  unfold madeL editL madeG
  rcases fitsG_cases hf with ⟨c1, rfl⟩ | ⟨c2, rfl⟩ | ⟨c1, c2, y, rfl, _⟩
  · rw [if_pos c1, if_neg (by omega), ht, hd]; rfl
  · rw [if_neg (by omega), if_pos c2, if_pos c2, ht, hd1]; rfl
  · rw [if_neg c1, if_neg c2, if_neg c2, ht, hd1]; rfl

theorem fits_get {c : Change} {l : List Spot} (hs : Asc l) : fitsB c l = fitsG c (getS c.spot.id l) := by
  obtain ⟨lo, hi, o, h⟩ := split_at c.spot.id l hs
  rw [h.fits, h.get]
theorem made_asc {c : Change} {l : List Spot} (hs : Asc l) (hf : fitsB c l = true) : Asc (madeL c l) := by
  obtain ⟨lo, hi, o, h⟩ := split_at c.spot.id l hs
  rw [h.fits] at hf
  rw [h.made hf, asc_iff, List.pairwise_append]
  refine ⟨h.ascLo, ?_, ?_⟩
  · unfold madeG
    split
    · exact h.ascHi
    · exact List.pairwise_cons.2 ⟨fun x hx => h.hi x hx, h.ascHi⟩
  · intro x hx y hy
    have := h.lo x hx
    rcases List.mem_append.1 hy with hy | hy
    · unfold madeG at hy
      split at hy
      · cases hy
      · simp at hy; subst hy; exact this
    · have := h.hi y hy; omega
theorem made_get {c : Change} {l : List Spot} (hs : Asc l) (hf : fitsB c l = true) (n : Int) : getS n (madeL c l) = if n = c.spot.id then madeG c else getS n l := by
  obtain ⟨lo, hi, o, h⟩ := split_at c.spot.id l hs
  have hf' := hf
  rw [h.fits] at hf'
  rw [h.made hf', getS_app, getS_app]
  by_cases e : n = c.spot.id
  · subst e
    rw [if_pos rfl, getS_none (fun x hx => by have := h.lo x hx; omega), getS_none (l := hi) (fun x hx => by have := h.hi x hx; omega)]
    unfold madeG
    split
    · rfl
    · simp [getS_cons]
  · rw [if_neg e, h.eq, getS_app, getS_app]
    congr 1
    congr 1
    have h1 : getS n (madeG c).toList = none := getS_none (fun x hx => by
      unfold madeG at hx
      split at hx
      · cases hx
      · simp at hx; subst hx; exact fun h => e h.symm)
    have h2 : getS n o.toList = none := getS_none (fun x hx => by
      have := h.at_ x (by simpa using hx)
      omega)
    rw [h1, h2]
theorem made_len {c : Change} {l : List Spot} (hs : Asc l) (hf : fitsB c l = true) : (madeL c l).length = if c.kind = 1 then l.length + 1 else if c.kind = 2 then l.length - 1 else l.length := by
  obtain ⟨lo, hi, o, h⟩ := split_at c.spot.id l hs
  rw [h.fits] at hf
  rw [h.made hf]
  have hl := congrArg List.length h.eq
  simp only [List.length_append] at hl ⊢
  unfold madeG
  rcases fitsG_cases hf with ⟨c1, rfl⟩ | ⟨c2, rfl⟩ | ⟨c1, c2, y, rfl, _⟩
  · rw [if_pos c1, if_neg (by omega)]; simp at hl ⊢; omega
  · have c1 : ¬ c.kind = 1 := by omega
    rw [if_pos c2, if_neg c1, if_pos c2]; simp at hl ⊢; omega
  · rw [if_neg c2, if_neg c1, if_neg c2]; simp at hl ⊢; omega
theorem made_mem {c : Change} {l : List Spot} (hs : Asc l) (hf : fitsB c l = true) {x : Spot} (hx : x ∈ madeL c l) : x = c.spot ∨ x ∈ l := by
  obtain ⟨lo, hi, o, h⟩ := split_at c.spot.id l hs
  rw [h.fits] at hf
  rw [h.made hf] at hx
  rcases List.mem_append.1 hx with hx | hx
  · exact .inr (by rw [h.eq]; exact List.mem_append_left _ hx)
  · rcases List.mem_append.1 hx with hx | hx
    · unfold madeG at hx
      split at hx
      · cases hx
      · simp at hx; exact .inl hx
    · exact .inr (by rw [h.eq]; exact List.mem_append_right _ (List.mem_append_right _ hx))

/-! ### Right displays -/
theorem checkFrom_iff : ∀ (last : Int) (l : List Spot), checkFrom last l = true ↔ (∀ x ∈ l, x.ok = true ∧ last < x.id) ∧ Asc l
  | last, [] => by simp [checkFrom, asc_iff]
  | last, x :: l => by
    simp only [checkFrom, Bool.and_eq_true, decide_eq_true_eq]
    rw [checkFrom_iff x.id l, asc_iff, asc_iff, List.pairwise_cons]
    constructor
    · rintro ⟨⟨h1, h2⟩, h3, h4⟩
      refine ⟨fun y hy => ?_, fun y hy => (h3 y hy).2, h4⟩
      rcases List.mem_cons.1 hy with rfl | hy
      · exact ⟨h1, h2⟩
      · have := (h3 y hy).2
        exact ⟨(h3 y hy).1, by omega⟩
    · rintro ⟨h1, h2, h3⟩
      exact ⟨h1 x (List.mem_cons_self ..), fun y hy => ⟨(h1 y (List.mem_cons_of_mem _ hy)).1, h2 y hy⟩, h3⟩
theorem ok_id {x : Spot} (h : x.ok = true) : 0 ≤ x.id := by
  unfold Spot.ok idB at h
  simp only [Bool.and_eq_true, decide_eq_true_eq] at h
  exact h.1.1.1
theorem checkE_iff (l : List Spot) : checkE l = 0 ↔ l.length ≤ 1024 ∧ (∀ x ∈ l, x.ok = true) ∧ Asc l := by
  unfold checkE
  by_cases h : 1024 < l.length
  · rw [if_pos h]
    exact ⟨fun h => by omega, fun h => by omega⟩
  · rw [if_neg h]
    have e : checkFrom (-1) l = true ↔ (∀ x ∈ l, x.ok = true) ∧ Asc l := by
      rw [checkFrom_iff]
      exact ⟨fun h => ⟨fun x hx => (h.1 x hx).1, h.2⟩, fun h => ⟨fun x hx => ⟨h.1 x hx, by have := ok_id (h.1 x hx); omega⟩, h.2⟩⟩
    rw [← e]
    cases checkFrom (-1) l
    · simp
    · simp; omega
theorem checkE_range (l : List Spot) : checkE l = 0 ∨ checkE l = 2 ∨ checkE l = 490 := by
  unfold checkE
  split
  · exact .inr (.inl rfl)
  · split
    · exact .inl rfl
    · exact .inr (.inr rfl)

/-! ### Changes, one by one -/
def examFrom : Int → List Change → Bool
  | _, [] => true
  | last, c :: l => c.ok && decide (last ≤ c.at_) && examFrom c.at_ l
/-- The changes, one by one, on a display: the error (0: none), and the display. -/
def runL : List Spot → List Change → Int × List Spot
  | s, [] => (0, s)
  | s, c :: l => if fitsB c s = false then (490, s) else if 1024 < (madeL c s).length then (2, s) else runL (madeL c s) l
def playE (l : List Change) (t : Int) : Int := if 4096 < l.length then 2 else if examFrom 0 l = false then 490 else if timeB t = false then 1 else (runL [] (upTo t l)).1
def playL (l : List Change) (t : Int) : List Spot := (runL [] (upTo t l)).2

theorem runL_step {c : Change} {s : List Spot} {q : List Change} : runL s (c :: q) = if fitsB c s = false then (490, s) else if 1024 < (madeL c s).length then (2, s) else runL (madeL c s) q := rfl
theorem runL_app : ∀ (pre q : List Change) (s s' : List Spot), runL s pre = (0, s') → runL s (pre ++ q) = runL s' q
  | [], q, s, s', h => by cases h; rfl
  | c :: pre, q, s, s', h => by
    rw [List.cons_append, runL_step]
    rw [runL_step] at h
    split at h
    · cases h
    · rename_i h1
      rw [if_neg h1]
      split at h
      · cases h
      · rename_i h2
        rw [if_neg h2]
        exact runL_app pre q _ _ h
theorem runL_inv : ∀ (pre : List Change) (s s' : List Spot), Asc s → s.length ≤ 1024 → runL s pre = (0, s') → Asc s' ∧ s'.length ≤ 1024
  | [], s, s', hs, hl, h => by cases h; exact ⟨hs, hl⟩
  | c :: pre, s, s', hs, hl, h => by
    unfold runL at h
    split at h
    · cases h
    · rename_i h1
      split at h
      · cases h
      · rename_i h2
        exact runL_inv pre _ _ (made_asc hs (by simpa using h1)) (by omega) h
theorem asc_nil : Asc [] := fun a b ha => absurd ha (by simp)
end Go.Proofs.YtneanannicacnaaDoor
