/- Displays: what is shown of each word follows from the changes of its Id alone. Plain lists, no program in sight. -/
import Derived.Test.YtneanannicacnaaDoorLawQ
namespace Go.Proofs.YtneanannicacnaaDoor
open Go.RowKit Go.Han

/-- The last change of a word. -/
def lastC (n : Int) (p : List Change) : Option Change := (p.filter (fun c => c.spot.id == n)).getLast?
def ownC (n : Int) (p : List Change) : List Change := p.filter (fun c => c.spot.id == n)
def putW (p : List Change) : Nat := (p.filter (fun c => c.kind == 1)).length
def dropW (p : List Change) : Nat := (p.filter (fun c => c.kind == 2)).length
theorem lastC_snoc (n : Int) (p : List Change) (c : Change) : lastC n (p ++ [c]) = if c.spot.id = n then some c else lastC n p := by
  unfold lastC
  rw [List.filter_append]
  by_cases h : c.spot.id = n
  · rw [if_pos h]; simp [h]
  · rw [if_neg h]; simp [h]
theorem ownC_snoc (n : Int) (p : List Change) (c : Change) : ownC n (p ++ [c]) = if c.spot.id = n then ownC n p ++ [c] else ownC n p := by
  unfold ownC
  rw [List.filter_append]
  by_cases h : c.spot.id = n
  · rw [if_pos h]; simp [h]
  · rw [if_neg h]; simp [h]
theorem runL_snoc_inv (p : List Change) (c : Change) (s0 s' : List Spot) (h : runL s0 (p ++ [c]) = (0, s')) : ∃ s, runL s0 p = (0, s) ∧ fitsB c s = true ∧ (madeL c s).length ≤ 1024 ∧ s' = madeL c s := by
  have h1 : (runL s0 p).1 = 0 := runL_pre p [c] s0 (by rw [h])
  have h2 : runL s0 p = (0, (runL s0 p).2) := Prod.ext h1 rfl
  refine ⟨_, h2, ?_⟩
  rw [runL_app _ _ _ _ h2, runL_step] at h
  split at h
  · cases h
  · rename_i h3
    split at h
    · cases h
    · cases h
      exact ⟨by simpa using h3, by omega, rfl⟩
theorem runL_snoc (p : List Change) (c : Change) (s0 s : List Spot) (h : runL s0 p = (0, s)) (hf : fitsB c s = true) (hl : (madeL c s).length ≤ 1024) : runL s0 (p ++ [c]) = (0, madeL c s) := by
  rw [runL_app _ _ _ _ h, runL_step, hf, if_neg (by simp), if_neg (by omega)]; rfl

theorem snoc_ind {α : Type} {P : List α → Prop} (h0 : P []) (hs : ∀ p c, P p → P (p ++ [c])) : ∀ l, P l := by
  have h : ∀ q : List α, P q.reverse := by
    intro q
    induction q with
    | nil => exact h0
    | cons c q ih => rw [List.reverse_cons]; exact hs _ _ ih
  intro l
  have := h l.reverse
  rwa [List.reverse_reverse] at this
theorem get_toList_fits {n : Int} {o : Option Spot} (h : ∀ x, o = some x → x.id = n) : getS n o.toList = o := by
  cases o with
  | none => rfl
  | some x => simp [getS_cons, h x rfl]
theorem asc_opt (o : Option Spot) : Asc o.toList := by
  rw [asc_iff]; cases o <;> simp
/-- What is shown of a word, from its last change; and what its own changes alone show. -/
theorem words_law : ∀ (p : List Change) s, runL [] p = (0, s) → Asc s ∧ (∀ n, getS n s = (lastC n p).bind madeG) ∧ (∀ n, runL [] (ownC n p) = (0, (getS n s).toList)) ∧ (s.length + dropW p = putW p) := by
  refine snoc_ind ?_ ?_
  · intro s h; cases h; exact ⟨asc_nil, fun n => rfl, fun n => rfl, rfl⟩
  · intro p c ih s' h
    obtain ⟨s, hs, hf, hl, rfl⟩ := runL_snoc_inv p c [] s' h
    obtain ⟨hasc, h1, h2, h3⟩ := ih s hs
    have hmg := made_get hasc hf
    have hg := hf
    rw [fits_get hasc] at hg
    refine ⟨made_asc hasc hf, fun n => ?_, fun n => ?_, ?_⟩
    · rw [hmg, lastC_snoc]
      by_cases e : n = c.spot.id
      · rw [if_pos e, if_pos e.symm]; rfl
      · rw [if_neg e, if_neg (Ne.symm e), h1]
    · rw [ownC_snoc, hmg]
      by_cases e : n = c.spot.id
      · rw [if_pos e, if_pos e.symm]
        have hn : ∀ x, getS n s = some x → x.id = n := fun x hx => (getS_some hx).2
        have hf2 : fitsB c (getS n s).toList = true := by
          rw [fits_get (asc_opt _), ← e, get_toList_fits hn]
          rw [← e] at hg; exact hg
        have hm : madeL c (getS n s).toList = (madeG c).toList := by
          refine asc_ext _ _ (made_asc (asc_opt _) hf2) (asc_opt _) fun m => ?_
          rw [made_get (asc_opt _) hf2]
          have hmid : ∀ x, madeG c = some x → x.id = c.spot.id := fun x hx => by
            unfold madeG at hx; split at hx
            · cases hx
            · cases hx; rfl
          by_cases em : m = c.spot.id
          · rw [if_pos em, em, get_toList_fits hmid]
          · rw [if_neg em, getS_none, getS_none]
            · intro x hx
              rw [hmid x (by simpa using hx)]
              exact fun h => em h.symm
            · intro x hx
              rw [hn x (by simpa using hx), e]
              exact fun h => em h.symm
        have := runL_snoc (ownC n p) c [] _ (h2 n) hf2 (by rw [hm]; cases madeG c <;> simp)
        rw [this, hm]
      · rw [if_neg e, if_neg (Ne.symm e)]; exact h2 n
    · rw [made_len hasc hf]
      have e1 : putW (p ++ [c]) = putW p + if c.kind = 1 then 1 else 0 := by
        unfold putW; rw [List.filter_append]; by_cases h : c.kind = 1 <;> simp [h]
      have e2 : dropW (p ++ [c]) = dropW p + if c.kind = 2 then 1 else 0 := by
        unfold dropW; rw [List.filter_append]; by_cases h : c.kind = 2 <;> simp [h]
      rw [e1, e2]
      rcases fitsG_cases hg with ⟨c1, _⟩ | ⟨c2, o⟩ | ⟨c1, c2, _⟩
      · have c2 : ¬ c.kind = 2 := by omega
        rw [if_pos c1, if_pos c1, if_neg c2]; omega
      · have c1 : ¬ c.kind = 1 := by omega
        have : 0 < s.length := List.length_pos_of_mem (getS_some o).1
        simp only [if_neg c1, if_pos c2]; omega
      · simp only [if_neg c1, if_neg c2]; omega

theorem exam_filter (f : Change → Bool) : ∀ {l : List Change} {a : Int}, examFrom a l = true → examFrom a (l.filter f) = true
  | [], _, _ => rfl
  | c :: l, a, h => by
    obtain ⟨h1, h2, h3⟩ := exam_cons.1 h
    have ih := exam_filter f h3
    cases hc : f c
    · rw [List.filter_cons_of_neg (by simp [hc])]
      cases hl : l.filter f with
      | nil => rfl
      | cons d q =>
        rw [hl] at ih
        obtain ⟨g1, g2, g3⟩ := exam_cons.1 ih
        exact exam_cons.2 ⟨g1, by omega, g3⟩
    · rw [List.filter_cons_of_pos hc]
      exact exam_cons.2 ⟨h1, h2, ih⟩
theorem upTo_filter_own (t n : Int) : ∀ {l : List Change} {a : Int}, examFrom a l = true → upTo t (ownC n l) = ownC n (upTo t l)
  | [], _, _ => rfl
  | c :: l, a, h => by
    obtain ⟨h1, h2, h3⟩ := exam_cons.1 h
    have ih := upTo_filter_own t n h3
    unfold ownC at ih ⊢
    rw [upTo_cons]
    by_cases ct : c.at_ ≤ t
    · rw [if_pos ct]
      by_cases hc : c.spot.id = n
      · rw [List.filter_cons_of_pos (by simpa using hc), List.filter_cons_of_pos (by simpa using hc), upTo_cons, if_pos ct, ih]
      · rw [List.filter_cons_of_neg (by simpa using hc), List.filter_cons_of_neg (by simpa using hc)]; exact ih
    · rw [if_neg ct, upTo_none]; rfl
      intro d hd
      have := (List.mem_filter.1 hd).1
      rcases List.mem_cons.1 this with rfl | hm
      · omega
      · have := exam_le h3 d hm; omega
theorem upTo_filter (t : Int) : ∀ {l : List Change} {a : Int}, examFrom a l = true → l.filter (fun c => decide (c.at_ ≤ t)) = upTo t l
  | [], _, _ => rfl
  | c :: l, a, h => by
    obtain ⟨h1, h2, h3⟩ := exam_cons.1 h
    rw [upTo_cons]
    by_cases ct : c.at_ ≤ t
    · rw [if_pos ct, List.filter_cons_of_pos (by simpa using ct), upTo_filter t h3]
    · rw [if_neg ct, List.filter_eq_nil_iff.2]
      intro d hd
      rcases List.mem_cons.1 hd with rfl | hm
      · simpa using ct
      · have := exam_le h3 d hm; simp; omega

/-- All of it, of a play that succeeds. -/
theorem words_play {l : List Change} {t : Int} (h : playE l t = 0) :
    (∀ n, getS n (playL l t) = (lastC n (upTo t l)).bind madeG) ∧ (∀ n, playE (ownC n l) t = 0 ∧ playL (ownC n l) t = ((lastC n (upTo t l)).bind madeG).toList) ∧ (playL l t).length + dropW (upTo t l) = putW (upTo t l) ∧ Asc (playL l t) := by
  obtain ⟨h1, h2, h3, h4⟩ := (playE_zero_iff l t).1 h
  obtain ⟨g0, g1, g2, g3⟩ := words_law (upTo t l) (playL l t) (Prod.ext h4 rfl)
  refine ⟨g1, fun n => ?_, g3, g0⟩
  have e := upTo_filter_own t n h2
  have hr := g2 n
  rw [g1] at hr
  refine ⟨(playE_zero_iff _ t).2 ⟨Nat.le_trans (List.length_filter_le _ _) h1, exam_filter _ h2, h3, by rw [e, hr]⟩, ?_⟩
  unfold playL
  rw [e, hr]
end Go.Proofs.YtneanannicacnaaDoor
