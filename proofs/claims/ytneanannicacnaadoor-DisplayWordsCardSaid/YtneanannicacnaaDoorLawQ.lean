/- Displays: playing further is performing what comes between. Plain lists, no program in sight. -/
import Derived.Test.YtneanannicacnaaDoorLawP
import Derived.Test.YtneanannicacnaaDoorDisp12
namespace Go.Proofs.YtneanannicacnaaDoor
open Go.RowKit Go.Han

theorem exam_cons {a : Int} {c : Change} {l : List Change} : examFrom a (c :: l) = true ↔ c.ok = true ∧ a ≤ c.at_ ∧ examFrom c.at_ l = true := by
  rw [show examFrom a (c :: l) = (c.ok && decide (a ≤ c.at_) && examFrom c.at_ l) from rfl]
  simp only [Bool.and_eq_true, decide_eq_true_eq]
  exact ⟨fun h => ⟨h.1.1, h.1.2, h.2⟩, fun h => ⟨⟨h.1, h.2.1⟩, h.2.2⟩⟩
theorem exam_le : ∀ {l : List Change} {a : Int}, examFrom a l = true → ∀ c ∈ l, a ≤ c.at_
  | d :: l, a, h, c, hc => by
    obtain ⟨_, h2, h3⟩ := exam_cons.1 h
    rcases List.mem_cons.1 hc with rfl | hc
    · exact h2
    · have := exam_le h3 c hc; omega
theorem exam_pre : ∀ {l l' : List Change} {a : Int}, examFrom a (l ++ l') = true → examFrom a l = true
  | [], _, _, _ => rfl
  | d :: l, l', a, h => by
    rw [List.cons_append] at h
    obtain ⟨h1, h2, h3⟩ := exam_cons.1 h
    exact exam_cons.2 ⟨h1, h2, exam_pre h3⟩
theorem examQ_drop : ∀ {l : List Change} {a : Int} (k : Nat), examFrom a l = true → ∃ b, examFrom b (l.drop k) = true
  | _, a, 0, h => ⟨a, h⟩
  | [], a, _ + 1, h => ⟨a, h⟩
  | _ :: _, _, k + 1, h => examQ_drop k (exam_cons.1 h).2.2
theorem upTo_pre (t : Int) (l : List Change) : ∃ r, l = upTo t l ++ r := ⟨_, (List.takeWhile_append_dropWhile).symm⟩
theorem upTo_none {t : Int} {l : List Change} (h : ∀ c ∈ l, t < c.at_) : upTo t l = [] := by
  cases l with
  | nil => rfl
  | cons c l => unfold upTo; rw [List.takeWhile_cons_of_neg (by have := h c (List.mem_cons_self ..); simp; omega)]
theorem upTo_cons (t : Int) (c : Change) (l : List Change) : upTo t (c :: l) = if c.at_ ≤ t then c :: upTo t l else [] := by
  unfold upTo; rw [List.takeWhile_cons]; simp
theorem upTo_idem (t : Int) : ∀ l : List Change, upTo t (upTo t l) = upTo t l
  | [] => rfl
  | c :: l => by
    rw [upTo_cons]
    by_cases h : c.at_ ≤ t
    · rw [if_pos h, upTo_cons, if_pos h, upTo_idem t l]
    · rw [if_neg h]; rfl
theorem upTo_le {t u : Int} (h : t ≤ u) : ∀ l : List Change, ∃ r, upTo u l = upTo t l ++ r
  | [] => ⟨[], rfl⟩
  | c :: l => by
    rw [upTo_cons, upTo_cons]
    by_cases h1 : c.at_ ≤ t
    · obtain ⟨r, e⟩ := upTo_le h l
      exact ⟨r, by rw [if_pos h1, if_pos (by omega), e]; rfl⟩
    · exact ⟨_, by rw [if_neg h1]; rfl⟩
theorem runL_pre : ∀ (p q : List Change) (s : List Spot), (runL s (p ++ q)).1 = 0 → (runL s p).1 = 0
  | [], _, _, _ => rfl
  | c :: p, q, s, h => by
    rw [List.cons_append, runL_step] at h
    rw [runL_step]
    split at h
    · cases h
    · rename_i h1
      rw [if_neg h1]
      split at h
      · cases h
      · rename_i h2
        rw [if_neg h2]
        exact runL_pre p q _ h

theorem playE_zero_iff (l : List Change) (t : Int) : playE l t = 0 ↔ l.length ≤ 4096 ∧ examFrom 0 l = true ∧ timeB t = true ∧ (runL [] (upTo t l)).1 = 0 := by
  unfold playE
  by_cases h : 4096 < l.length
  · rw [if_pos h]; exact ⟨fun h => by omega, fun h => by omega⟩
  · rw [if_neg h]
    cases examFrom 0 l
    · simp
    · cases timeB t
      · simp
      · simp; omega
theorem timeB_iff (t : Int) : timeB t = true ↔ 0 ≤ t ∧ t < 1099511627776 := by simp [timeB]

/-- An earlier time: no new errors. -/
theorem play_earlier {l : List Change} {t u : Int} (htu : t ≤ u) (h0 : 0 ≤ t) (h : playE l u = 0) : playE l t = 0 := by
  obtain ⟨h1, h2, h3, h4⟩ := (playE_zero_iff l u).1 h
  obtain ⟨r, e⟩ := upTo_le htu l
  rw [e] at h4
  have := (timeB_iff u).1 h3
  exact (playE_zero_iff l t).2 ⟨h1, h2, (timeB_iff t).2 (by omega), runL_pre _ _ _ h4⟩
theorem count_le {l : List Change} {t u : Int} (htu : t ≤ u) : countW (upTo t l) ≤ countW (upTo u l) := by
  obtain ⟨r, e⟩ := upTo_le htu l
  rw [e, countW_app]; omega

/-- What is still to be performed, from the k-th change on. -/
def restL (t u : Int) (l : List Change) : List Change := (upTo u l).filter (fun c => !decide (c.at_ ≤ t))
/-- Between two rounds of the law's loop. -/
structure LaterInv (l : List Change) (t u : Int) (k : Nat) (early : List Change) (s : List Spot) : Prop where
  pre : upTo t l = early ++ upTo t (l.drop k)
  len : early.length ≤ k
  run : runL s (restL t u (l.drop k)) = (0, playL l u)
  ok : checkE s = 0

theorem runL_ok : ∀ (p : List Change) (s s' : List Spot), checkE s = 0 → (∀ c ∈ p, c.ok = true) → runL s p = (0, s') → checkE s' = 0
  | [], s, s', hs, _, h => by cases h; exact hs
  | c :: p, s, s', hs, hp, h => by
    rw [runL_step] at h
    split at h
    · cases h
    · rename_i h1
      split at h
      · cases h
      · rename_i h2
        exact runL_ok p _ s' (made_ok hs (hp c (List.mem_cons_self ..)) (by simpa using h1) (by omega)) (fun d hd => hp d (List.mem_cons_of_mem _ hd)) h
theorem play_ok {l : List Change} {t : Int} (h : playE l t = 0) : checkE (playL l t) = 0 := by
  obtain ⟨h1, h2, h3, h4⟩ := (playE_zero_iff l t).1 h
  exact runL_ok (upTo t l) [] _ rfl (fun c hc => exam_ok 0 l h2 c (upTo_mem hc)) (Prod.ext h4 rfl)
theorem rest_of {t u : Int} (htu : t ≤ u) : ∀ {l : List Change} {a : Int}, examFrom a l = true → upTo u l = upTo t l ++ restL t u l
  | [], _, _ => rfl
  | c :: l, a, h => by
    obtain ⟨h1, h2, h3⟩ := exam_cons.1 h
    have ih := rest_of htu h3
    unfold restL at ih ⊢
    rw [upTo_cons, upTo_cons]
    by_cases c1 : c.at_ ≤ t
    · rw [if_pos c1, if_pos (show c.at_ ≤ u by omega), List.filter_cons_of_neg (by simp; exact c1), List.cons_append, ← ih]
    · have e : upTo t l = [] := upTo_none fun d hd => by have := exam_le h3 d hd; omega
      by_cases c2 : c.at_ ≤ u
      · rw [if_neg c1, if_pos c2, List.filter_cons_of_pos (by simp; omega), List.nil_append]
        rw [e, List.nil_append] at ih
        rw [← ih]
      · rw [if_neg c1, if_neg c2]; rfl
theorem later_start {l : List Change} {t u : Int} (htu : t ≤ u) (ht : playE l t = 0) (hu : playE l u = 0) : LaterInv l t u 0 [] (playL l t) := by
  obtain ⟨h1, h2, h3, h4⟩ := (playE_zero_iff l u).1 hu
  obtain ⟨_, _, _, g4⟩ := (playE_zero_iff l t).1 ht
  refine ⟨rfl, Nat.le_refl _, ?_, play_ok ht⟩
  have e := rest_of htu h2
  rw [List.drop_zero]
  have hr : runL [] (upTo u l) = (0, playL l u) := Prod.ext h4 rfl
  rw [e, runL_app _ _ _ _ (show runL [] (upTo t l) = (0, playL l t) from Prod.ext g4 rfl)] at hr
  exact hr
theorem LaterInv.early_step {l : List Change} {t u : Int} {k : Nat} {early : List Change} {s : List Spot} (h : LaterInv l t u k early s) (hk : k < l.length) (htu : t ≤ u) (hc : l[k].at_ ≤ t) : LaterInv l t u (k + 1) (early ++ [l[k]]) s := by
  refine ⟨?_, by have := h.len; simp; omega, ?_, h.ok⟩
  · rw [h.pre, List.drop_eq_getElem_cons hk, upTo_cons, if_pos hc]; simp
  · have := h.run
    unfold restL at this ⊢
    rw [List.drop_eq_getElem_cons hk, upTo_cons, if_pos (by omega), List.filter_cons_of_neg (by simp; exact hc)] at this
    exact this
theorem LaterInv.do_step {l : List Change} {t u : Int} {k : Nat} {early : List Change} {s : List Spot} (h : LaterInv l t u k early s) (hk : k < l.length) (hx : examFrom 0 l = true) (hc : ¬ l[k].at_ ≤ t) (hu : l[k].at_ ≤ u) : doE s l[k] = 0 ∧ LaterInv l t u (k + 1) early (madeL l[k] s) := by
  have hr := h.run
  unfold restL at hr
  rw [List.drop_eq_getElem_cons hk, upTo_cons, if_pos hu, List.filter_cons_of_pos (by simp; omega), runL_step] at hr
  have hok : l[k].ok = true := exam_ok 0 l hx _ (List.getElem_mem _)
  split at hr
  · cases hr
  · rename_i h1
    split at hr
    · cases hr
    · rename_i h2
      have hf : fitsB l[k] s = true := by simpa using h1
      have he : upTo t (l.drop (k + 1)) = [] := by
        obtain ⟨b, hb⟩ := examQ_drop k hx
        rw [List.drop_eq_getElem_cons hk] at hb
        obtain ⟨_, _, h3⟩ := exam_cons.1 hb
        exact upTo_none fun d hd => by have := exam_le h3 d hd; omega
      refine ⟨(doE_zero_iff _ _).2 ⟨h.ok, hok, hf, by omega⟩, ?_, by have := h.len; omega, hr, made_ok h.ok hok hf (by omega)⟩
      rw [h.pre, he, List.drop_eq_getElem_cons hk, upTo_cons, if_neg hc]
theorem LaterInv.stop {l : List Change} {t u : Int} {k : Nat} {early : List Change} {s : List Spot} (h : LaterInv l t u k early s) (hk : k < l.length) (htu : t ≤ u) (hu : ¬ l[k].at_ ≤ u) : early = upTo t l ∧ s = playL l u := by
  have hr := h.run
  have he := h.pre
  unfold restL at hr
  rw [List.drop_eq_getElem_cons hk, upTo_cons, if_neg hu] at hr
  rw [List.drop_eq_getElem_cons hk, upTo_cons, if_neg (by omega), List.append_nil] at he
  refine ⟨he.symm, ?_⟩
  have := congrArg Prod.snd hr
  exact this
theorem LaterInv.ended {l : List Change} {t u : Int} {k : Nat} {early : List Change} {s : List Spot} (h : LaterInv l t u k early s) (hk : ¬ k < l.length) : early = upTo t l ∧ s = playL l u := by
  have hr := h.run
  have he := h.pre
  unfold restL at hr
  rw [List.drop_eq_nil_of_le (by omega)] at hr he
  refine ⟨by rw [he]; simp [upTo], ?_⟩
  have := congrArg Prod.snd hr
  exact this
theorem play_early {l : List Change} {t : Int} (h : playE l t = 0) : playE (upTo t l) t = 0 ∧ playL (upTo t l) t = playL l t := by
  obtain ⟨h1, h2, h3, h4⟩ := (playE_zero_iff l t).1 h
  obtain ⟨r, e⟩ := upTo_pre t l
  refine ⟨(playE_zero_iff _ t).2 ⟨?_, ?_, h3, by rw [upTo_idem]; exact h4⟩, by unfold playL; rw [upTo_idem]⟩
  · have := congrArg List.length e; simp at this; omega
  · rw [e] at h2; exact exam_pre h2
end Go.Proofs.YtneanannicacnaaDoor
