/- Terms that are added, in plain lists. No program in sight. -/
import Derived.Test.YtneanannicacnaaDoorLaw27d
namespace Go.Proofs.YtneanannicacnaaDoor
open Go.RowKit Go.Han

theorem posT_cons (n : Int) (y : Term) (l : List Term) : posT n (y :: l) = if y.no < n then posT n l + 1 else 0 := by
  unfold posT
  rw [List.takeWhile_cons]
  by_cases h : y.no < n <;> simp [h]
theorem addL_nil (a : Term) : addL [] a = [a] := rfl
theorem addL_cons (y : Term) (l : List Term) (a : Term) : addL (y :: l) a = if y.no < a.no then y :: addL l a else a :: y :: l := by
  unfold addL
  rw [posT_cons]
  by_cases h : y.no < a.no <;> simp [h]
theorem addL_comm (a b : Term) (h : a.no ≠ b.no) : ∀ l : List Term, addL (addL l a) b = addL (addL l b) a
  | [] => by
    rw [addL_nil, addL_nil, addL_cons, addL_cons, addL_nil, addL_nil]
    by_cases h1 : a.no < b.no
    · rw [if_pos h1, if_neg (by omega)]
    · rw [if_neg h1, if_pos (by omega)]
  | y :: l => by
    rw [addL_cons y l a, addL_cons y l b]
    by_cases h1 : y.no < a.no <;> by_cases h2 : y.no < b.no
    · rw [if_pos h1, if_pos h2, addL_cons, addL_cons, if_pos h1, if_pos h2, addL_comm a b h l]
    · rw [if_pos h1, if_neg h2, addL_cons, if_neg h2, addL_cons b, if_pos (by omega), addL_cons, if_pos h1]
    · rw [if_neg h1, if_pos h2, addL_cons a, if_pos (by omega), addL_cons, if_pos h2, addL_cons, if_neg h1]
    · rw [if_neg h1, if_neg h2, addL_cons a, addL_cons b]
      by_cases h3 : a.no < b.no
      · rw [if_pos h3, addL_cons, if_neg h2, if_neg (by omega)]
      · rw [if_neg h3, if_pos (by omega), addL_cons, if_neg h1]
theorem addL_filter (p : Term → Bool) (l : List Term) (a : Term) (h : p a = false) : (addL l a).filter p = l.filter p := by
  unfold addL
  rw [List.filter_append, List.filter_cons, if_neg (by simp [h]), ← List.filter_append, List.take_append_drop]
theorem addL_any (p : Term → Bool) (l : List Term) (a : Term) : (addL l a).any p = (l.any p || p a) := by
  unfold addL
  rw [List.any_append, List.any_cons]
  conv => rhs; rw [← List.take_append_drop (posT a.no l) l, List.any_append]
  cases p a <;> simp
theorem mem_addL {l : List Term} {a y : Term} : y ∈ addL l a ↔ y = a ∨ y ∈ l := by
  refine ⟨addL_mem, fun h => ?_⟩
  unfold addL
  rcases h with rfl | h
  · simp
  · rw [← List.take_append_drop (posT a.no l) l] at h
    rcases List.mem_append.1 h with h | h
    · exact List.mem_append_left _ h
    · exact List.mem_append_right _ (List.mem_cons_of_mem _ h)
theorem hasT_addL (n : Int) (l : List Term) (a : Term) : hasT n (addL l a) = (hasT n l || a.no == n) := addL_any _ l a
theorem addL_pairwise (a : Term) : ∀ l : List Term, l.Pairwise (fun x y => x.no < y.no) → hasT a.no l = false → (addL l a).Pairwise (fun x y => x.no < y.no)
  | [], _, _ => by rw [addL_nil]; simp
  | y :: l, h, hh => by
    have hh2 : y.no ≠ a.no ∧ hasT a.no l = false := by
      unfold hasT at hh ⊢
      simpa using hh
    rw [addL_cons]
    obtain ⟨h1, h2⟩ := List.pairwise_cons.1 h
    by_cases hy : y.no < a.no
    · rw [if_pos hy]
      refine List.pairwise_cons.2 ⟨fun z hz => ?_, addL_pairwise a l h2 hh2.2⟩
      rcases mem_addL.1 hz with rfl | hz
      · exact hy
      · exact h1 z hz
    · rw [if_neg hy]
      refine List.pairwise_cons.2 ⟨fun z hz => ?_, h⟩
      rcases List.mem_cons.1 hz with rfl | hz
      · omega
      · have := h1 z hz; omega
theorem addE_zero {l : List Term} {x : Term} (h : addE l x = 0) : checkT l = 0 ∧ x.ok = true ∧ hasT x.no l = false ∧ l.length ≠ 1024 := by
  unfold addE at h
  by_cases h1 : checkT l = 0
  · rw [if_neg (by simpa using h1)] at h
    cases h2 : x.ok
    · rw [h2, if_pos rfl] at h; cases h
    · rw [h2, if_neg (by simp)] at h
      cases h3 : hasT x.no l
      · rw [h3, if_neg (by simp)] at h
        by_cases h4 : l.length = 1024
        · rw [if_pos h4] at h; cases h
        · exact ⟨h1, rfl, rfl, h4⟩
      · rw [h3, if_pos rfl] at h; cases h
  · rw [if_pos h1] at h; exact absurd h h1
theorem addE_mk {l : List Term} {x : Term} (h1 : checkT l = 0) (h2 : x.ok = true) (h3 : hasT x.no l = false) (h4 : l.length ≠ 1024) : addE l x = 0 := by
  unfold addE
  rw [if_neg (by simpa using h1), h2, if_neg (by simp), h3, if_neg (by simp), if_neg h4]
theorem addL_check {l : List Term} {x : Term} (h : addE l x = 0) : checkT (addL l x) = 0 := by
  obtain ⟨h1, h2, h3, h4⟩ := addE_zero h
  obtain ⟨c1, c2, c3⟩ := checkT_zero h1
  refine checkT_mk (by rw [addL_length]; omega) (fun y hy => ?_) (addL_pairwise x l c3 h3)
  rcases mem_addL.1 hy with rfl | hy
  · exact h2
  · exact c2 y hy
theorem added_two {l : List Term} {a b : Term} (hl : l.length ≤ 30) (ha : addE l a = 0) (hb : addE (addL l a) b ≠ 0) (hz : addE l b = 0) : a.no = b.no := by
  obtain ⟨h1, h2, h3, h4⟩ := addE_zero hz
  refine Decidable.byContradiction fun hne => hb (addE_mk (addL_check ha) h2 ?_ (by rw [addL_length]; omega))
  rw [hasT_addL, h3, Bool.false_or]
  simpa using hne
theorem added_both {l : List Term} {a b : Term} (ha : addE l a = 0) (hb : addE (addL l a) b = 0) : addE l b = 0 ∧ addE (addL l b) a = 0 ∧ addL (addL l b) a = addL (addL l a) b := by
  obtain ⟨h1, h2, h3, h4⟩ := addE_zero ha
  obtain ⟨g1, g2, g3, g4⟩ := addE_zero hb
  rw [hasT_addL, Bool.or_eq_false_iff] at g3
  have hne : a.no ≠ b.no := by simpa using g3.2
  have hlb : addE l b = 0 := addE_mk h1 g2 g3.1 h4
  refine ⟨hlb, addE_mk (addL_check hlb) h2 ?_ ?_, (addL_comm a b hne l).symm⟩
  · rw [hasT_addL, h3, Bool.false_or]
    simpa using hne.symm
  · rw [addL_length] at g4 ⊢; exact g4
theorem added_standE {l : List Term} {a : Term} (h : addE l a = 0) (lang t u : Int) : standE (addL l a) lang t u = standE l lang t u := by
  unfold standE
  rw [addL_check h, (addE_zero h).1]
theorem laterAny_addL (l : List Term) (a : Term) (t u : Int) (z : Term) : laterAny (addL l a) t u z = (laterAny l t u z || (aboutB a z && countsB a t u && laterB a z)) := addL_any _ l a
theorem added_rest (l : List Term) (a : Term) (lang t u : Int) : (standT (addL l a) lang t u).filter (fun z => !aboutB z a) = (standT l lang t u).filter (fun z => !aboutB z a) := by
  unfold standT
  rw [List.filter_filter, List.filter_filter, addL_filter]
  · refine List.filter_congr fun z _ => ?_
    show (!aboutB z a && (decide (z.lang = lang) && (!z.gone && countsB z t u && !laterAny (addL l a) t u z))) = (!aboutB z a && (decide (z.lang = lang) && (!z.gone && countsB z t u && !laterAny l t u z)))
    rw [laterAny_addL, aboutB_symm a z]
    cases aboutB z a <;> simp
  · have : aboutB a a = true := by simp [aboutB]
    rw [this]; rfl
theorem added_own {l : List Term} {a : Term} (h : addE l a = 0) (lang t u : Int) : (standT (addL l a) lang t u).any (fun z => z.no == a.no) = (decide (a.lang = lang) && countsB a t u && !a.gone && !laterAny l t u a) := by
  have hs := (checkT_zero (addL_check h)).2.2
  have hp : (decide (a.lang = lang) && countsB a t u && !a.gone && !laterAny l t u a) = (decide (a.lang = lang) && standsB (addL l a) t u a) := by
    show _ = (decide (a.lang = lang) && (!a.gone && countsB a t u && !laterAny (addL l a) t u a))
    rw [laterAny_addL]
    have : laterB a a = false := by simp [laterB]
    rw [this]
    cases countsB a t u <;> cases a.gone <;> simp
  rw [hp]
  unfold standT
  rw [List.any_filter]
  have ha : a ∈ addL l a := mem_addL.2 (.inl rfl)
  cases hq : (decide (a.lang = lang) && standsB (addL l a) t u a)
  · rw [List.any_eq_false]
    intro z hz hc
    simp only [Bool.and_eq_true, beq_iff_eq] at hc
    have e := no_inj hs hz ha hc.2
    subst e
    rw [Bool.and_eq_false_iff] at hq
    rcases hq with hq | hq
    · rw [hc.1.1] at hq; cases hq
    · rw [hc.1.2] at hq; cases hq
  · exact List.any_eq_true.2 ⟨a, ha, by rw [hq]; simp⟩
def addOut (l : List Term) (x : Term) : List Term := if addE l x = 0 then addL l x else []
theorem addPost_out {l : List Term} {x : Term} {w w' : World} {e : Ending} (h : AddPost l x w e w') :
    Below w.heap.size w w' ∧ ∃ A c, e = .returned (.tuple #[.slice A (addOut l x).length c, .int .i64 (addE l x)]) ∧ TermsAt w' A (addOut l x) ∧ (A = none → addOut l x = []) := by
  rcases h with ⟨hb, ⟨hne, rfl⟩ | ⟨hz, A, c, rfl, hT, hN⟩⟩
  · refine ⟨hb, none, 0, ?_, ?_, fun _ => ?_⟩
    · unfold addOut; rw [if_neg hne]; rfl
    · unfold addOut; rw [if_neg hne]; exact TermsAt.nil _ _
    · unfold addOut; rw [if_neg hne]
  · refine ⟨hb, A, c, ?_, ?_, fun h => ?_⟩
    · unfold addOut; rw [if_pos hz, hz]
    · unfold addOut; rw [if_pos hz]; exact hT
    · unfold addOut; rw [if_pos hz]; exact hN h
end Go.Proofs.YtneanannicacnaaDoor
