/- Texts of this claim, one after the other: Law28f, AddT2, Law28g. -/
import Derived.Test.YthojaplnimoacaaGreatDoorM20
import Derived.Test.YthojaplnimoacaaGreatDoorM10
import Derived.Test.YthojaplnimoacaaGreatDoorM17
import Derived.Deep.DeepCutAuto
/- Law 28: is; what TagsAdded keeps. -/
namespace Go.Proofs.YthojaplnimoacaaGreatDoor
open Go.RowKit Go.Han
attribute [local irreducible] wpStill wpQuiet
set_option maxRecDepth 100000

end Go.Proofs.YthojaplnimoacaaGreatDoor

/- Package glossary: Add, walked. -/
namespace Go.Proofs.YthojaplnimoacaaGreatDoor
open Go.RowKit Go.Han
attribute [local irreducible] wpStill wpQuiet
set_option maxRecDepth 100000

end Go.Proofs.YthojaplnimoacaaGreatDoor

/- TagsAdded. -/
namespace Go.Proofs.YthojaplnimoacaaGreatDoor
open Go.RowKit Go.Han
attribute [local irreducible] wpStill wpQuiet
set_option maxRecDepth 100000

theorem owns_in : ∀ (l : List ByteArray) (k : Nat), ∀ x ∈ ownsC k l, 0 ≤ x.frm ∧ x.unt = x.frm + 1 ∧ x.unt ≤ (k : Int) + l.length
  | [], _, x, h => by cases h
  | s :: l, k, x, h => by
    unfold ownsC at h
    rcases List.mem_cons.1 h with rfl | h
    · exact ⟨by show (0 : Int) ≤ (k : Int); omega, rfl, by show (k : Int) + 1 ≤ _; simp only [List.length_cons]; omega⟩
    · have := owns_in l (k + 1) x h
      simp only [List.length_cons]
      exact ⟨this.1, this.2.1, by omega⟩
theorem tags_in {g : Gram} {l : List Term} {lang t u : Int} {ws : List ByteArray} (h : tagsE g l lang ws t u = 0) : ∀ x ∈ tagsC g (standT l lang t u) ws, 0 ≤ x.frm ∧ x.frm < x.unt ∧ x.unt ≤ ws.length := by
  obtain ⟨hc, hs, h16, hw, hl⟩ := tagsE_zero h
  have hk := standE_zero hs
  intro x hx
  unfold tagsC at hx
  rcases List.mem_append.1 hx with hx | hx
  · have := owns_in ws 0 x hx
    refine ⟨this.1, ?_, ?_⟩ <;> omega
  · have h1 := (words_ok hc (standT_ok hk.1 lang t u) (standT_one hk.1 lang t u) ws 0 rfl).1 x hx
    unfold tagFitB tagInB at h1
    simp only [Bool.and_eq_true, decide_eq_true_eq] at h1
    exact ⟨h1.1.1.1.2, h1.1.1.2, h1.1.2⟩
theorem items_in {g : Gram} {l : List Term} {lang t u : Int} {ws : List ByteArray} {its : SlS ItemG} (h : tagsE g l lang ws t u = 0) (hm : its.xs.map ItemG.c = tagsC g (standT l lang t u) ws) :
    its.xs.length ≤ 1024 ∧ ∀ y ∈ its.xs, 0 ≤ y.frm ∧ y.frm ≤ 1000 ∧ 0 ≤ y.unt ∧ y.unt ≤ 1000 := by
  obtain ⟨hc, hs, h16, hw, hl⟩ := tagsE_zero h
  refine ⟨by rw [← hm, List.length_map] at hl; exact hl, fun y hy => ?_⟩
  have := tags_in h y.c (by rw [← hm]; exact List.mem_map_of_mem hy)
  have h1 : 0 ≤ y.frm ∧ y.frm < y.unt ∧ y.unt ≤ ws.length := this
  omega
end Go.Proofs.YthojaplnimoacaaGreatDoor
