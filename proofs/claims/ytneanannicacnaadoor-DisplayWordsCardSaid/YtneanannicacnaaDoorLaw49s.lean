/- The values of the examples of displays, reckoned. -/
import Derived.Test.YtneanannicacnaaDoorRef49f
namespace Go.Proofs.YtneanannicacnaaDoor
open Go.RowKit Go.Han

def sA : Spot := ⟨5, 0, ⟨#[97]⟩⟩
def sB : Spot := ⟨5, 1, ⟨#[98]⟩⟩
def sC : Spot := ⟨2, 0, ⟨#[99]⟩⟩
def sL : List Change := [⟨3, 1, sA⟩, ⟨3, 1, sC⟩, ⟨7, 3, sB⟩, ⟨9, 2, sC⟩]
theorem ex_2 : playE sL 2 = 0 ∧ playL sL 2 = [] ∧ countW (upTo 2 sL) = 0 := by refine ⟨by kernel_rfl, by kernel_rfl, by kernel_rfl⟩
theorem ex_3 : playE sL 3 = 0 ∧ playL sL 3 = [sC, sA] ∧ countW (upTo 3 sL) = 0 := by refine ⟨by kernel_rfl, by kernel_rfl, by kernel_rfl⟩
theorem ex_6 : playE sL 6 = 0 ∧ playL sL 6 = [sC, sA] ∧ countW (upTo 6 sL) = 0 := by refine ⟨by kernel_rfl, by kernel_rfl, by kernel_rfl⟩
theorem ex_7 : playE sL 7 = 0 ∧ playL sL 7 = [sC, sB] ∧ countW (upTo 7 sL) = 1 := by refine ⟨by kernel_rfl, by kernel_rfl, by kernel_rfl⟩
theorem ex_9 : playE sL 9 = 0 ∧ playL sL 9 = [sB] ∧ countW (upTo 9 sL) = 2 := by refine ⟨by kernel_rfl, by kernel_rfl, by kernel_rfl⟩
theorem ex_99 : playE sL 99 = 0 ∧ playL sL 99 = [sB] ∧ countW (upTo 99 sL) = 2 := by refine ⟨by kernel_rfl, by kernel_rfl, by kernel_rfl⟩
theorem ex_neg : playE [] (-1) = 1 := by kernel_rfl
theorem ex_do1 : doE [] ⟨9, 2, sC⟩ = 490 := by kernel_rfl
theorem ex_do2 : doE [sA] ⟨0, 3, sA⟩ = 490 := by kernel_rfl
theorem ex_do3 : doE [sA] ⟨0, 1, sB⟩ = 490 := by kernel_rfl
theorem ex_do4 : doE [sA] ⟨0, 2, sB⟩ = 490 := by kernel_rfl
theorem ex_do5 : doE [] ⟨0, 4, sA⟩ = 490 := by kernel_rfl
theorem ex_check1 : checkE [sC, sA] = 0 := by kernel_rfl
theorem ex_check2 : checkE [sA, sC] = 490 := by kernel_rfl
theorem ex_check3 : checkE [⟨1, 1, ⟨#[]⟩⟩] = 490 := by kernel_rfl
theorem ex_many (l : List Spot) (c : Change) (h : l.length = 1025) : doE l c = 2 := by
  have hc : checkE l = 2 := by unfold checkE; rw [if_pos (by omega)]
  unfold doE
  rw [hc]; rfl
end Go.Proofs.YtneanannicacnaaDoor
