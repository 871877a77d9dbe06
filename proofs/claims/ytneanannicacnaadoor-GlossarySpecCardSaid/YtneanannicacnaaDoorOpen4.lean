/- How terms read, with the slice's capacity. -/
import Derived.Test.YtneanannicacnaaDoorOpen3
namespace Go.Proofs.YtneanannicacnaaDoor
open Go.RowKit Go.Han Go.ChangeShapes Go.WideShapes Go.ChangeAt Go.Deep
set_option maxRecDepth 100000
section
variable {H : Type} {enc : TypeId × Value → H} {w : World} {base : Nat} {spare : Nat → Bool} {held : Bool}
theorem open_termsc {fuel : Nat} {cs : List Value} {x : DataW H × List MemPlace} (h : DataW.trod enc Tryd.prog w 0 spare held fuel 48 cs = some x) :
    ∃ (A : Option Addr) (cp : Nat) (l : List Term), cs = [.slice A l.length cp] ∧ TermsAt w A l ∧ (A = none → l = []) ∧ l.length ≤ maxLen ∧ l.length ≤ cp ∧ cp ≤ maxLen := by
  obtain ⟨A, cp, l, rfl, hr, hn, hm, hl, hc, hR⟩ := open_rows2 Term.cells 8 ⟨0, 0, 0, 0, ⟨none, 0, []⟩, ⟨none, 0, []⟩, ⟨#[]⟩, false⟩ Tryd.underlying48 (by kernel_rfl) (by decide) Term.size_cells (fun y => y.lies w) (fun _ _ _ h => trod_term h) h
  exact ⟨A, cp, l, rfl, ⟨hr, hR⟩, hn, hm, hl, hc⟩
end
end Go.Proofs.YtneanannicacnaaDoor
