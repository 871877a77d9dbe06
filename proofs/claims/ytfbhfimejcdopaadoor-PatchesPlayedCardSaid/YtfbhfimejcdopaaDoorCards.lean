/-
  DERIVED. GIVEN WITH THE SEED: THE CARDS: each row of YtfbhfimejcdopaaDoorRows.lean that lists a variable, with what it lists TIED to the program's text (the seventh form; the later family's looks); each row that meets fmt, with fmt's text TOLD by the authors' own Lean function (tested against real Go, not proved from fmt's source: count such statements apart). THE CARD IS WHAT COUNTS. Prove the row's statement (the work); the ties are given (YtfbhfimejcdopaaDoorTie.lean); close each card by the builder's one call (the guide's Derived/Test/ToyasCard.lean, 'card_holds'). Laid BY PROGRAM, IN A SANDBOX (cutbox-door.mjs). By AI agents, Wed Nov 11 2026. No macro, syntax, notation, axiom, sorry.
-/
import Derived.Test.YtfbhfimejcdopaaDoorRows
import GoSem.ClaimSeven
namespace Go.Proofs.YtfbhfimejcdopaaDoor
namespace Rows

/-- THE TIED CARD OF 'hansardlaw34.ChangesSpec'. -/
def changesSpecCard : Claim7 := { stood := { row := changesSpecRow, standIns := [], harness := (true, "747dfdeab4891a8d1b589ecffabd794814266b92f128e9c1d9158d03aeb55e17"), looks := true }, kinds := [], alts := [], laidByText := true, laidKinds := [.data, .pinned], laidTests := true, laidLooks := .later }
def ChangesSpecCardSaid : Prop := Claim7.holds Tryd.pinned (.plain (OpenSpec.ofChange changesSpecSpec)) changesSpecCard

/-- THE TIED CARD OF 'hansardlaw34.ChangesDiffSpec'. -/
def changesDiffSpecCard : Claim7 := { stood := { row := changesDiffSpecRow, standIns := [], harness := (true, "747dfdeab4891a8d1b589ecffabd794814266b92f128e9c1d9158d03aeb55e17"), looks := true }, kinds := [], alts := [], laidByText := true, laidKinds := [.data, .pinned], laidTests := true, laidLooks := .later }
def ChangesDiffSpecCardSaid : Prop := Claim7.holds Tryd.pinned (.plain (OpenSpec.ofChange changesDiffSpecSpec)) changesDiffSpecCard

/-- THE TIED CARD OF 'hansardlaw34.ChangesThere'. -/
def changesThereCard : Claim7 := { stood := { row := changesThereRow, standIns := [], harness := (true, "747dfdeab4891a8d1b589ecffabd794814266b92f128e9c1d9158d03aeb55e17"), looks := true }, kinds := [], alts := [], laidByText := true, laidKinds := [.data, .pinned], laidTests := true, laidLooks := .later }
def ChangesThereCardSaid : Prop := Claim7.holds Tryd.pinned (.plain (OpenSpec.ofChange changesThereSpec)) changesThereCard

/-- THE TIED CARD OF 'hansardlaw34.ChangesMade'. -/
def changesMadeCard : Claim7 := { stood := { row := changesMadeRow, standIns := [], harness := (true, "747dfdeab4891a8d1b589ecffabd794814266b92f128e9c1d9158d03aeb55e17"), looks := true }, kinds := [], alts := [], laidByText := true, laidKinds := [.data, .pinned], laidTests := true, laidLooks := .later }
def ChangesMadeCardSaid : Prop := Claim7.holds Tryd.pinned (.plain (OpenSpec.ofChange changesMadeSpec)) changesMadeCard

/-- THE TIED CARD OF 'hansardlaw51.PatchesThere'. -/
def patchesThereCard : Claim7 := { stood := { row := patchesThereRow, standIns := [], harness := (true, "747dfdeab4891a8d1b589ecffabd794814266b92f128e9c1d9158d03aeb55e17"), looks := true }, kinds := [], alts := [], laidByText := true, laidKinds := [.data, .pinned], laidTests := true, laidLooks := .later }
def PatchesThereCardSaid : Prop := Claim7.holds Tryd.pinned (.plain (OpenSpec.ofChange patchesThereSpec)) patchesThereCard

/-- THE TIED CARD OF 'hansardlaw51.PatchesThen'. -/
def patchesThenCard : Claim7 := { stood := { row := patchesThenRow, standIns := [], harness := (true, "747dfdeab4891a8d1b589ecffabd794814266b92f128e9c1d9158d03aeb55e17"), looks := true }, kinds := [], alts := [], laidByText := true, laidKinds := [.data, .pinned], laidTests := true, laidLooks := .later }
def PatchesThenCardSaid : Prop := Claim7.holds Tryd.pinned (.plain (OpenSpec.ofChange patchesThenSpec)) patchesThenCard

/-- THE TIED CARD OF 'hansardlaw51.PatchesTurned'. -/
def patchesTurnedCard : Claim7 := { stood := { row := patchesTurnedRow, standIns := [], harness := (true, "747dfdeab4891a8d1b589ecffabd794814266b92f128e9c1d9158d03aeb55e17"), looks := true }, kinds := [], alts := [], laidByText := true, laidKinds := [.data, .pinned], laidTests := true, laidLooks := .later }
def PatchesTurnedCardSaid : Prop := Claim7.holds Tryd.pinned (.plain (OpenSpec.ofChange patchesTurnedSpec)) patchesTurnedCard

/-- THE TIED CARD OF 'hansardlaw51.PatchesPlayed'. -/
def patchesPlayedCard : Claim7 := { stood := { row := patchesPlayedRow, standIns := [], harness := (true, "747dfdeab4891a8d1b589ecffabd794814266b92f128e9c1d9158d03aeb55e17"), looks := true }, kinds := [], alts := [], laidByText := true, laidKinds := [.data, .pinned], laidTests := true, laidLooks := .later }
def PatchesPlayedCardSaid : Prop := Claim7.holds Tryd.pinned (.plain (OpenSpec.ofChange patchesPlayedSpec)) patchesPlayedCard

/-- THE SECOND FORM's CARD OF 'hansardlaw34.ChangesSpec'. -/
def changesSpecUptoCard : Claim7 := { stood := { row := changesSpecUptoRow, standIns := [], harness := (true, "747dfdeab4891a8d1b589ecffabd794814266b92f128e9c1d9158d03aeb55e17"), looks := true }, kinds := [], alts := [], laidByText := true, laidKinds := [.data, .pinned], laidTests := true, laidLooks := .later }
def ChangesSpecUptoCardSaid : Prop := Claim7.holds Tryd.pinned (.plain (OpenSpec.upto changesSpecSpec)) changesSpecUptoCard

/-- THE SECOND FORM's CARD OF 'hansardlaw34.ChangesDiffSpec'. -/
def changesDiffSpecUptoCard : Claim7 := { stood := { row := changesDiffSpecUptoRow, standIns := [], harness := (true, "747dfdeab4891a8d1b589ecffabd794814266b92f128e9c1d9158d03aeb55e17"), looks := true }, kinds := [], alts := [], laidByText := true, laidKinds := [.data, .pinned], laidTests := true, laidLooks := .later }
def ChangesDiffSpecUptoCardSaid : Prop := Claim7.holds Tryd.pinned (.plain (OpenSpec.upto changesDiffSpecSpec)) changesDiffSpecUptoCard

/-- THE SECOND FORM's CARD OF 'hansardlaw34.ChangesThere'. -/
def changesThereUptoCard : Claim7 := { stood := { row := changesThereUptoRow, standIns := [], harness := (true, "747dfdeab4891a8d1b589ecffabd794814266b92f128e9c1d9158d03aeb55e17"), looks := true }, kinds := [], alts := [], laidByText := true, laidKinds := [.data, .pinned], laidTests := true, laidLooks := .later }
def ChangesThereUptoCardSaid : Prop := Claim7.holds Tryd.pinned (.plain (OpenSpec.upto changesThereSpec)) changesThereUptoCard

/-- THE SECOND FORM's CARD OF 'hansardlaw34.ChangesMade'. -/
def changesMadeUptoCard : Claim7 := { stood := { row := changesMadeUptoRow, standIns := [], harness := (true, "747dfdeab4891a8d1b589ecffabd794814266b92f128e9c1d9158d03aeb55e17"), looks := true }, kinds := [], alts := [], laidByText := true, laidKinds := [.data, .pinned], laidTests := true, laidLooks := .later }
def ChangesMadeUptoCardSaid : Prop := Claim7.holds Tryd.pinned (.plain (OpenSpec.upto changesMadeSpec)) changesMadeUptoCard

/-- THE SECOND FORM's CARD OF 'hansardlaw51.PatchesThere'. -/
def patchesThereUptoCard : Claim7 := { stood := { row := patchesThereUptoRow, standIns := [], harness := (true, "747dfdeab4891a8d1b589ecffabd794814266b92f128e9c1d9158d03aeb55e17"), looks := true }, kinds := [], alts := [], laidByText := true, laidKinds := [.data, .pinned], laidTests := true, laidLooks := .later }
def PatchesThereUptoCardSaid : Prop := Claim7.holds Tryd.pinned (.plain (OpenSpec.upto patchesThereSpec)) patchesThereUptoCard

/-- THE SECOND FORM's CARD OF 'hansardlaw51.PatchesThen'. -/
def patchesThenUptoCard : Claim7 := { stood := { row := patchesThenUptoRow, standIns := [], harness := (true, "747dfdeab4891a8d1b589ecffabd794814266b92f128e9c1d9158d03aeb55e17"), looks := true }, kinds := [], alts := [], laidByText := true, laidKinds := [.data, .pinned], laidTests := true, laidLooks := .later }
def PatchesThenUptoCardSaid : Prop := Claim7.holds Tryd.pinned (.plain (OpenSpec.upto patchesThenSpec)) patchesThenUptoCard

/-- THE SECOND FORM's CARD OF 'hansardlaw51.PatchesTurned'. -/
def patchesTurnedUptoCard : Claim7 := { stood := { row := patchesTurnedUptoRow, standIns := [], harness := (true, "747dfdeab4891a8d1b589ecffabd794814266b92f128e9c1d9158d03aeb55e17"), looks := true }, kinds := [], alts := [], laidByText := true, laidKinds := [.data, .pinned], laidTests := true, laidLooks := .later }
def PatchesTurnedUptoCardSaid : Prop := Claim7.holds Tryd.pinned (.plain (OpenSpec.upto patchesTurnedSpec)) patchesTurnedUptoCard

/-- THE SECOND FORM's CARD OF 'hansardlaw51.PatchesPlayed'. -/
def patchesPlayedUptoCard : Claim7 := { stood := { row := patchesPlayedUptoRow, standIns := [], harness := (true, "747dfdeab4891a8d1b589ecffabd794814266b92f128e9c1d9158d03aeb55e17"), looks := true }, kinds := [], alts := [], laidByText := true, laidKinds := [.data, .pinned], laidTests := true, laidLooks := .later }
def PatchesPlayedUptoCardSaid : Prop := Claim7.holds Tryd.pinned (.plain (OpenSpec.upto patchesPlayedSpec)) patchesPlayedUptoCard
end Rows
end Go.Proofs.YtfbhfimejcdopaaDoor
