/-
  DERIVED. GIVEN WITH THE SEED: THE CARDS: each row of YtmindojbkedmlaaDoorRows.lean that lists a variable, with what it lists TIED to the program's text (the seventh form; the later family's looks); each row that meets fmt, with fmt's text TOLD by the authors' own Lean function (tested against real Go, not proved from fmt's source: count such statements apart). THE CARD IS WHAT COUNTS. Prove the row's statement (the work); the ties are given (YtmindojbkedmlaaDoorTie.lean); close each card by the builder's one call (the guide's Derived/Test/ToyasCard.lean, 'card_holds'). Laid BY PROGRAM, IN A SANDBOX (cutbox-door.mjs). By AI agents, Wed Nov 11 2026. No macro, syntax, notation, axiom, sorry.
-/
import Derived.Test.YtmindojbkedmlaaDoorRows
import GoSem.ClaimSeven
namespace Go.Proofs.YtmindojbkedmlaaDoor
namespace Rows

/-- THE TIED CARD OF 'hansardlaw34.ChangesSpec'. -/
def changesSpecCard : Claim7 := { stood := { row := changesSpecRow, standIns := [], harness := (true, "0f5ae192745ffca593a29e6f88c729dee16bc974b3d4c7a5938d0c073e0f448b"), looks := true }, kinds := [], alts := [], laidByText := true, laidKinds := [.data, .pinned], laidTests := true, laidLooks := .later }
def ChangesSpecCardSaid : Prop := Claim7.holds Tryd.pinned (.plain (OpenSpec.ofChange changesSpecSpec)) changesSpecCard

/-- THE TIED CARD OF 'hansardlaw34.ChangesDiffSpec'. -/
def changesDiffSpecCard : Claim7 := { stood := { row := changesDiffSpecRow, standIns := [], harness := (true, "0f5ae192745ffca593a29e6f88c729dee16bc974b3d4c7a5938d0c073e0f448b"), looks := true }, kinds := [], alts := [], laidByText := true, laidKinds := [.data, .pinned], laidTests := true, laidLooks := .later }
def ChangesDiffSpecCardSaid : Prop := Claim7.holds Tryd.pinned (.plain (OpenSpec.ofChange changesDiffSpecSpec)) changesDiffSpecCard

/-- THE TIED CARD OF 'hansardlaw34.ChangesThere'. -/
def changesThereCard : Claim7 := { stood := { row := changesThereRow, standIns := [], harness := (true, "0f5ae192745ffca593a29e6f88c729dee16bc974b3d4c7a5938d0c073e0f448b"), looks := true }, kinds := [], alts := [], laidByText := true, laidKinds := [.data, .pinned], laidTests := true, laidLooks := .later }
def ChangesThereCardSaid : Prop := Claim7.holds Tryd.pinned (.plain (OpenSpec.ofChange changesThereSpec)) changesThereCard

/-- THE TIED CARD OF 'hansardlaw34.ChangesMade'. -/
def changesMadeCard : Claim7 := { stood := { row := changesMadeRow, standIns := [], harness := (true, "0f5ae192745ffca593a29e6f88c729dee16bc974b3d4c7a5938d0c073e0f448b"), looks := true }, kinds := [], alts := [], laidByText := true, laidKinds := [.data, .pinned], laidTests := true, laidLooks := .later }
def ChangesMadeCardSaid : Prop := Claim7.holds Tryd.pinned (.plain (OpenSpec.ofChange changesMadeSpec)) changesMadeCard

/-- THE SECOND FORM's CARD OF 'hansardlaw34.ChangesSpec'. -/
def changesSpecUptoCard : Claim7 := { stood := { row := changesSpecUptoRow, standIns := [], harness := (true, "0f5ae192745ffca593a29e6f88c729dee16bc974b3d4c7a5938d0c073e0f448b"), looks := true }, kinds := [], alts := [], laidByText := true, laidKinds := [.data, .pinned], laidTests := true, laidLooks := .later }
def ChangesSpecUptoCardSaid : Prop := Claim7.holds Tryd.pinned (.plain (OpenSpec.upto changesSpecSpec)) changesSpecUptoCard

/-- THE SECOND FORM's CARD OF 'hansardlaw34.ChangesDiffSpec'. -/
def changesDiffSpecUptoCard : Claim7 := { stood := { row := changesDiffSpecUptoRow, standIns := [], harness := (true, "0f5ae192745ffca593a29e6f88c729dee16bc974b3d4c7a5938d0c073e0f448b"), looks := true }, kinds := [], alts := [], laidByText := true, laidKinds := [.data, .pinned], laidTests := true, laidLooks := .later }
def ChangesDiffSpecUptoCardSaid : Prop := Claim7.holds Tryd.pinned (.plain (OpenSpec.upto changesDiffSpecSpec)) changesDiffSpecUptoCard

/-- THE SECOND FORM's CARD OF 'hansardlaw34.ChangesThere'. -/
def changesThereUptoCard : Claim7 := { stood := { row := changesThereUptoRow, standIns := [], harness := (true, "0f5ae192745ffca593a29e6f88c729dee16bc974b3d4c7a5938d0c073e0f448b"), looks := true }, kinds := [], alts := [], laidByText := true, laidKinds := [.data, .pinned], laidTests := true, laidLooks := .later }
def ChangesThereUptoCardSaid : Prop := Claim7.holds Tryd.pinned (.plain (OpenSpec.upto changesThereSpec)) changesThereUptoCard

/-- THE SECOND FORM's CARD OF 'hansardlaw34.ChangesMade'. -/
def changesMadeUptoCard : Claim7 := { stood := { row := changesMadeUptoRow, standIns := [], harness := (true, "0f5ae192745ffca593a29e6f88c729dee16bc974b3d4c7a5938d0c073e0f448b"), looks := true }, kinds := [], alts := [], laidByText := true, laidKinds := [.data, .pinned], laidTests := true, laidLooks := .later }
def ChangesMadeUptoCardSaid : Prop := Claim7.holds Tryd.pinned (.plain (OpenSpec.upto changesMadeSpec)) changesMadeUptoCard
end Rows
end Go.Proofs.YtmindojbkedmlaaDoor
