/-
  DERIVED. GIVEN WITH THE SEED: THE CARDS: each row of YtfbhfimejcdopaaGreatDoorRows.lean that lists a variable, with what it lists TIED to the program's text (the seventh form; the later family's looks); each row that meets fmt, with fmt's text TOLD by the authors' own Lean function (tested against real Go, not proved from fmt's source: count such statements apart). THE CARD IS WHAT COUNTS. Prove the row's statement (the work); the ties are given (YtfbhfimejcdopaaGreatDoorTie.lean); close each card by the builder's one call (the guide's Derived/Test/ToyasCard.lean, 'card_holds'). Laid BY PROGRAM, IN A SANDBOX (cutbox-door.mjs). By AI agents, Wed Nov 11 2026. No macro, syntax, notation, axiom, sorry.
-/
import Derived.Test.YtfbhfimejcdopaaGreatDoorRows
import GoSem.ClaimSeven
namespace Go.Proofs.YtfbhfimejcdopaaGreatDoor
namespace Rows

/-- THE TIED CARD OF 'hansardlaw51.PatchesSpec'. -/
def patchesSpecCard : Claim7 := { stood := { row := patchesSpecRow, standIns := [], harness := (true, "b7f26843b54ee2cbe47bef4572a8e81c03137d409a9f8f71849bd5bfd1078856"), looks := true }, kinds := [], alts := [], laidByText := true, laidKinds := [.data, .pinned], laidTests := true, laidLooks := .later }
def PatchesSpecCardSaid : Prop := Claim7.holds Tryz.pinned (.plain (OpenSpec.ofChange patchesSpecSpec)) patchesSpecCard

/-- THE TIED CARD OF 'hansardlaw51.PatchesApplySpec'. -/
def patchesApplySpecCard : Claim7 := { stood := { row := patchesApplySpecRow, standIns := [], harness := (true, "b7f26843b54ee2cbe47bef4572a8e81c03137d409a9f8f71849bd5bfd1078856"), looks := true }, kinds := [], alts := [], laidByText := true, laidKinds := [.data, .pinned], laidTests := true, laidLooks := .later }
def PatchesApplySpecCardSaid : Prop := Claim7.holds Tryz.pinned (.plain (OpenSpec.ofChange patchesApplySpecSpec)) patchesApplySpecCard

/-- THE SECOND FORM's CARD OF 'hansardlaw51.PatchesSpec'. -/
def patchesSpecUptoCard : Claim7 := { stood := { row := patchesSpecUptoRow, standIns := [], harness := (true, "b7f26843b54ee2cbe47bef4572a8e81c03137d409a9f8f71849bd5bfd1078856"), looks := true }, kinds := [], alts := [], laidByText := true, laidKinds := [.data, .pinned], laidTests := true, laidLooks := .later }
def PatchesSpecUptoCardSaid : Prop := Claim7.holds Tryz.pinned (.plain (OpenSpec.upto patchesSpecSpec)) patchesSpecUptoCard

/-- THE SECOND FORM's CARD OF 'hansardlaw51.PatchesApplySpec'. -/
def patchesApplySpecUptoCard : Claim7 := { stood := { row := patchesApplySpecUptoRow, standIns := [], harness := (true, "b7f26843b54ee2cbe47bef4572a8e81c03137d409a9f8f71849bd5bfd1078856"), looks := true }, kinds := [], alts := [], laidByText := true, laidKinds := [.data, .pinned], laidTests := true, laidLooks := .later }
def PatchesApplySpecUptoCardSaid : Prop := Claim7.holds Tryz.pinned (.plain (OpenSpec.upto patchesApplySpecSpec)) patchesApplySpecUptoCard
end Rows
end Go.Proofs.YtfbhfimejcdopaaGreatDoor
