/-
  DERIVED. GIVEN WITH THE SEED: THE CARDS: each row of YtneanannicacnaaDoorRows.lean that lists a variable, with what it lists TIED to the program's text (the seventh form; the later family's looks); each row that meets fmt, with fmt's text TOLD by the authors' own Lean function (tested against real Go, not proved from fmt's source: count such statements apart). THE CARD IS WHAT COUNTS. Prove the row's statement (the work); the ties are given (YtneanannicacnaaDoorTie.lean); close each card by the builder's one call (the guide's Derived/Test/ToyasCard.lean, 'card_holds'). Laid BY PROGRAM, IN A SANDBOX (cutbox-door.mjs). By AI agents, Wed Nov 11 2026. No macro, syntax, notation, axiom, sorry.
-/
import Derived.Test.YtneanannicacnaaDoorRows
import GoSem.ClaimSeven
namespace Go.Proofs.YtneanannicacnaaDoor
namespace Rows

/-- THE TIED CARD OF 'hansardlaw49.DisplaySpec'. -/
def displaySpecCard : Claim7 := { stood := { row := displaySpecRow, standIns := [], harness := (true, "7938b59571ee72207ed0614b0955c6d6fa5104d34e43f7cb9935f3e7b387163f"), looks := true }, kinds := [], alts := [], laidByText := true, laidKinds := [.data, .pinned], laidTests := true, laidLooks := .later }
def DisplaySpecCardSaid : Prop := Claim7.holds Tryd.pinned (.plain (OpenSpec.ofChange displaySpecSpec)) displaySpecCard

/-- THE TIED CARD OF 'hansardlaw49.DisplayPlaySpec'. -/
def displayPlaySpecCard : Claim7 := { stood := { row := displayPlaySpecRow, standIns := [], harness := (true, "7938b59571ee72207ed0614b0955c6d6fa5104d34e43f7cb9935f3e7b387163f"), looks := true }, kinds := [], alts := [], laidByText := true, laidKinds := [.data, .pinned], laidTests := true, laidLooks := .later }
def DisplayPlaySpecCardSaid : Prop := Claim7.holds Tryd.pinned (.plain (OpenSpec.ofChange displayPlaySpecSpec)) displayPlaySpecCard

/-- THE TIED CARD OF 'hansardlaw49.DisplayWords'. -/
def displayWordsCard : Claim7 := { stood := { row := displayWordsRow, standIns := [], harness := (true, "7938b59571ee72207ed0614b0955c6d6fa5104d34e43f7cb9935f3e7b387163f"), looks := true }, kinds := [], alts := [], laidByText := true, laidKinds := [.data, .pinned], laidTests := true, laidLooks := .later }
def DisplayWordsCardSaid : Prop := Claim7.holds Tryd.pinned (.plain (OpenSpec.ofChange displayWordsSpec)) displayWordsCard

/-- THE TIED CARD OF 'hansardlaw49.DisplayLater'. -/
def displayLaterCard : Claim7 := { stood := { row := displayLaterRow, standIns := [], harness := (true, "7938b59571ee72207ed0614b0955c6d6fa5104d34e43f7cb9935f3e7b387163f"), looks := true }, kinds := [], alts := [], laidByText := true, laidKinds := [.data, .pinned], laidTests := true, laidLooks := .later }
def DisplayLaterCardSaid : Prop := Claim7.holds Tryd.pinned (.plain (OpenSpec.ofChange displayLaterSpec)) displayLaterCard

/-- THE TIED CARD OF 'hansardlaw49.DisplayBack'. -/
def displayBackCard : Claim7 := { stood := { row := displayBackRow, standIns := [], harness := (true, "7938b59571ee72207ed0614b0955c6d6fa5104d34e43f7cb9935f3e7b387163f"), looks := true }, kinds := [], alts := [], laidByText := true, laidKinds := [.data, .pinned], laidTests := true, laidLooks := .later }
def DisplayBackCardSaid : Prop := Claim7.holds Tryd.pinned (.plain (OpenSpec.ofChange displayBackSpec)) displayBackCard

/-- THE TIED CARD OF 'hansardlaw49.DisplayApart'. -/
def displayApartCard : Claim7 := { stood := { row := displayApartRow, standIns := [], harness := (true, "7938b59571ee72207ed0614b0955c6d6fa5104d34e43f7cb9935f3e7b387163f"), looks := true }, kinds := [], alts := [], laidByText := true, laidKinds := [.data, .pinned], laidTests := true, laidLooks := .later }
def DisplayApartCardSaid : Prop := Claim7.holds Tryd.pinned (.plain (OpenSpec.ofChange displayApartSpec)) displayApartCard

/-- THE TIED CARD OF 'hansardlaw27.GlossarySpec'. -/
def glossarySpecCard : Claim7 := { stood := { row := glossarySpecRow, standIns := [], harness := (true, "7938b59571ee72207ed0614b0955c6d6fa5104d34e43f7cb9935f3e7b387163f"), looks := true }, kinds := [], alts := [], laidByText := true, laidKinds := [.data, .pinned], laidTests := true, laidLooks := .later }
def GlossarySpecCardSaid : Prop := Claim7.holds Tryd.pinned (.plain (OpenSpec.ofChange glossarySpecSpec)) glossarySpecCard

/-- THE TIED CARD OF 'hansardlaw27.GlossaryFindSpec'. -/
def glossaryFindSpecCard : Claim7 := { stood := { row := glossaryFindSpecRow, standIns := [], harness := (true, "7938b59571ee72207ed0614b0955c6d6fa5104d34e43f7cb9935f3e7b387163f"), looks := true }, kinds := [], alts := [], laidByText := true, laidKinds := [.data, .pinned], laidTests := true, laidLooks := .later }
def GlossaryFindSpecCardSaid : Prop := Claim7.holds Tryd.pinned (.plain (OpenSpec.ofChange glossaryFindSpecSpec)) glossaryFindSpecCard

/-- THE TIED CARD OF 'hansardlaw27.GlossaryOne'. -/
def glossaryOneCard : Claim7 := { stood := { row := glossaryOneRow, standIns := [], harness := (true, "7938b59571ee72207ed0614b0955c6d6fa5104d34e43f7cb9935f3e7b387163f"), looks := true }, kinds := [], alts := [], laidByText := true, laidKinds := [.data, .pinned], laidTests := true, laidLooks := .later }
def GlossaryOneCardSaid : Prop := Claim7.holds Tryd.pinned (.plain (OpenSpec.ofChange glossaryOneSpec)) glossaryOneCard

/-- THE TIED CARD OF 'hansardlaw27.GlossaryLater'. -/
def glossaryLaterCard : Claim7 := { stood := { row := glossaryLaterRow, standIns := [], harness := (true, "7938b59571ee72207ed0614b0955c6d6fa5104d34e43f7cb9935f3e7b387163f"), looks := true }, kinds := [], alts := [], laidByText := true, laidKinds := [.data, .pinned], laidTests := true, laidLooks := .later }
def GlossaryLaterCardSaid : Prop := Claim7.holds Tryd.pinned (.plain (OpenSpec.ofChange glossaryLaterSpec)) glossaryLaterCard

/-- THE TIED CARD OF 'hansardlaw27.GlossaryAdded'. -/
def glossaryAddedCard : Claim7 := { stood := { row := glossaryAddedRow, standIns := [], harness := (true, "7938b59571ee72207ed0614b0955c6d6fa5104d34e43f7cb9935f3e7b387163f"), looks := true }, kinds := [], alts := [], laidByText := true, laidKinds := [.data, .pinned], laidTests := true, laidLooks := .later }
def GlossaryAddedCardSaid : Prop := Claim7.holds Tryd.pinned (.plain (OpenSpec.ofChange glossaryAddedSpec)) glossaryAddedCard

/-- THE TIED CARD OF 'hansardlaw27.GlossaryLongest'. -/
def glossaryLongestCard : Claim7 := { stood := { row := glossaryLongestRow, standIns := [], harness := (true, "7938b59571ee72207ed0614b0955c6d6fa5104d34e43f7cb9935f3e7b387163f"), looks := true }, kinds := [], alts := [], laidByText := true, laidKinds := [.data, .pinned], laidTests := true, laidLooks := .later }
def GlossaryLongestCardSaid : Prop := Claim7.holds Tryd.pinned (.plain (OpenSpec.ofChange glossaryLongestSpec)) glossaryLongestCard

/-- THE SECOND FORM's CARD OF 'hansardlaw49.DisplaySpec'. -/
def displaySpecUptoCard : Claim7 := { stood := { row := displaySpecUptoRow, standIns := [], harness := (true, "7938b59571ee72207ed0614b0955c6d6fa5104d34e43f7cb9935f3e7b387163f"), looks := true }, kinds := [], alts := [], laidByText := true, laidKinds := [.data, .pinned], laidTests := true, laidLooks := .later }
def DisplaySpecUptoCardSaid : Prop := Claim7.holds Tryd.pinned (.plain (OpenSpec.upto displaySpecSpec)) displaySpecUptoCard

/-- THE SECOND FORM's CARD OF 'hansardlaw49.DisplayPlaySpec'. -/
def displayPlaySpecUptoCard : Claim7 := { stood := { row := displayPlaySpecUptoRow, standIns := [], harness := (true, "7938b59571ee72207ed0614b0955c6d6fa5104d34e43f7cb9935f3e7b387163f"), looks := true }, kinds := [], alts := [], laidByText := true, laidKinds := [.data, .pinned], laidTests := true, laidLooks := .later }
def DisplayPlaySpecUptoCardSaid : Prop := Claim7.holds Tryd.pinned (.plain (OpenSpec.upto displayPlaySpecSpec)) displayPlaySpecUptoCard

/-- THE SECOND FORM's CARD OF 'hansardlaw49.DisplayWords'. -/
def displayWordsUptoCard : Claim7 := { stood := { row := displayWordsUptoRow, standIns := [], harness := (true, "7938b59571ee72207ed0614b0955c6d6fa5104d34e43f7cb9935f3e7b387163f"), looks := true }, kinds := [], alts := [], laidByText := true, laidKinds := [.data, .pinned], laidTests := true, laidLooks := .later }
def DisplayWordsUptoCardSaid : Prop := Claim7.holds Tryd.pinned (.plain (OpenSpec.upto displayWordsSpec)) displayWordsUptoCard

/-- THE SECOND FORM's CARD OF 'hansardlaw49.DisplayLater'. -/
def displayLaterUptoCard : Claim7 := { stood := { row := displayLaterUptoRow, standIns := [], harness := (true, "7938b59571ee72207ed0614b0955c6d6fa5104d34e43f7cb9935f3e7b387163f"), looks := true }, kinds := [], alts := [], laidByText := true, laidKinds := [.data, .pinned], laidTests := true, laidLooks := .later }
def DisplayLaterUptoCardSaid : Prop := Claim7.holds Tryd.pinned (.plain (OpenSpec.upto displayLaterSpec)) displayLaterUptoCard

/-- THE SECOND FORM's CARD OF 'hansardlaw49.DisplayBack'. -/
def displayBackUptoCard : Claim7 := { stood := { row := displayBackUptoRow, standIns := [], harness := (true, "7938b59571ee72207ed0614b0955c6d6fa5104d34e43f7cb9935f3e7b387163f"), looks := true }, kinds := [], alts := [], laidByText := true, laidKinds := [.data, .pinned], laidTests := true, laidLooks := .later }
def DisplayBackUptoCardSaid : Prop := Claim7.holds Tryd.pinned (.plain (OpenSpec.upto displayBackSpec)) displayBackUptoCard

/-- THE SECOND FORM's CARD OF 'hansardlaw49.DisplayApart'. -/
def displayApartUptoCard : Claim7 := { stood := { row := displayApartUptoRow, standIns := [], harness := (true, "7938b59571ee72207ed0614b0955c6d6fa5104d34e43f7cb9935f3e7b387163f"), looks := true }, kinds := [], alts := [], laidByText := true, laidKinds := [.data, .pinned], laidTests := true, laidLooks := .later }
def DisplayApartUptoCardSaid : Prop := Claim7.holds Tryd.pinned (.plain (OpenSpec.upto displayApartSpec)) displayApartUptoCard

/-- THE SECOND FORM's CARD OF 'hansardlaw27.GlossarySpec'. -/
def glossarySpecUptoCard : Claim7 := { stood := { row := glossarySpecUptoRow, standIns := [], harness := (true, "7938b59571ee72207ed0614b0955c6d6fa5104d34e43f7cb9935f3e7b387163f"), looks := true }, kinds := [], alts := [], laidByText := true, laidKinds := [.data, .pinned], laidTests := true, laidLooks := .later }
def GlossarySpecUptoCardSaid : Prop := Claim7.holds Tryd.pinned (.plain (OpenSpec.upto glossarySpecSpec)) glossarySpecUptoCard

/-- THE SECOND FORM's CARD OF 'hansardlaw27.GlossaryFindSpec'. -/
def glossaryFindSpecUptoCard : Claim7 := { stood := { row := glossaryFindSpecUptoRow, standIns := [], harness := (true, "7938b59571ee72207ed0614b0955c6d6fa5104d34e43f7cb9935f3e7b387163f"), looks := true }, kinds := [], alts := [], laidByText := true, laidKinds := [.data, .pinned], laidTests := true, laidLooks := .later }
def GlossaryFindSpecUptoCardSaid : Prop := Claim7.holds Tryd.pinned (.plain (OpenSpec.upto glossaryFindSpecSpec)) glossaryFindSpecUptoCard

/-- THE SECOND FORM's CARD OF 'hansardlaw27.GlossaryOne'. -/
def glossaryOneUptoCard : Claim7 := { stood := { row := glossaryOneUptoRow, standIns := [], harness := (true, "7938b59571ee72207ed0614b0955c6d6fa5104d34e43f7cb9935f3e7b387163f"), looks := true }, kinds := [], alts := [], laidByText := true, laidKinds := [.data, .pinned], laidTests := true, laidLooks := .later }
def GlossaryOneUptoCardSaid : Prop := Claim7.holds Tryd.pinned (.plain (OpenSpec.upto glossaryOneSpec)) glossaryOneUptoCard

/-- THE SECOND FORM's CARD OF 'hansardlaw27.GlossaryLater'. -/
def glossaryLaterUptoCard : Claim7 := { stood := { row := glossaryLaterUptoRow, standIns := [], harness := (true, "7938b59571ee72207ed0614b0955c6d6fa5104d34e43f7cb9935f3e7b387163f"), looks := true }, kinds := [], alts := [], laidByText := true, laidKinds := [.data, .pinned], laidTests := true, laidLooks := .later }
def GlossaryLaterUptoCardSaid : Prop := Claim7.holds Tryd.pinned (.plain (OpenSpec.upto glossaryLaterSpec)) glossaryLaterUptoCard

/-- THE SECOND FORM's CARD OF 'hansardlaw27.GlossaryAdded'. -/
def glossaryAddedUptoCard : Claim7 := { stood := { row := glossaryAddedUptoRow, standIns := [], harness := (true, "7938b59571ee72207ed0614b0955c6d6fa5104d34e43f7cb9935f3e7b387163f"), looks := true }, kinds := [], alts := [], laidByText := true, laidKinds := [.data, .pinned], laidTests := true, laidLooks := .later }
def GlossaryAddedUptoCardSaid : Prop := Claim7.holds Tryd.pinned (.plain (OpenSpec.upto glossaryAddedSpec)) glossaryAddedUptoCard

/-- THE SECOND FORM's CARD OF 'hansardlaw27.GlossaryLongest'. -/
def glossaryLongestUptoCard : Claim7 := { stood := { row := glossaryLongestUptoRow, standIns := [], harness := (true, "7938b59571ee72207ed0614b0955c6d6fa5104d34e43f7cb9935f3e7b387163f"), looks := true }, kinds := [], alts := [], laidByText := true, laidKinds := [.data, .pinned], laidTests := true, laidLooks := .later }
def GlossaryLongestUptoCardSaid : Prop := Claim7.holds Tryd.pinned (.plain (OpenSpec.upto glossaryLongestSpec)) glossaryLongestUptoCard
end Rows
end Go.Proofs.YtneanannicacnaaDoor
