/-
  DERIVED. GIVEN WITH THE SEED: THE CARDS: each row of YthojaplnimoacaaGreatDoorRows.lean that lists a variable, with what it lists TIED to the program's text (the seventh form; the later family's looks); each row that meets fmt, with fmt's text TOLD by the authors' own Lean function (tested against real Go, not proved from fmt's source: count such statements apart). THE CARD IS WHAT COUNTS. Prove the row's statement (the work); the ties are given (YthojaplnimoacaaGreatDoorTie.lean); close each card by the builder's one call (the guide's Derived/Test/ToyasCard.lean, 'card_holds'). Laid BY PROGRAM, IN A SANDBOX (cutbox-door.mjs). By AI agents, Wed Nov 11 2026. No macro, syntax, notation, axiom, sorry.
-/
import Derived.Test.YthojaplnimoacaaGreatDoorRows
import GoSem.ClaimSeven
namespace Go.Proofs.YthojaplnimoacaaGreatDoor
namespace Rows

/-- THE TIED CARD OF 'hansardlaw29.ChartSpec'. -/
def chartSpecCard : Claim7 := { stood := { row := chartSpecRow, standIns := [], harness := (true, "30698be7890dba548eeda11c348ff460acc937c0db29686212c6c56c895cf292"), looks := true }, kinds := [], alts := [], laidByText := true, laidKinds := [.data, .listed, .data, .pinned], laidTests := true, laidLooks := .later }
def ChartSpecCardSaid : Prop := Claim7.holds Tryz.pinned (.plain (OpenSpec.ofChange chartSpecSpec)) chartSpecCard

/-- THE TIED CARD OF 'hansardlaw29.ChartCostSpec'. -/
def chartCostSpecCard : Claim7 := { stood := { row := chartCostSpecRow, standIns := [], harness := (true, "30698be7890dba548eeda11c348ff460acc937c0db29686212c6c56c895cf292"), looks := true }, kinds := [], alts := [], laidByText := true, laidKinds := [.data, .listed, .data, .pinned], laidTests := true, laidLooks := .later }
def ChartCostSpecCardSaid : Prop := Claim7.holds Tryz.pinned (.plain (OpenSpec.ofChange chartCostSpecSpec)) chartCostSpecCard

/-- THE TIED CARD OF 'hansardlaw29.ChartAll'. -/
def chartAllCard : Claim7 := { stood := { row := chartAllRow, standIns := [], harness := (true, "30698be7890dba548eeda11c348ff460acc937c0db29686212c6c56c895cf292"), looks := true }, kinds := [], alts := [], laidByText := true, laidKinds := [.data, .listed, .data, .pinned], laidTests := true, laidLooks := .later }
def ChartAllCardSaid : Prop := Claim7.holds Tryz.pinned (.plain (OpenSpec.ofChange chartAllSpec)) chartAllCard

/-- THE TIED CARD OF 'hansardlaw29.ChartNever'. -/
def chartNeverCard : Claim7 := { stood := { row := chartNeverRow, standIns := [], harness := (true, "30698be7890dba548eeda11c348ff460acc937c0db29686212c6c56c895cf292"), looks := true }, kinds := [], alts := [], laidByText := true, laidKinds := [.data, .listed, .data, .pinned], laidTests := true, laidLooks := .later }
def ChartNeverCardSaid : Prop := Claim7.holds Tryz.pinned (.plain (OpenSpec.ofChange chartNeverSpec)) chartNeverCard

/-- THE TIED CARD OF 'hansardlaw29.ChartMore'. -/
def chartMoreCard : Claim7 := { stood := { row := chartMoreRow, standIns := [], harness := (true, "30698be7890dba548eeda11c348ff460acc937c0db29686212c6c56c895cf292"), looks := true }, kinds := [], alts := [], laidByText := true, laidKinds := [.data, .listed, .data, .pinned], laidTests := true, laidLooks := .later }
def ChartMoreCardSaid : Prop := Claim7.holds Tryz.pinned (.plain (OpenSpec.ofChange chartMoreSpec)) chartMoreCard

/-- THE TIED CARD OF 'hansardlaw29.ChartOrder'. -/
def chartOrderCard : Claim7 := { stood := { row := chartOrderRow, standIns := [], harness := (true, "30698be7890dba548eeda11c348ff460acc937c0db29686212c6c56c895cf292"), looks := true }, kinds := [], alts := [], laidByText := true, laidKinds := [.data, .listed, .data, .pinned], laidTests := true, laidLooks := .later }
def ChartOrderCardSaid : Prop := Claim7.holds Tryz.pinned (.plain (OpenSpec.ofChange chartOrderSpec)) chartOrderCard

/-- THE TIED CARD OF 'hansardlaw29.ChartUnused'. -/
def chartUnusedCard : Claim7 := { stood := { row := chartUnusedRow, standIns := [], harness := (true, "30698be7890dba548eeda11c348ff460acc937c0db29686212c6c56c895cf292"), looks := true }, kinds := [], alts := [], laidByText := true, laidKinds := [.data, .listed, .data, .pinned], laidTests := true, laidLooks := .later }
def ChartUnusedCardSaid : Prop := Claim7.holds Tryz.pinned (.plain (OpenSpec.ofChange chartUnusedSpec)) chartUnusedCard

/-- THE TIED CARD OF 'hansardlaw28.TagsSpec'. -/
def tagsSpecCard : Claim7 := { stood := { row := tagsSpecRow, standIns := [], harness := (true, "30698be7890dba548eeda11c348ff460acc937c0db29686212c6c56c895cf292"), looks := true }, kinds := [], alts := [], laidByText := true, laidKinds := [.data, .listed, .data, .pinned], laidTests := true, laidLooks := .later }
def TagsSpecCardSaid : Prop := Claim7.holds Tryz.pinned (.plain (OpenSpec.ofChange tagsSpecSpec)) tagsSpecCard

/-- THE TIED CARD OF 'hansardlaw28.TagsEach'. -/
def tagsEachCard : Claim7 := { stood := { row := tagsEachRow, standIns := [], harness := (true, "30698be7890dba548eeda11c348ff460acc937c0db29686212c6c56c895cf292"), looks := true }, kinds := [], alts := [], laidByText := true, laidKinds := [.data, .listed, .data, .pinned], laidTests := true, laidLooks := .later }
def TagsEachCardSaid : Prop := Claim7.holds Tryz.pinned (.plain (OpenSpec.ofChange tagsEachSpec)) tagsEachCard

/-- THE TIED CARD OF 'hansardlaw28.TagsFirst'. -/
def tagsFirstCard : Claim7 := { stood := { row := tagsFirstRow, standIns := [], harness := (true, "30698be7890dba548eeda11c348ff460acc937c0db29686212c6c56c895cf292"), looks := true }, kinds := [], alts := [], laidByText := true, laidKinds := [.data, .listed, .data, .pinned], laidTests := true, laidLooks := .later }
def TagsFirstCardSaid : Prop := Claim7.holds Tryz.pinned (.plain (OpenSpec.ofChange tagsFirstSpec)) tagsFirstCard

/-- THE TIED CARD OF 'hansardlaw28.TagsFound'. -/
def tagsFoundCard : Claim7 := { stood := { row := tagsFoundRow, standIns := [], harness := (true, "30698be7890dba548eeda11c348ff460acc937c0db29686212c6c56c895cf292"), looks := true }, kinds := [], alts := [], laidByText := true, laidKinds := [.data, .listed, .data, .pinned], laidTests := true, laidLooks := .later }
def TagsFoundCardSaid : Prop := Claim7.holds Tryz.pinned (.plain (OpenSpec.ofChange tagsFoundSpec)) tagsFoundCard

/-- THE TIED CARD OF 'hansardlaw28.TagsAdded'. -/
def tagsAddedCard : Claim7 := { stood := { row := tagsAddedRow, standIns := [], harness := (true, "30698be7890dba548eeda11c348ff460acc937c0db29686212c6c56c895cf292"), looks := true }, kinds := [], alts := [], laidByText := true, laidKinds := [.data, .listed, .data, .pinned], laidTests := true, laidLooks := .later }
def TagsAddedCardSaid : Prop := Claim7.holds Tryz.pinned (.plain (OpenSpec.ofChange tagsAddedSpec)) tagsAddedCard

/-- THE SECOND FORM's CARD OF 'hansardlaw29.ChartSpec'. -/
def chartSpecUptoCard : Claim7 := { stood := { row := chartSpecUptoRow, standIns := [], harness := (true, "30698be7890dba548eeda11c348ff460acc937c0db29686212c6c56c895cf292"), looks := true }, kinds := [], alts := [], laidByText := true, laidKinds := [.data, .listed, .data, .pinned], laidTests := true, laidLooks := .later }
def ChartSpecUptoCardSaid : Prop := Claim7.holds Tryz.pinned (.plain (OpenSpec.upto chartSpecSpec)) chartSpecUptoCard

/-- THE SECOND FORM's CARD OF 'hansardlaw29.ChartCostSpec'. -/
def chartCostSpecUptoCard : Claim7 := { stood := { row := chartCostSpecUptoRow, standIns := [], harness := (true, "30698be7890dba548eeda11c348ff460acc937c0db29686212c6c56c895cf292"), looks := true }, kinds := [], alts := [], laidByText := true, laidKinds := [.data, .listed, .data, .pinned], laidTests := true, laidLooks := .later }
def ChartCostSpecUptoCardSaid : Prop := Claim7.holds Tryz.pinned (.plain (OpenSpec.upto chartCostSpecSpec)) chartCostSpecUptoCard

/-- THE SECOND FORM's CARD OF 'hansardlaw29.ChartAll'. -/
def chartAllUptoCard : Claim7 := { stood := { row := chartAllUptoRow, standIns := [], harness := (true, "30698be7890dba548eeda11c348ff460acc937c0db29686212c6c56c895cf292"), looks := true }, kinds := [], alts := [], laidByText := true, laidKinds := [.data, .listed, .data, .pinned], laidTests := true, laidLooks := .later }
def ChartAllUptoCardSaid : Prop := Claim7.holds Tryz.pinned (.plain (OpenSpec.upto chartAllSpec)) chartAllUptoCard

/-- THE SECOND FORM's CARD OF 'hansardlaw29.ChartNever'. -/
def chartNeverUptoCard : Claim7 := { stood := { row := chartNeverUptoRow, standIns := [], harness := (true, "30698be7890dba548eeda11c348ff460acc937c0db29686212c6c56c895cf292"), looks := true }, kinds := [], alts := [], laidByText := true, laidKinds := [.data, .listed, .data, .pinned], laidTests := true, laidLooks := .later }
def ChartNeverUptoCardSaid : Prop := Claim7.holds Tryz.pinned (.plain (OpenSpec.upto chartNeverSpec)) chartNeverUptoCard

/-- THE SECOND FORM's CARD OF 'hansardlaw29.ChartMore'. -/
def chartMoreUptoCard : Claim7 := { stood := { row := chartMoreUptoRow, standIns := [], harness := (true, "30698be7890dba548eeda11c348ff460acc937c0db29686212c6c56c895cf292"), looks := true }, kinds := [], alts := [], laidByText := true, laidKinds := [.data, .listed, .data, .pinned], laidTests := true, laidLooks := .later }
def ChartMoreUptoCardSaid : Prop := Claim7.holds Tryz.pinned (.plain (OpenSpec.upto chartMoreSpec)) chartMoreUptoCard

/-- THE SECOND FORM's CARD OF 'hansardlaw29.ChartOrder'. -/
def chartOrderUptoCard : Claim7 := { stood := { row := chartOrderUptoRow, standIns := [], harness := (true, "30698be7890dba548eeda11c348ff460acc937c0db29686212c6c56c895cf292"), looks := true }, kinds := [], alts := [], laidByText := true, laidKinds := [.data, .listed, .data, .pinned], laidTests := true, laidLooks := .later }
def ChartOrderUptoCardSaid : Prop := Claim7.holds Tryz.pinned (.plain (OpenSpec.upto chartOrderSpec)) chartOrderUptoCard

/-- THE SECOND FORM's CARD OF 'hansardlaw29.ChartUnused'. -/
def chartUnusedUptoCard : Claim7 := { stood := { row := chartUnusedUptoRow, standIns := [], harness := (true, "30698be7890dba548eeda11c348ff460acc937c0db29686212c6c56c895cf292"), looks := true }, kinds := [], alts := [], laidByText := true, laidKinds := [.data, .listed, .data, .pinned], laidTests := true, laidLooks := .later }
def ChartUnusedUptoCardSaid : Prop := Claim7.holds Tryz.pinned (.plain (OpenSpec.upto chartUnusedSpec)) chartUnusedUptoCard

/-- THE SECOND FORM's CARD OF 'hansardlaw28.TagsSpec'. -/
def tagsSpecUptoCard : Claim7 := { stood := { row := tagsSpecUptoRow, standIns := [], harness := (true, "30698be7890dba548eeda11c348ff460acc937c0db29686212c6c56c895cf292"), looks := true }, kinds := [], alts := [], laidByText := true, laidKinds := [.data, .listed, .data, .pinned], laidTests := true, laidLooks := .later }
def TagsSpecUptoCardSaid : Prop := Claim7.holds Tryz.pinned (.plain (OpenSpec.upto tagsSpecSpec)) tagsSpecUptoCard

/-- THE SECOND FORM's CARD OF 'hansardlaw28.TagsEach'. -/
def tagsEachUptoCard : Claim7 := { stood := { row := tagsEachUptoRow, standIns := [], harness := (true, "30698be7890dba548eeda11c348ff460acc937c0db29686212c6c56c895cf292"), looks := true }, kinds := [], alts := [], laidByText := true, laidKinds := [.data, .listed, .data, .pinned], laidTests := true, laidLooks := .later }
def TagsEachUptoCardSaid : Prop := Claim7.holds Tryz.pinned (.plain (OpenSpec.upto tagsEachSpec)) tagsEachUptoCard

/-- THE SECOND FORM's CARD OF 'hansardlaw28.TagsFirst'. -/
def tagsFirstUptoCard : Claim7 := { stood := { row := tagsFirstUptoRow, standIns := [], harness := (true, "30698be7890dba548eeda11c348ff460acc937c0db29686212c6c56c895cf292"), looks := true }, kinds := [], alts := [], laidByText := true, laidKinds := [.data, .listed, .data, .pinned], laidTests := true, laidLooks := .later }
def TagsFirstUptoCardSaid : Prop := Claim7.holds Tryz.pinned (.plain (OpenSpec.upto tagsFirstSpec)) tagsFirstUptoCard

/-- THE SECOND FORM's CARD OF 'hansardlaw28.TagsFound'. -/
def tagsFoundUptoCard : Claim7 := { stood := { row := tagsFoundUptoRow, standIns := [], harness := (true, "30698be7890dba548eeda11c348ff460acc937c0db29686212c6c56c895cf292"), looks := true }, kinds := [], alts := [], laidByText := true, laidKinds := [.data, .listed, .data, .pinned], laidTests := true, laidLooks := .later }
def TagsFoundUptoCardSaid : Prop := Claim7.holds Tryz.pinned (.plain (OpenSpec.upto tagsFoundSpec)) tagsFoundUptoCard

/-- THE SECOND FORM's CARD OF 'hansardlaw28.TagsAdded'. -/
def tagsAddedUptoCard : Claim7 := { stood := { row := tagsAddedUptoRow, standIns := [], harness := (true, "30698be7890dba548eeda11c348ff460acc937c0db29686212c6c56c895cf292"), looks := true }, kinds := [], alts := [], laidByText := true, laidKinds := [.data, .listed, .data, .pinned], laidTests := true, laidLooks := .later }
def TagsAddedUptoCardSaid : Prop := Claim7.holds Tryz.pinned (.plain (OpenSpec.upto tagsAddedSpec)) tagsAddedUptoCard
end Rows
end Go.Proofs.YthojaplnimoacaaGreatDoor
