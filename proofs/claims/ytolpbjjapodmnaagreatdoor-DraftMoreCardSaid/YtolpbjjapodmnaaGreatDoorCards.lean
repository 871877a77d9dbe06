/-
  DERIVED. GIVEN WITH THE SEED: THE CARDS: each row of YtolpbjjapodmnaaGreatDoorRows.lean that lists a variable, with what it lists TIED to the program's text (the seventh form; the later family's looks); each row that meets fmt, with fmt's text TOLD by the authors' own Lean function (tested against real Go, not proved from fmt's source: count such statements apart). THE CARD IS WHAT COUNTS. Prove the row's statement (the work); the ties are given (YtolpbjjapodmnaaGreatDoorTie.lean); close each card by the builder's one call (the guide's Derived/Test/ToyasCard.lean, 'card_holds'). Laid BY PROGRAM, IN A SANDBOX (cutbox-door.mjs). By AI agents, Wed Nov 11 2026. No macro, syntax, notation, axiom, sorry.
-/
import Derived.Test.YtolpbjjapodmnaaGreatDoorRows
import GoSem.ClaimSeven
namespace Go.Proofs.YtolpbjjapodmnaaGreatDoor
namespace Rows

/-- THE TIED CARD OF 'hansardlaw29.ChartAll'. -/
def chartAllCard : Claim7 := { stood := { row := chartAllRow, standIns := [], harness := (true, "34618b88a901a3bb4c1e59626f10f104d5765580c10b77705c380d4b9b7b1ce9"), looks := true }, kinds := [], alts := [], laidByText := true, laidKinds := [.data, .listed, .data, .pinned], laidTests := true, laidLooks := .later }
def ChartAllCardSaid : Prop := Claim7.holds Tryz.pinned (.plain (OpenSpec.ofChange chartAllSpec)) chartAllCard

/-- THE TIED CARD OF 'hansardlaw28.TagsEach'. -/
def tagsEachCard : Claim7 := { stood := { row := tagsEachRow, standIns := [], harness := (true, "34618b88a901a3bb4c1e59626f10f104d5765580c10b77705c380d4b9b7b1ce9"), looks := true }, kinds := [], alts := [], laidByText := true, laidKinds := [.data, .listed, .data, .pinned], laidTests := true, laidLooks := .later }
def TagsEachCardSaid : Prop := Claim7.holds Tryz.pinned (.plain (OpenSpec.ofChange tagsEachSpec)) tagsEachCard

/-- THE TIED CARD OF 'hansardlaw30.TranslateYieldSpec'. -/
def translateYieldSpecCard : Claim7 := { stood := { row := translateYieldSpecRow, standIns := [], harness := (true, "34618b88a901a3bb4c1e59626f10f104d5765580c10b77705c380d4b9b7b1ce9"), looks := true }, kinds := [], alts := [], laidByText := true, laidKinds := [.data, .listed, .data, .pinned], laidTests := true, laidLooks := .later }
def TranslateYieldSpecCardSaid : Prop := Claim7.holds Tryz.pinned (.plain (OpenSpec.ofChange translateYieldSpecSpec)) translateYieldSpecCard

/-- THE TIED CARD OF 'hansardlaw30.TranslateSpec'. -/
def translateSpecCard : Claim7 := { stood := { row := translateSpecRow, standIns := [], harness := (true, "34618b88a901a3bb4c1e59626f10f104d5765580c10b77705c380d4b9b7b1ce9"), looks := true }, kinds := [], alts := [], laidByText := true, laidKinds := [.data, .listed, .data, .pinned], laidTests := true, laidLooks := .later }
def TranslateSpecCardSaid : Prop := Claim7.holds Tryz.pinned (.plain (OpenSpec.ofChange translateSpecSpec)) translateSpecCard

/-- THE TIED CARD OF 'hansardlaw30.TranslateEvery'. -/
def translateEveryCard : Claim7 := { stood := { row := translateEveryRow, standIns := [], harness := (true, "34618b88a901a3bb4c1e59626f10f104d5765580c10b77705c380d4b9b7b1ce9"), looks := true }, kinds := [], alts := [], laidByText := true, laidKinds := [.data, .listed, .data, .pinned], laidTests := true, laidLooks := .later }
def TranslateEveryCardSaid : Prop := Claim7.holds Tryz.pinned (.plain (OpenSpec.ofChange translateEverySpec)) translateEveryCard

/-- THE TIED CARD OF 'hansardlaw30.TranslateRevised'. -/
def translateRevisedCard : Claim7 := { stood := { row := translateRevisedRow, standIns := [], harness := (true, "34618b88a901a3bb4c1e59626f10f104d5765580c10b77705c380d4b9b7b1ce9"), looks := true }, kinds := [], alts := [], laidByText := true, laidKinds := [.data, .listed, .data, .pinned], laidTests := true, laidLooks := .later }
def TranslateRevisedCardSaid : Prop := Claim7.holds Tryz.pinned (.plain (OpenSpec.ofChange translateRevisedSpec)) translateRevisedCard

/-- THE TIED CARD OF 'hansardlaw30.TranslateWords'. -/
def translateWordsCard : Claim7 := { stood := { row := translateWordsRow, standIns := [], harness := (true, "34618b88a901a3bb4c1e59626f10f104d5765580c10b77705c380d4b9b7b1ce9"), looks := true }, kinds := [], alts := [], laidByText := true, laidKinds := [.data, .listed, .data, .pinned], laidTests := true, laidLooks := .later }
def TranslateWordsCardSaid : Prop := Claim7.holds Tryz.pinned (.plain (OpenSpec.ofChange translateWordsSpec)) translateWordsCard

/-- THE TIED CARD OF 'hansardlaw33.DraftSpec'. -/
def draftSpecCard : Claim7 := { stood := { row := draftSpecRow, standIns := [], harness := (true, "34618b88a901a3bb4c1e59626f10f104d5765580c10b77705c380d4b9b7b1ce9"), looks := true }, kinds := [], alts := [], laidByText := true, laidKinds := [.data, .listed, .data, .pinned], laidTests := true, laidLooks := .later }
def DraftSpecCardSaid : Prop := Claim7.holds Tryz.pinned (.plain (OpenSpec.ofChange draftSpecSpec)) draftSpecCard

/-- THE TIED CARD OF 'hansardlaw33.DraftCommon'. -/
def draftCommonCard : Claim7 := { stood := { row := draftCommonRow, standIns := [], harness := (true, "34618b88a901a3bb4c1e59626f10f104d5765580c10b77705c380d4b9b7b1ce9"), looks := true }, kinds := [], alts := [], laidByText := true, laidKinds := [.data, .listed, .data, .pinned], laidTests := true, laidLooks := .later }
def DraftCommonCardSaid : Prop := Claim7.holds Tryz.pinned (.plain (OpenSpec.ofChange draftCommonSpec)) draftCommonCard

/-- THE TIED CARD OF 'hansardlaw33.DraftStays'. -/
def draftStaysCard : Claim7 := { stood := { row := draftStaysRow, standIns := [], harness := (true, "34618b88a901a3bb4c1e59626f10f104d5765580c10b77705c380d4b9b7b1ce9"), looks := true }, kinds := [], alts := [], laidByText := true, laidKinds := [.data, .listed, .data, .pinned], laidTests := true, laidLooks := .later }
def DraftStaysCardSaid : Prop := Claim7.holds Tryz.pinned (.plain (OpenSpec.ofChange draftStaysSpec)) draftStaysCard

/-- THE TIED CARD OF 'hansardlaw33.DraftMore'. -/
def draftMoreCard : Claim7 := { stood := { row := draftMoreRow, standIns := [], harness := (true, "34618b88a901a3bb4c1e59626f10f104d5765580c10b77705c380d4b9b7b1ce9"), looks := true }, kinds := [], alts := [], laidByText := true, laidKinds := [.data, .listed, .data, .pinned], laidTests := true, laidLooks := .later }
def DraftMoreCardSaid : Prop := Claim7.holds Tryz.pinned (.plain (OpenSpec.ofChange draftMoreSpec)) draftMoreCard

/-- THE TIED CARD OF 'hansardlaw33.DraftOrder'. -/
def draftOrderCard : Claim7 := { stood := { row := draftOrderRow, standIns := [], harness := (true, "34618b88a901a3bb4c1e59626f10f104d5765580c10b77705c380d4b9b7b1ce9"), looks := true }, kinds := [], alts := [], laidByText := true, laidKinds := [.data, .listed, .data, .pinned], laidTests := true, laidLooks := .later }
def DraftOrderCardSaid : Prop := Claim7.holds Tryz.pinned (.plain (OpenSpec.ofChange draftOrderSpec)) draftOrderCard

/-- THE SECOND FORM's CARD OF 'hansardlaw29.ChartAll'. -/
def chartAllUptoCard : Claim7 := { stood := { row := chartAllUptoRow, standIns := [], harness := (true, "34618b88a901a3bb4c1e59626f10f104d5765580c10b77705c380d4b9b7b1ce9"), looks := true }, kinds := [], alts := [], laidByText := true, laidKinds := [.data, .listed, .data, .pinned], laidTests := true, laidLooks := .later }
def ChartAllUptoCardSaid : Prop := Claim7.holds Tryz.pinned (.plain (OpenSpec.upto chartAllSpec)) chartAllUptoCard

/-- THE SECOND FORM's CARD OF 'hansardlaw28.TagsEach'. -/
def tagsEachUptoCard : Claim7 := { stood := { row := tagsEachUptoRow, standIns := [], harness := (true, "34618b88a901a3bb4c1e59626f10f104d5765580c10b77705c380d4b9b7b1ce9"), looks := true }, kinds := [], alts := [], laidByText := true, laidKinds := [.data, .listed, .data, .pinned], laidTests := true, laidLooks := .later }
def TagsEachUptoCardSaid : Prop := Claim7.holds Tryz.pinned (.plain (OpenSpec.upto tagsEachSpec)) tagsEachUptoCard

/-- THE SECOND FORM's CARD OF 'hansardlaw30.TranslateYieldSpec'. -/
def translateYieldSpecUptoCard : Claim7 := { stood := { row := translateYieldSpecUptoRow, standIns := [], harness := (true, "34618b88a901a3bb4c1e59626f10f104d5765580c10b77705c380d4b9b7b1ce9"), looks := true }, kinds := [], alts := [], laidByText := true, laidKinds := [.data, .listed, .data, .pinned], laidTests := true, laidLooks := .later }
def TranslateYieldSpecUptoCardSaid : Prop := Claim7.holds Tryz.pinned (.plain (OpenSpec.upto translateYieldSpecSpec)) translateYieldSpecUptoCard

/-- THE SECOND FORM's CARD OF 'hansardlaw30.TranslateSpec'. -/
def translateSpecUptoCard : Claim7 := { stood := { row := translateSpecUptoRow, standIns := [], harness := (true, "34618b88a901a3bb4c1e59626f10f104d5765580c10b77705c380d4b9b7b1ce9"), looks := true }, kinds := [], alts := [], laidByText := true, laidKinds := [.data, .listed, .data, .pinned], laidTests := true, laidLooks := .later }
def TranslateSpecUptoCardSaid : Prop := Claim7.holds Tryz.pinned (.plain (OpenSpec.upto translateSpecSpec)) translateSpecUptoCard

/-- THE SECOND FORM's CARD OF 'hansardlaw30.TranslateEvery'. -/
def translateEveryUptoCard : Claim7 := { stood := { row := translateEveryUptoRow, standIns := [], harness := (true, "34618b88a901a3bb4c1e59626f10f104d5765580c10b77705c380d4b9b7b1ce9"), looks := true }, kinds := [], alts := [], laidByText := true, laidKinds := [.data, .listed, .data, .pinned], laidTests := true, laidLooks := .later }
def TranslateEveryUptoCardSaid : Prop := Claim7.holds Tryz.pinned (.plain (OpenSpec.upto translateEverySpec)) translateEveryUptoCard

/-- THE SECOND FORM's CARD OF 'hansardlaw30.TranslateRevised'. -/
def translateRevisedUptoCard : Claim7 := { stood := { row := translateRevisedUptoRow, standIns := [], harness := (true, "34618b88a901a3bb4c1e59626f10f104d5765580c10b77705c380d4b9b7b1ce9"), looks := true }, kinds := [], alts := [], laidByText := true, laidKinds := [.data, .listed, .data, .pinned], laidTests := true, laidLooks := .later }
def TranslateRevisedUptoCardSaid : Prop := Claim7.holds Tryz.pinned (.plain (OpenSpec.upto translateRevisedSpec)) translateRevisedUptoCard

/-- THE SECOND FORM's CARD OF 'hansardlaw30.TranslateWords'. -/
def translateWordsUptoCard : Claim7 := { stood := { row := translateWordsUptoRow, standIns := [], harness := (true, "34618b88a901a3bb4c1e59626f10f104d5765580c10b77705c380d4b9b7b1ce9"), looks := true }, kinds := [], alts := [], laidByText := true, laidKinds := [.data, .listed, .data, .pinned], laidTests := true, laidLooks := .later }
def TranslateWordsUptoCardSaid : Prop := Claim7.holds Tryz.pinned (.plain (OpenSpec.upto translateWordsSpec)) translateWordsUptoCard

/-- THE SECOND FORM's CARD OF 'hansardlaw33.DraftSpec'. -/
def draftSpecUptoCard : Claim7 := { stood := { row := draftSpecUptoRow, standIns := [], harness := (true, "34618b88a901a3bb4c1e59626f10f104d5765580c10b77705c380d4b9b7b1ce9"), looks := true }, kinds := [], alts := [], laidByText := true, laidKinds := [.data, .listed, .data, .pinned], laidTests := true, laidLooks := .later }
def DraftSpecUptoCardSaid : Prop := Claim7.holds Tryz.pinned (.plain (OpenSpec.upto draftSpecSpec)) draftSpecUptoCard

/-- THE SECOND FORM's CARD OF 'hansardlaw33.DraftCommon'. -/
def draftCommonUptoCard : Claim7 := { stood := { row := draftCommonUptoRow, standIns := [], harness := (true, "34618b88a901a3bb4c1e59626f10f104d5765580c10b77705c380d4b9b7b1ce9"), looks := true }, kinds := [], alts := [], laidByText := true, laidKinds := [.data, .listed, .data, .pinned], laidTests := true, laidLooks := .later }
def DraftCommonUptoCardSaid : Prop := Claim7.holds Tryz.pinned (.plain (OpenSpec.upto draftCommonSpec)) draftCommonUptoCard

/-- THE SECOND FORM's CARD OF 'hansardlaw33.DraftStays'. -/
def draftStaysUptoCard : Claim7 := { stood := { row := draftStaysUptoRow, standIns := [], harness := (true, "34618b88a901a3bb4c1e59626f10f104d5765580c10b77705c380d4b9b7b1ce9"), looks := true }, kinds := [], alts := [], laidByText := true, laidKinds := [.data, .listed, .data, .pinned], laidTests := true, laidLooks := .later }
def DraftStaysUptoCardSaid : Prop := Claim7.holds Tryz.pinned (.plain (OpenSpec.upto draftStaysSpec)) draftStaysUptoCard

/-- THE SECOND FORM's CARD OF 'hansardlaw33.DraftMore'. -/
def draftMoreUptoCard : Claim7 := { stood := { row := draftMoreUptoRow, standIns := [], harness := (true, "34618b88a901a3bb4c1e59626f10f104d5765580c10b77705c380d4b9b7b1ce9"), looks := true }, kinds := [], alts := [], laidByText := true, laidKinds := [.data, .listed, .data, .pinned], laidTests := true, laidLooks := .later }
def DraftMoreUptoCardSaid : Prop := Claim7.holds Tryz.pinned (.plain (OpenSpec.upto draftMoreSpec)) draftMoreUptoCard

/-- THE SECOND FORM's CARD OF 'hansardlaw33.DraftOrder'. -/
def draftOrderUptoCard : Claim7 := { stood := { row := draftOrderUptoRow, standIns := [], harness := (true, "34618b88a901a3bb4c1e59626f10f104d5765580c10b77705c380d4b9b7b1ce9"), looks := true }, kinds := [], alts := [], laidByText := true, laidKinds := [.data, .listed, .data, .pinned], laidTests := true, laidLooks := .later }
def DraftOrderUptoCardSaid : Prop := Claim7.holds Tryz.pinned (.plain (OpenSpec.upto draftOrderSpec)) draftOrderUptoCard
end Rows
end Go.Proofs.YtolpbjjapodmnaaGreatDoor
