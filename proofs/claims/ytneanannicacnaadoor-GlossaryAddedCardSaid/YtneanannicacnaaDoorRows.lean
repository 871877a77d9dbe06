/-
  NARROWER THAN 'FOR EVERY INPUT', by the rows' own cells (each row's printed sentence says how): DisplaySpec: laid · DisplayPlaySpec: laid · DisplayWords: laid · DisplayLater: laid · DisplayBack: laid · DisplayApart: laid · GlossarySpec: laid · GlossaryFindSpec: laid · GlossaryOne: laid · GlossaryLater: laid · GlossaryAdded: laid · GlossaryLongest: laid.
  DERIVED. THE GIVEN ROWS OF THIS SEAT. 12 by the template 'for every input the law returns true; each argument reads behind the call as it read before'; 0 by the template 'total and deterministic' (their statements: YtneanannicacnaaDoorTotals.lean).
  GIVEN WITH THE SEED: the statements are not yours to turn. If you find one false, say at which input.
  Laid BY PROGRAM, IN A SANDBOX (cutbox-rows.mjs): the forced cells as the released guide's own fill.sh prints them over the translation f88ec140d4d9e516… (all of the seat's roots in one cut). By AI agents, Wed Nov 11 2026. No macro, syntax, notation, axiom, sorry.
-/
import Derived.Test.YtneanannicacnaaDoorChecked
import GoSem.PinnedTables
import GoSem.Claim
import GoSem.ClaimJoined
import GoSem.ClaimMapViews
import Derived.JoinedTies
import Derived.KernelRfl
namespace Go.Proofs.YtneanannicacnaaDoor
/- THE CELL 'sum', in the pinned program and in every row, IS THE sha256 OF THE DUMP (.gsa) THAT YtneanannicacnaaDoorProg.lean LOADS. Nothing in Lean hashes anything: it is a label: what it is worth is what the hold of that sum in a sandbox is worth. -/
noncomputable def Tryd.pinned : Pinned := { name := "ytneanannicacnaadoor", sum := "f88ec140d4d9e51646649148d293b0caf575143d883bee1760845b488069c984", checked := Tryd.checked }
namespace Rows
def none {H : Type} : Left H := { results := [], args := [] }

/- WHAT THE LISTED PACKAGE-LEVEL VARIABLES READ AS WHEN THE CALL BEGINS. Each datum BY PROGRAM (the guide's laid-datum.mjs) off the statement by which the dump's own 'gosem.cut.vars' lays the variable. In a bare row this is a premise. The card (YtneanannicacnaaDoorCards.lean) ties it to the program's text. -/
def laid_unicode_utf8_acceptRanges {H : Type} : DataW H := .agg [.agg [.lit (.int .u8 128), .lit (.int .u8 191)], .agg [.lit (.int .u8 160), .lit (.int .u8 191)], .agg [.lit (.int .u8 128), .lit (.int .u8 159)], .agg [.lit (.int .u8 144), .lit (.int .u8 191)], .agg [.lit (.int .u8 128), .lit (.int .u8 143)], .agg [.lit (.int .u8 0), .lit (.int .u8 0)], .agg [.lit (.int .u8 0), .lit (.int .u8 0)], .agg [.lit (.int .u8 0), .lit (.int .u8 0)], .agg [.lit (.int .u8 0), .lit (.int .u8 0)], .agg [.lit (.int .u8 0), .lit (.int .u8 0)], .agg [.lit (.int .u8 0), .lit (.int .u8 0)], .agg [.lit (.int .u8 0), .lit (.int .u8 0)], .agg [.lit (.int .u8 0), .lit (.int .u8 0)], .agg [.lit (.int .u8 0), .lit (.int .u8 0)], .agg [.lit (.int .u8 0), .lit (.int .u8 0)], .agg [.lit (.int .u8 0), .lit (.int .u8 0)]]
/-- One of Go's own tables, pinned by name: the form's constant. -/
def laid_unicode_utf8_first : DataW Unit := Go.Pinned.utf8First

/-- 'hansardlaw49.DisplaySpec': WHATEVER THE INPUT: true; the input reads as it did. -/
def displaySpecSpec : ChangeSpec := { name := "displaySpec", fn := fun _ => fun
  | [d1, d2] => { results := [.lit (.bool true)], args := [d1, d2] }
  | _ => none }
def displaySpecRow : OpenClaim := { program := "ytneanannicacnaadoor", sum := "f88ec140d4d9e51646649148d293b0caf575143d883bee1760845b488069c984", func := "hansard/hansardlaw49.DisplaySpec", spec := "displaySpec", inPlace := ["slices.overlaps[hansard/api.Spot]"], unfollowed := true, recurses := true, named := ["unicode/utf8.first", "unicode/utf8.acceptRanges"], plainKeys := false, apart := false, laid := [("unicode/utf8.acceptRanges", laid_unicode_utf8_acceptRanges), ("unicode/utf8.first", laid_unicode_utf8_first)] }
def DisplaySpecSaid : Prop := displaySpecRow.holds Tryd.pinned (OpenSpec.ofChange displaySpecSpec)

/-- ITS FALSE NEIGHBOUR: 'it returns false'. Refute it at one input. -/
def displaySpecWrong : ChangeSpec := { name := "displaySpec", fn := fun _ => fun
  | [d1, d2] => { results := [.lit (.bool false)], args := [d1, d2] }
  | _ => none }
def DisplaySpecWrongFalsely : Prop := displaySpecRow.holds Tryd.pinned (OpenSpec.ofChange displaySpecWrong)

/-- 'hansardlaw49.DisplayPlaySpec': WHATEVER THE INPUT: true; the input reads as it did. -/
def displayPlaySpecSpec : ChangeSpec := { name := "displayPlaySpec", fn := fun _ => fun
  | [d1, d2] => { results := [.lit (.bool true)], args := [d1, d2] }
  | _ => none }
def displayPlaySpecRow : OpenClaim := { program := "ytneanannicacnaadoor", sum := "f88ec140d4d9e51646649148d293b0caf575143d883bee1760845b488069c984", func := "hansard/hansardlaw49.DisplayPlaySpec", spec := "displayPlaySpec", inPlace := ["slices.overlaps[hansard/api.Spot]"], unfollowed := true, recurses := true, named := ["unicode/utf8.first", "unicode/utf8.acceptRanges"], plainKeys := false, apart := false, laid := [("unicode/utf8.acceptRanges", laid_unicode_utf8_acceptRanges), ("unicode/utf8.first", laid_unicode_utf8_first)] }
def DisplayPlaySpecSaid : Prop := displayPlaySpecRow.holds Tryd.pinned (OpenSpec.ofChange displayPlaySpecSpec)

/-- ITS FALSE NEIGHBOUR: 'it returns false'. Refute it at one input. -/
def displayPlaySpecWrong : ChangeSpec := { name := "displayPlaySpec", fn := fun _ => fun
  | [d1, d2] => { results := [.lit (.bool false)], args := [d1, d2] }
  | _ => none }
def DisplayPlaySpecWrongFalsely : Prop := displayPlaySpecRow.holds Tryd.pinned (OpenSpec.ofChange displayPlaySpecWrong)

/-- 'hansardlaw49.DisplayWords': WHATEVER THE INPUT: true; the input reads as it did. -/
def displayWordsSpec : ChangeSpec := { name := "displayWords", fn := fun _ => fun
  | [d1, d2] => { results := [.lit (.bool true)], args := [d1, d2] }
  | _ => none }
def displayWordsRow : OpenClaim := { program := "ytneanannicacnaadoor", sum := "f88ec140d4d9e51646649148d293b0caf575143d883bee1760845b488069c984", func := "hansard/hansardlaw49.DisplayWords", spec := "displayWords", inPlace := ["slices.overlaps[hansard/api.Spot]"], unfollowed := true, recurses := true, named := ["unicode/utf8.first", "unicode/utf8.acceptRanges"], plainKeys := false, apart := false, laid := [("unicode/utf8.acceptRanges", laid_unicode_utf8_acceptRanges), ("unicode/utf8.first", laid_unicode_utf8_first)] }
def DisplayWordsSaid : Prop := displayWordsRow.holds Tryd.pinned (OpenSpec.ofChange displayWordsSpec)

/-- ITS FALSE NEIGHBOUR: 'it returns false'. Refute it at one input. -/
def displayWordsWrong : ChangeSpec := { name := "displayWords", fn := fun _ => fun
  | [d1, d2] => { results := [.lit (.bool false)], args := [d1, d2] }
  | _ => none }
def DisplayWordsWrongFalsely : Prop := displayWordsRow.holds Tryd.pinned (OpenSpec.ofChange displayWordsWrong)

/-- 'hansardlaw49.DisplayLater': WHATEVER THE INPUT: true; the input reads as it did. -/
def displayLaterSpec : ChangeSpec := { name := "displayLater", fn := fun _ => fun
  | [d1, d2, d3] => { results := [.lit (.bool true)], args := [d1, d2, d3] }
  | _ => none }
def displayLaterRow : OpenClaim := { program := "ytneanannicacnaadoor", sum := "f88ec140d4d9e51646649148d293b0caf575143d883bee1760845b488069c984", func := "hansard/hansardlaw49.DisplayLater", spec := "displayLater", inPlace := ["slices.overlaps[hansard/api.Spot]"], unfollowed := true, recurses := true, named := ["unicode/utf8.first", "unicode/utf8.acceptRanges"], plainKeys := false, apart := false, laid := [("unicode/utf8.acceptRanges", laid_unicode_utf8_acceptRanges), ("unicode/utf8.first", laid_unicode_utf8_first)] }
def DisplayLaterSaid : Prop := displayLaterRow.holds Tryd.pinned (OpenSpec.ofChange displayLaterSpec)

/-- ITS FALSE NEIGHBOUR: 'it returns false'. Refute it at one input. -/
def displayLaterWrong : ChangeSpec := { name := "displayLater", fn := fun _ => fun
  | [d1, d2, d3] => { results := [.lit (.bool false)], args := [d1, d2, d3] }
  | _ => none }
def DisplayLaterWrongFalsely : Prop := displayLaterRow.holds Tryd.pinned (OpenSpec.ofChange displayLaterWrong)

/-- 'hansardlaw49.DisplayBack': WHATEVER THE INPUT: true; the input reads as it did. -/
def displayBackSpec : ChangeSpec := { name := "displayBack", fn := fun _ => fun
  | [d1, d2] => { results := [.lit (.bool true)], args := [d1, d2] }
  | _ => none }
def displayBackRow : OpenClaim := { program := "ytneanannicacnaadoor", sum := "f88ec140d4d9e51646649148d293b0caf575143d883bee1760845b488069c984", func := "hansard/hansardlaw49.DisplayBack", spec := "displayBack", inPlace := ["slices.overlaps[hansard/api.Spot]"], unfollowed := true, recurses := true, named := ["unicode/utf8.first", "unicode/utf8.acceptRanges"], plainKeys := false, apart := false, laid := [("unicode/utf8.acceptRanges", laid_unicode_utf8_acceptRanges), ("unicode/utf8.first", laid_unicode_utf8_first)] }
def DisplayBackSaid : Prop := displayBackRow.holds Tryd.pinned (OpenSpec.ofChange displayBackSpec)

/-- ITS FALSE NEIGHBOUR: 'it returns false'. Refute it at one input. -/
def displayBackWrong : ChangeSpec := { name := "displayBack", fn := fun _ => fun
  | [d1, d2] => { results := [.lit (.bool false)], args := [d1, d2] }
  | _ => none }
def DisplayBackWrongFalsely : Prop := displayBackRow.holds Tryd.pinned (OpenSpec.ofChange displayBackWrong)

/-- 'hansardlaw49.DisplayApart': WHATEVER THE INPUT: true; the input reads as it did. -/
def displayApartSpec : ChangeSpec := { name := "displayApart", fn := fun _ => fun
  | [d1, d2, d3] => { results := [.lit (.bool true)], args := [d1, d2, d3] }
  | _ => none }
def displayApartRow : OpenClaim := { program := "ytneanannicacnaadoor", sum := "f88ec140d4d9e51646649148d293b0caf575143d883bee1760845b488069c984", func := "hansard/hansardlaw49.DisplayApart", spec := "displayApart", inPlace := ["slices.overlaps[hansard/api.Spot]"], unfollowed := true, recurses := true, named := ["unicode/utf8.first", "unicode/utf8.acceptRanges"], plainKeys := false, apart := false, laid := [("unicode/utf8.acceptRanges", laid_unicode_utf8_acceptRanges), ("unicode/utf8.first", laid_unicode_utf8_first)] }
def DisplayApartSaid : Prop := displayApartRow.holds Tryd.pinned (OpenSpec.ofChange displayApartSpec)

/-- ITS FALSE NEIGHBOUR: 'it returns false'. Refute it at one input. -/
def displayApartWrong : ChangeSpec := { name := "displayApart", fn := fun _ => fun
  | [d1, d2, d3] => { results := [.lit (.bool false)], args := [d1, d2, d3] }
  | _ => none }
def DisplayApartWrongFalsely : Prop := displayApartRow.holds Tryd.pinned (OpenSpec.ofChange displayApartWrong)

/-- 'hansardlaw27.GlossarySpec': WHATEVER THE INPUT: true; the input reads as it did. -/
def glossarySpecSpec : ChangeSpec := { name := "glossarySpec", fn := fun _ => fun
  | [d1, d2] => { results := [.lit (.bool true)], args := [d1, d2] }
  | _ => none }
def glossarySpecRow : OpenClaim := { program := "ytneanannicacnaadoor", sum := "f88ec140d4d9e51646649148d293b0caf575143d883bee1760845b488069c984", func := "hansard/hansardlaw27.GlossarySpec", spec := "glossarySpec", inPlace := ["internal/bytealg.IndexByteString", "internal/abi.NoEscape", "internal/bytealg.MakeNoZero", "slices.overlaps[hansard/api.Term]"], unfollowed := true, recurses := true, named := ["unicode/utf8.first", "unicode/utf8.acceptRanges"], plainKeys := false, apart := false, laid := [("unicode/utf8.acceptRanges", laid_unicode_utf8_acceptRanges), ("unicode/utf8.first", laid_unicode_utf8_first)] }
def GlossarySpecSaid : Prop := glossarySpecRow.holds Tryd.pinned (OpenSpec.ofChange glossarySpecSpec)

/-- ITS FALSE NEIGHBOUR: 'it returns false'. Refute it at one input. -/
def glossarySpecWrong : ChangeSpec := { name := "glossarySpec", fn := fun _ => fun
  | [d1, d2] => { results := [.lit (.bool false)], args := [d1, d2] }
  | _ => none }
def GlossarySpecWrongFalsely : Prop := glossarySpecRow.holds Tryd.pinned (OpenSpec.ofChange glossarySpecWrong)

/-- 'hansardlaw27.GlossaryFindSpec': WHATEVER THE INPUT: true; the input reads as it did. -/
def glossaryFindSpecSpec : ChangeSpec := { name := "glossaryFindSpec", fn := fun _ => fun
  | [d1, d2, d3, d4, d5, d6] => { results := [.lit (.bool true)], args := [d1, d2, d3, d4, d5, d6] }
  | _ => none }
def glossaryFindSpecRow : OpenClaim := { program := "ytneanannicacnaadoor", sum := "f88ec140d4d9e51646649148d293b0caf575143d883bee1760845b488069c984", func := "hansard/hansardlaw27.GlossaryFindSpec", spec := "glossaryFindSpec", inPlace := ["internal/bytealg.IndexByteString", "internal/abi.NoEscape", "internal/bytealg.MakeNoZero", "slices.overlaps[hansard/api.Term]"], unfollowed := true, recurses := true, named := ["unicode/utf8.first", "unicode/utf8.acceptRanges"], plainKeys := false, apart := false, laid := [("unicode/utf8.acceptRanges", laid_unicode_utf8_acceptRanges), ("unicode/utf8.first", laid_unicode_utf8_first)] }
def GlossaryFindSpecSaid : Prop := glossaryFindSpecRow.holds Tryd.pinned (OpenSpec.ofChange glossaryFindSpecSpec)

/-- ITS FALSE NEIGHBOUR: 'it returns false'. Refute it at one input. -/
def glossaryFindSpecWrong : ChangeSpec := { name := "glossaryFindSpec", fn := fun _ => fun
  | [d1, d2, d3, d4, d5, d6] => { results := [.lit (.bool false)], args := [d1, d2, d3, d4, d5, d6] }
  | _ => none }
def GlossaryFindSpecWrongFalsely : Prop := glossaryFindSpecRow.holds Tryd.pinned (OpenSpec.ofChange glossaryFindSpecWrong)

/-- 'hansardlaw27.GlossaryOne': WHATEVER THE INPUT: true; the input reads as it did. -/
def glossaryOneSpec : ChangeSpec := { name := "glossaryOne", fn := fun _ => fun
  | [d1, d2, d3, d4] => { results := [.lit (.bool true)], args := [d1, d2, d3, d4] }
  | _ => none }
def glossaryOneRow : OpenClaim := { program := "ytneanannicacnaadoor", sum := "f88ec140d4d9e51646649148d293b0caf575143d883bee1760845b488069c984", func := "hansard/hansardlaw27.GlossaryOne", spec := "glossaryOne", inPlace := ["internal/bytealg.IndexByteString", "internal/abi.NoEscape", "internal/bytealg.MakeNoZero", "slices.overlaps[hansard/api.Term]"], unfollowed := true, recurses := true, named := ["unicode/utf8.first", "unicode/utf8.acceptRanges"], plainKeys := false, apart := false, laid := [("unicode/utf8.acceptRanges", laid_unicode_utf8_acceptRanges), ("unicode/utf8.first", laid_unicode_utf8_first)] }
def GlossaryOneSaid : Prop := glossaryOneRow.holds Tryd.pinned (OpenSpec.ofChange glossaryOneSpec)

/-- ITS FALSE NEIGHBOUR: 'it returns false'. Refute it at one input. -/
def glossaryOneWrong : ChangeSpec := { name := "glossaryOne", fn := fun _ => fun
  | [d1, d2, d3, d4] => { results := [.lit (.bool false)], args := [d1, d2, d3, d4] }
  | _ => none }
def GlossaryOneWrongFalsely : Prop := glossaryOneRow.holds Tryd.pinned (OpenSpec.ofChange glossaryOneWrong)

/-- 'hansardlaw27.GlossaryLater': WHATEVER THE INPUT: true; the input reads as it did. -/
def glossaryLaterSpec : ChangeSpec := { name := "glossaryLater", fn := fun _ => fun
  | [d1, d2, d3, d4, d5, d6] => { results := [.lit (.bool true)], args := [d1, d2, d3, d4, d5, d6] }
  | _ => none }
def glossaryLaterRow : OpenClaim := { program := "ytneanannicacnaadoor", sum := "f88ec140d4d9e51646649148d293b0caf575143d883bee1760845b488069c984", func := "hansard/hansardlaw27.GlossaryLater", spec := "glossaryLater", inPlace := ["internal/bytealg.IndexByteString", "internal/abi.NoEscape", "internal/bytealg.MakeNoZero", "slices.overlaps[hansard/api.Term]"], unfollowed := true, recurses := true, named := ["unicode/utf8.first", "unicode/utf8.acceptRanges"], plainKeys := false, apart := false, laid := [("unicode/utf8.acceptRanges", laid_unicode_utf8_acceptRanges), ("unicode/utf8.first", laid_unicode_utf8_first)] }
def GlossaryLaterSaid : Prop := glossaryLaterRow.holds Tryd.pinned (OpenSpec.ofChange glossaryLaterSpec)

/-- ITS FALSE NEIGHBOUR: 'it returns false'. Refute it at one input. -/
def glossaryLaterWrong : ChangeSpec := { name := "glossaryLater", fn := fun _ => fun
  | [d1, d2, d3, d4, d5, d6] => { results := [.lit (.bool false)], args := [d1, d2, d3, d4, d5, d6] }
  | _ => none }
def GlossaryLaterWrongFalsely : Prop := glossaryLaterRow.holds Tryd.pinned (OpenSpec.ofChange glossaryLaterWrong)

/-- 'hansardlaw27.GlossaryAdded': WHATEVER THE INPUT: true; the input reads as it did. -/
def glossaryAddedSpec : ChangeSpec := { name := "glossaryAdded", fn := fun _ => fun
  | [d1, d2, d3, d4, d5, d6] => { results := [.lit (.bool true)], args := [d1, d2, d3, d4, d5, d6] }
  | _ => none }
def glossaryAddedRow : OpenClaim := { program := "ytneanannicacnaadoor", sum := "f88ec140d4d9e51646649148d293b0caf575143d883bee1760845b488069c984", func := "hansard/hansardlaw27.GlossaryAdded", spec := "glossaryAdded", inPlace := ["internal/bytealg.IndexByteString", "internal/abi.NoEscape", "internal/bytealg.MakeNoZero", "slices.overlaps[hansard/api.Term]"], unfollowed := true, recurses := true, named := ["unicode/utf8.first", "unicode/utf8.acceptRanges"], plainKeys := false, apart := false, laid := [("unicode/utf8.acceptRanges", laid_unicode_utf8_acceptRanges), ("unicode/utf8.first", laid_unicode_utf8_first)] }
def GlossaryAddedSaid : Prop := glossaryAddedRow.holds Tryd.pinned (OpenSpec.ofChange glossaryAddedSpec)

/-- ITS FALSE NEIGHBOUR: 'it returns false'. Refute it at one input. -/
def glossaryAddedWrong : ChangeSpec := { name := "glossaryAdded", fn := fun _ => fun
  | [d1, d2, d3, d4, d5, d6] => { results := [.lit (.bool false)], args := [d1, d2, d3, d4, d5, d6] }
  | _ => none }
def GlossaryAddedWrongFalsely : Prop := glossaryAddedRow.holds Tryd.pinned (OpenSpec.ofChange glossaryAddedWrong)

/-- 'hansardlaw27.GlossaryLongest': WHATEVER THE INPUT: true; the input reads as it did. -/
def glossaryLongestSpec : ChangeSpec := { name := "glossaryLongest", fn := fun _ => fun
  | [d1, d2, d3, d4, d5, d6] => { results := [.lit (.bool true)], args := [d1, d2, d3, d4, d5, d6] }
  | _ => none }
def glossaryLongestRow : OpenClaim := { program := "ytneanannicacnaadoor", sum := "f88ec140d4d9e51646649148d293b0caf575143d883bee1760845b488069c984", func := "hansard/hansardlaw27.GlossaryLongest", spec := "glossaryLongest", inPlace := ["internal/bytealg.IndexByteString", "internal/abi.NoEscape", "internal/bytealg.MakeNoZero", "slices.overlaps[hansard/api.Term]"], unfollowed := true, recurses := true, named := ["unicode/utf8.first", "unicode/utf8.acceptRanges"], plainKeys := false, apart := false, laid := [("unicode/utf8.acceptRanges", laid_unicode_utf8_acceptRanges), ("unicode/utf8.first", laid_unicode_utf8_first)] }
def GlossaryLongestSaid : Prop := glossaryLongestRow.holds Tryd.pinned (OpenSpec.ofChange glossaryLongestSpec)

/-- ITS FALSE NEIGHBOUR: 'it returns false'. Refute it at one input. -/
def glossaryLongestWrong : ChangeSpec := { name := "glossaryLongest", fn := fun _ => fun
  | [d1, d2, d3, d4, d5, d6] => { results := [.lit (.bool false)], args := [d1, d2, d3, d4, d5, d6] }
  | _ => none }
def GlossaryLongestWrongFalsely : Prop := glossaryLongestRow.holds Tryd.pinned (OpenSpec.ofChange glossaryLongestWrong)

/- THE SECOND FORM. 'bulk': how many values and letters a reading holds, each counted each time it is reached (what is shared counts as often as it is met; a slice's spare places count too). A statement '..UptoSaid' is the law's where the arguments, and the package variables that the reading takes, are together of bulk at most 1048576: NARROWER than '..Said'. Prove '..Said' where nothing that the law and all that it calls make is longer than what came in: it says more and counts as full. Else prove '..UptoSaid'. A law counts once. -/
mutual
def uptoBulk {H : Type} : DataW H → Nat
  | .lit (.string bytes) => bytes.length + 1
  | .lit _ => 1
  | .nil => 1
  | .ptr d => uptoBulk d + 1
  | .slice elems spare => uptoBulkAll elems + uptoBulkAll spare + 1
  | .agg parts => uptoBulkAll parts + 1
  | .iface _ d => uptoBulk d + 1
  | .map entries => uptoBulkEntries entries + 1
  | .held _ => 1
def uptoBulkAll {H : Type} : List (DataW H) → Nat
  | [] => 0
  | d :: r => uptoBulk d + uptoBulkAll r
def uptoBulkEntries {H : Type} : List (Lit × DataW H) → Nat
  | [] => 0
  | x :: r => uptoBulkEntry x + uptoBulkEntries r
def uptoBulkEntry {H : Type} : Lit × DataW H → Nat
  | (.string bytes, d) => bytes.length + uptoBulk d + 1
  | (_, d) => uptoBulk d + 1
 end
def uptoSmall : (H : Type) → List (DataW H) → Bool := fun _ ds => decide (uptoBulkAll ds ≤ 1048576)
def OpenSpec.upto (s : _root_.Go.ChangeSpec) : _root_.Go.OpenSpec := { _root_.Go.OpenSpec.ofChange s with cond := some uptoSmall }

/-- 'hansardlaw49.DisplaySpec', WHERE WHAT IT READS IS OF BULK AT MOST 1048576: true; the input reads as it did. -/
def displaySpecUptoRow : OpenClaim := { program := "ytneanannicacnaadoor", sum := "f88ec140d4d9e51646649148d293b0caf575143d883bee1760845b488069c984", func := "hansard/hansardlaw49.DisplaySpec", spec := "displaySpec", inPlace := ["slices.overlaps[hansard/api.Spot]"], unfollowed := true, recurses := true, named := ["unicode/utf8.first", "unicode/utf8.acceptRanges"], plainKeys := false, apart := false, laid := [("unicode/utf8.acceptRanges", laid_unicode_utf8_acceptRanges), ("unicode/utf8.first", laid_unicode_utf8_first)], narrowed := true }
def DisplaySpecUptoSaid : Prop := displaySpecUptoRow.holds Tryd.pinned (OpenSpec.upto displaySpecSpec)

/-- 'hansardlaw49.DisplayPlaySpec', WHERE WHAT IT READS IS OF BULK AT MOST 1048576: true; the input reads as it did. -/
def displayPlaySpecUptoRow : OpenClaim := { program := "ytneanannicacnaadoor", sum := "f88ec140d4d9e51646649148d293b0caf575143d883bee1760845b488069c984", func := "hansard/hansardlaw49.DisplayPlaySpec", spec := "displayPlaySpec", inPlace := ["slices.overlaps[hansard/api.Spot]"], unfollowed := true, recurses := true, named := ["unicode/utf8.first", "unicode/utf8.acceptRanges"], plainKeys := false, apart := false, laid := [("unicode/utf8.acceptRanges", laid_unicode_utf8_acceptRanges), ("unicode/utf8.first", laid_unicode_utf8_first)], narrowed := true }
def DisplayPlaySpecUptoSaid : Prop := displayPlaySpecUptoRow.holds Tryd.pinned (OpenSpec.upto displayPlaySpecSpec)

/-- 'hansardlaw49.DisplayWords', WHERE WHAT IT READS IS OF BULK AT MOST 1048576: true; the input reads as it did. -/
def displayWordsUptoRow : OpenClaim := { program := "ytneanannicacnaadoor", sum := "f88ec140d4d9e51646649148d293b0caf575143d883bee1760845b488069c984", func := "hansard/hansardlaw49.DisplayWords", spec := "displayWords", inPlace := ["slices.overlaps[hansard/api.Spot]"], unfollowed := true, recurses := true, named := ["unicode/utf8.first", "unicode/utf8.acceptRanges"], plainKeys := false, apart := false, laid := [("unicode/utf8.acceptRanges", laid_unicode_utf8_acceptRanges), ("unicode/utf8.first", laid_unicode_utf8_first)], narrowed := true }
def DisplayWordsUptoSaid : Prop := displayWordsUptoRow.holds Tryd.pinned (OpenSpec.upto displayWordsSpec)

/-- 'hansardlaw49.DisplayLater', WHERE WHAT IT READS IS OF BULK AT MOST 1048576: true; the input reads as it did. -/
def displayLaterUptoRow : OpenClaim := { program := "ytneanannicacnaadoor", sum := "f88ec140d4d9e51646649148d293b0caf575143d883bee1760845b488069c984", func := "hansard/hansardlaw49.DisplayLater", spec := "displayLater", inPlace := ["slices.overlaps[hansard/api.Spot]"], unfollowed := true, recurses := true, named := ["unicode/utf8.first", "unicode/utf8.acceptRanges"], plainKeys := false, apart := false, laid := [("unicode/utf8.acceptRanges", laid_unicode_utf8_acceptRanges), ("unicode/utf8.first", laid_unicode_utf8_first)], narrowed := true }
def DisplayLaterUptoSaid : Prop := displayLaterUptoRow.holds Tryd.pinned (OpenSpec.upto displayLaterSpec)

/-- 'hansardlaw49.DisplayBack', WHERE WHAT IT READS IS OF BULK AT MOST 1048576: true; the input reads as it did. -/
def displayBackUptoRow : OpenClaim := { program := "ytneanannicacnaadoor", sum := "f88ec140d4d9e51646649148d293b0caf575143d883bee1760845b488069c984", func := "hansard/hansardlaw49.DisplayBack", spec := "displayBack", inPlace := ["slices.overlaps[hansard/api.Spot]"], unfollowed := true, recurses := true, named := ["unicode/utf8.first", "unicode/utf8.acceptRanges"], plainKeys := false, apart := false, laid := [("unicode/utf8.acceptRanges", laid_unicode_utf8_acceptRanges), ("unicode/utf8.first", laid_unicode_utf8_first)], narrowed := true }
def DisplayBackUptoSaid : Prop := displayBackUptoRow.holds Tryd.pinned (OpenSpec.upto displayBackSpec)

/-- 'hansardlaw49.DisplayApart', WHERE WHAT IT READS IS OF BULK AT MOST 1048576: true; the input reads as it did. -/
def displayApartUptoRow : OpenClaim := { program := "ytneanannicacnaadoor", sum := "f88ec140d4d9e51646649148d293b0caf575143d883bee1760845b488069c984", func := "hansard/hansardlaw49.DisplayApart", spec := "displayApart", inPlace := ["slices.overlaps[hansard/api.Spot]"], unfollowed := true, recurses := true, named := ["unicode/utf8.first", "unicode/utf8.acceptRanges"], plainKeys := false, apart := false, laid := [("unicode/utf8.acceptRanges", laid_unicode_utf8_acceptRanges), ("unicode/utf8.first", laid_unicode_utf8_first)], narrowed := true }
def DisplayApartUptoSaid : Prop := displayApartUptoRow.holds Tryd.pinned (OpenSpec.upto displayApartSpec)

/-- 'hansardlaw27.GlossarySpec', WHERE WHAT IT READS IS OF BULK AT MOST 1048576: true; the input reads as it did. -/
def glossarySpecUptoRow : OpenClaim := { program := "ytneanannicacnaadoor", sum := "f88ec140d4d9e51646649148d293b0caf575143d883bee1760845b488069c984", func := "hansard/hansardlaw27.GlossarySpec", spec := "glossarySpec", inPlace := ["internal/bytealg.IndexByteString", "internal/abi.NoEscape", "internal/bytealg.MakeNoZero", "slices.overlaps[hansard/api.Term]"], unfollowed := true, recurses := true, named := ["unicode/utf8.first", "unicode/utf8.acceptRanges"], plainKeys := false, apart := false, laid := [("unicode/utf8.acceptRanges", laid_unicode_utf8_acceptRanges), ("unicode/utf8.first", laid_unicode_utf8_first)], narrowed := true }
def GlossarySpecUptoSaid : Prop := glossarySpecUptoRow.holds Tryd.pinned (OpenSpec.upto glossarySpecSpec)

/-- 'hansardlaw27.GlossaryFindSpec', WHERE WHAT IT READS IS OF BULK AT MOST 1048576: true; the input reads as it did. -/
def glossaryFindSpecUptoRow : OpenClaim := { program := "ytneanannicacnaadoor", sum := "f88ec140d4d9e51646649148d293b0caf575143d883bee1760845b488069c984", func := "hansard/hansardlaw27.GlossaryFindSpec", spec := "glossaryFindSpec", inPlace := ["internal/bytealg.IndexByteString", "internal/abi.NoEscape", "internal/bytealg.MakeNoZero", "slices.overlaps[hansard/api.Term]"], unfollowed := true, recurses := true, named := ["unicode/utf8.first", "unicode/utf8.acceptRanges"], plainKeys := false, apart := false, laid := [("unicode/utf8.acceptRanges", laid_unicode_utf8_acceptRanges), ("unicode/utf8.first", laid_unicode_utf8_first)], narrowed := true }
def GlossaryFindSpecUptoSaid : Prop := glossaryFindSpecUptoRow.holds Tryd.pinned (OpenSpec.upto glossaryFindSpecSpec)

/-- 'hansardlaw27.GlossaryOne', WHERE WHAT IT READS IS OF BULK AT MOST 1048576: true; the input reads as it did. -/
def glossaryOneUptoRow : OpenClaim := { program := "ytneanannicacnaadoor", sum := "f88ec140d4d9e51646649148d293b0caf575143d883bee1760845b488069c984", func := "hansard/hansardlaw27.GlossaryOne", spec := "glossaryOne", inPlace := ["internal/bytealg.IndexByteString", "internal/abi.NoEscape", "internal/bytealg.MakeNoZero", "slices.overlaps[hansard/api.Term]"], unfollowed := true, recurses := true, named := ["unicode/utf8.first", "unicode/utf8.acceptRanges"], plainKeys := false, apart := false, laid := [("unicode/utf8.acceptRanges", laid_unicode_utf8_acceptRanges), ("unicode/utf8.first", laid_unicode_utf8_first)], narrowed := true }
def GlossaryOneUptoSaid : Prop := glossaryOneUptoRow.holds Tryd.pinned (OpenSpec.upto glossaryOneSpec)

/-- 'hansardlaw27.GlossaryLater', WHERE WHAT IT READS IS OF BULK AT MOST 1048576: true; the input reads as it did. -/
def glossaryLaterUptoRow : OpenClaim := { program := "ytneanannicacnaadoor", sum := "f88ec140d4d9e51646649148d293b0caf575143d883bee1760845b488069c984", func := "hansard/hansardlaw27.GlossaryLater", spec := "glossaryLater", inPlace := ["internal/bytealg.IndexByteString", "internal/abi.NoEscape", "internal/bytealg.MakeNoZero", "slices.overlaps[hansard/api.Term]"], unfollowed := true, recurses := true, named := ["unicode/utf8.first", "unicode/utf8.acceptRanges"], plainKeys := false, apart := false, laid := [("unicode/utf8.acceptRanges", laid_unicode_utf8_acceptRanges), ("unicode/utf8.first", laid_unicode_utf8_first)], narrowed := true }
def GlossaryLaterUptoSaid : Prop := glossaryLaterUptoRow.holds Tryd.pinned (OpenSpec.upto glossaryLaterSpec)

/-- 'hansardlaw27.GlossaryAdded', WHERE WHAT IT READS IS OF BULK AT MOST 1048576: true; the input reads as it did. -/
def glossaryAddedUptoRow : OpenClaim := { program := "ytneanannicacnaadoor", sum := "f88ec140d4d9e51646649148d293b0caf575143d883bee1760845b488069c984", func := "hansard/hansardlaw27.GlossaryAdded", spec := "glossaryAdded", inPlace := ["internal/bytealg.IndexByteString", "internal/abi.NoEscape", "internal/bytealg.MakeNoZero", "slices.overlaps[hansard/api.Term]"], unfollowed := true, recurses := true, named := ["unicode/utf8.first", "unicode/utf8.acceptRanges"], plainKeys := false, apart := false, laid := [("unicode/utf8.acceptRanges", laid_unicode_utf8_acceptRanges), ("unicode/utf8.first", laid_unicode_utf8_first)], narrowed := true }
def GlossaryAddedUptoSaid : Prop := glossaryAddedUptoRow.holds Tryd.pinned (OpenSpec.upto glossaryAddedSpec)

/-- 'hansardlaw27.GlossaryLongest', WHERE WHAT IT READS IS OF BULK AT MOST 1048576: true; the input reads as it did. -/
def glossaryLongestUptoRow : OpenClaim := { program := "ytneanannicacnaadoor", sum := "f88ec140d4d9e51646649148d293b0caf575143d883bee1760845b488069c984", func := "hansard/hansardlaw27.GlossaryLongest", spec := "glossaryLongest", inPlace := ["internal/bytealg.IndexByteString", "internal/abi.NoEscape", "internal/bytealg.MakeNoZero", "slices.overlaps[hansard/api.Term]"], unfollowed := true, recurses := true, named := ["unicode/utf8.first", "unicode/utf8.acceptRanges"], plainKeys := false, apart := false, laid := [("unicode/utf8.acceptRanges", laid_unicode_utf8_acceptRanges), ("unicode/utf8.first", laid_unicode_utf8_first)], narrowed := true }
def GlossaryLongestUptoSaid : Prop := glossaryLongestUptoRow.holds Tryd.pinned (OpenSpec.upto glossaryLongestSpec)

end Rows
end Go.Proofs.YtneanannicacnaaDoor
