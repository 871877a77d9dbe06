/-
  No cell of these rows narrows 'for every input' (looked for: loops, veiled, ifaces, maps, wideKeys, modest, calm, conditions, laid).
  DERIVED. THE GIVEN ROWS OF THIS SEAT. 6 by the template 'for every input the law returns true; each argument reads behind the call as it read before'; 0 by the template 'total and deterministic' (their statements: YtmindojbkedmlaaTotals.lean).
  GIVEN WITH THE SEED: the statements are not yours to turn. If you find one false, say at which input.
  Laid BY PROGRAM, IN A SANDBOX (cutbox-rows.mjs): the forced cells as the released guide's own fill.sh prints them over the translation 6793378d0710edae… (all of the seat's roots in one cut). By AI agents, Wed Nov 11 2026. No macro, syntax, notation, axiom, sorry.
-/
import Derived.Test.YtmindojbkedmlaaChecked
import GoSem.Claim
import GoSem.ClaimJoined
import GoSem.ClaimMapViews
import Derived.JoinedTies
import Derived.KernelRfl
namespace Go.Proofs.Ytmindojbkedmlaa
/- THE CELL 'sum', in the pinned program and in every row, IS THE sha256 OF THE DUMP (.gsa) THAT YtmindojbkedmlaaProg.lean LOADS. Nothing in Lean hashes anything: it is a label: what it is worth is what the hold of that sum in a sandbox is worth. -/
noncomputable def Try.pinned : Pinned := { name := "ytmindojbkedmlaa", sum := "6793378d0710edae8f3534b6df4f8f6bdf76d9a68fdd356a62508da36eca1328", checked := Try.checked }
namespace Rows
def none {H : Type} : Left H := { results := [], args := [] }

/-- 'hansardlaw39.AuditSpec': WHATEVER THE INPUT: true; the input reads as it did. -/
def auditSpecSpec : ChangeSpec := { name := "auditSpec", fn := fun _ => fun
  | [d1, d2, d3] => { results := [.lit (.bool true)], args := [d1, d2, d3] }
  | _ => none }
def auditSpecRow : OpenClaim := { program := "ytmindojbkedmlaa", sum := "6793378d0710edae8f3534b6df4f8f6bdf76d9a68fdd356a62508da36eca1328", func := "hansard/hansardlaw39.AuditSpec", spec := "auditSpec", unfollowed := true, recurses := true, apart := false }
def AuditSpecSaid : Prop := auditSpecRow.holds Try.pinned (OpenSpec.ofChange auditSpecSpec)

/-- ITS FALSE NEIGHBOUR: 'it returns false'. Refute it at one input. -/
def auditSpecWrong : ChangeSpec := { name := "auditSpec", fn := fun _ => fun
  | [d1, d2, d3] => { results := [.lit (.bool false)], args := [d1, d2, d3] }
  | _ => none }
def AuditSpecWrongFalsely : Prop := auditSpecRow.holds Try.pinned (OpenSpec.ofChange auditSpecWrong)

/-- 'hansardlaw38.ReleasesSpec': WHATEVER THE INPUT: true; the input reads as it did. -/
def releasesSpecSpec : ChangeSpec := { name := "releasesSpec", fn := fun _ => fun
  | [d1, d2, d3, d4, d5] => { results := [.lit (.bool true)], args := [d1, d2, d3, d4, d5] }
  | _ => none }
def releasesSpecRow : OpenClaim := { program := "ytmindojbkedmlaa", sum := "6793378d0710edae8f3534b6df4f8f6bdf76d9a68fdd356a62508da36eca1328", func := "hansard/hansardlaw38.ReleasesSpec", spec := "releasesSpec", unfollowed := true, recurses := true, apart := false }
def ReleasesSpecSaid : Prop := releasesSpecRow.holds Try.pinned (OpenSpec.ofChange releasesSpecSpec)

/-- ITS FALSE NEIGHBOUR: 'it returns false'. Refute it at one input. -/
def releasesSpecWrong : ChangeSpec := { name := "releasesSpec", fn := fun _ => fun
  | [d1, d2, d3, d4, d5] => { results := [.lit (.bool false)], args := [d1, d2, d3, d4, d5] }
  | _ => none }
def ReleasesSpecWrongFalsely : Prop := releasesSpecRow.holds Try.pinned (OpenSpec.ofChange releasesSpecWrong)

/-- 'hansardlaw38.ReleasesNextSpec': WHATEVER THE INPUT: true; the input reads as it did. -/
def releasesNextSpecSpec : ChangeSpec := { name := "releasesNextSpec", fn := fun _ => fun
  | [d1, d2, d3, d4, d5, d6] => { results := [.lit (.bool true)], args := [d1, d2, d3, d4, d5, d6] }
  | _ => none }
def releasesNextSpecRow : OpenClaim := { program := "ytmindojbkedmlaa", sum := "6793378d0710edae8f3534b6df4f8f6bdf76d9a68fdd356a62508da36eca1328", func := "hansard/hansardlaw38.ReleasesNextSpec", spec := "releasesNextSpec", unfollowed := true, recurses := true, apart := false }
def ReleasesNextSpecSaid : Prop := releasesNextSpecRow.holds Try.pinned (OpenSpec.ofChange releasesNextSpecSpec)

/-- ITS FALSE NEIGHBOUR: 'it returns false'. Refute it at one input. -/
def releasesNextSpecWrong : ChangeSpec := { name := "releasesNextSpec", fn := fun _ => fun
  | [d1, d2, d3, d4, d5, d6] => { results := [.lit (.bool false)], args := [d1, d2, d3, d4, d5, d6] }
  | _ => none }
def ReleasesNextSpecWrongFalsely : Prop := releasesNextSpecRow.holds Try.pinned (OpenSpec.ofChange releasesNextSpecWrong)

/-- 'hansardlaw38.ReleasesNext': WHATEVER THE INPUT: true; the input reads as it did. -/
def releasesNextSpec : ChangeSpec := { name := "releasesNext", fn := fun _ => fun
  | [d1, d2, d3, d4, d5, d6, d7] => { results := [.lit (.bool true)], args := [d1, d2, d3, d4, d5, d6, d7] }
  | _ => none }
def releasesNextRow : OpenClaim := { program := "ytmindojbkedmlaa", sum := "6793378d0710edae8f3534b6df4f8f6bdf76d9a68fdd356a62508da36eca1328", func := "hansard/hansardlaw38.ReleasesNext", spec := "releasesNext", unfollowed := true, recurses := true, apart := false }
def ReleasesNextSaid : Prop := releasesNextRow.holds Try.pinned (OpenSpec.ofChange releasesNextSpec)

/-- ITS FALSE NEIGHBOUR: 'it returns false'. Refute it at one input. -/
def releasesNextWrong : ChangeSpec := { name := "releasesNext", fn := fun _ => fun
  | [d1, d2, d3, d4, d5, d6, d7] => { results := [.lit (.bool false)], args := [d1, d2, d3, d4, d5, d6, d7] }
  | _ => none }
def ReleasesNextWrongFalsely : Prop := releasesNextRow.holds Try.pinned (OpenSpec.ofChange releasesNextWrong)

/-- 'hansardlaw38.ReleasesEvery': WHATEVER THE INPUT: true; the input reads as it did. -/
def releasesEverySpec : ChangeSpec := { name := "releasesEvery", fn := fun _ => fun
  | [d1, d2, d3, d4, d5, d6] => { results := [.lit (.bool true)], args := [d1, d2, d3, d4, d5, d6] }
  | _ => none }
def releasesEveryRow : OpenClaim := { program := "ytmindojbkedmlaa", sum := "6793378d0710edae8f3534b6df4f8f6bdf76d9a68fdd356a62508da36eca1328", func := "hansard/hansardlaw38.ReleasesEvery", spec := "releasesEvery", unfollowed := true, recurses := true, apart := false }
def ReleasesEverySaid : Prop := releasesEveryRow.holds Try.pinned (OpenSpec.ofChange releasesEverySpec)

/-- ITS FALSE NEIGHBOUR: 'it returns false'. Refute it at one input. -/
def releasesEveryWrong : ChangeSpec := { name := "releasesEvery", fn := fun _ => fun
  | [d1, d2, d3, d4, d5, d6] => { results := [.lit (.bool false)], args := [d1, d2, d3, d4, d5, d6] }
  | _ => none }
def ReleasesEveryWrongFalsely : Prop := releasesEveryRow.holds Try.pinned (OpenSpec.ofChange releasesEveryWrong)

/-- 'hansardlaw38.ReleasesMore': WHATEVER THE INPUT: true; the input reads as it did. -/
def releasesMoreSpec : ChangeSpec := { name := "releasesMore", fn := fun _ => fun
  | [d1, d2, d3, d4, d5, d6] => { results := [.lit (.bool true)], args := [d1, d2, d3, d4, d5, d6] }
  | _ => none }
def releasesMoreRow : OpenClaim := { program := "ytmindojbkedmlaa", sum := "6793378d0710edae8f3534b6df4f8f6bdf76d9a68fdd356a62508da36eca1328", func := "hansard/hansardlaw38.ReleasesMore", spec := "releasesMore", inPlace := ["slices.overlaps[hansard/api.House]"], unfollowed := true, recurses := true, apart := false }
def ReleasesMoreSaid : Prop := releasesMoreRow.holds Try.pinned (OpenSpec.ofChange releasesMoreSpec)

/-- ITS FALSE NEIGHBOUR: 'it returns false'. Refute it at one input. -/
def releasesMoreWrong : ChangeSpec := { name := "releasesMore", fn := fun _ => fun
  | [d1, d2, d3, d4, d5, d6] => { results := [.lit (.bool false)], args := [d1, d2, d3, d4, d5, d6] }
  | _ => none }
def ReleasesMoreWrongFalsely : Prop := releasesMoreRow.holds Try.pinned (OpenSpec.ofChange releasesMoreWrong)

/- THE SECOND FORM. 'bulk': how many values and letters a reading holds, each counted each time it is reached (what is shared counts as often as it is met; a slice's spare places count too). A statement '..UptoSaid' is the law's where the arguments, and the package variables that the reading takes, are together of bulk at most 1048576: NARROWER than '..Said'. Prove '..Said' where nothing that the law and all that it calls make is longer than what came in: it says more and counts as full. Else prove '..UptoSaid'. A law counts once. -/
mutual
def uptoBulk {H : Type} : DataW H → Nat
  | .lit (.string bytes) => bytes.length + 1
  | .lit _ => 1
  | .nil => 1
  | .ptr d => uptoBulk d + 1
  | .slice elems spare => uptoBulkAll elems + uptoBulkAll spare + 1
  | .agg parts => uptoBulkAll parts + 1
  | .iface _ d => uptoBulk d + 1
  | .map entries => uptoBulkEntries entries + 1
  | .held _ => 1
def uptoBulkAll {H : Type} : List (DataW H) → Nat
  | [] => 0
  | d :: r => uptoBulk d + uptoBulkAll r
def uptoBulkEntries {H : Type} : List (Lit × DataW H) → Nat
  | [] => 0
  | x :: r => uptoBulkEntry x + uptoBulkEntries r
def uptoBulkEntry {H : Type} : Lit × DataW H → Nat
  | (.string bytes, d) => bytes.length + uptoBulk d + 1
  | (_, d) => uptoBulk d + 1
 end
def uptoSmall : (H : Type) → List (DataW H) → Bool := fun _ ds => decide (uptoBulkAll ds ≤ 1048576)
def OpenSpec.upto (s : _root_.Go.ChangeSpec) : _root_.Go.OpenSpec := { _root_.Go.OpenSpec.ofChange s with cond := some uptoSmall }

/-- 'hansardlaw39.AuditSpec', WHERE WHAT IT READS IS OF BULK AT MOST 1048576: true; the input reads as it did. -/
def auditSpecUptoRow : OpenClaim := { program := "ytmindojbkedmlaa", sum := "6793378d0710edae8f3534b6df4f8f6bdf76d9a68fdd356a62508da36eca1328", func := "hansard/hansardlaw39.AuditSpec", spec := "auditSpec", unfollowed := true, recurses := true, apart := false, narrowed := true }
def AuditSpecUptoSaid : Prop := auditSpecUptoRow.holds Try.pinned (OpenSpec.upto auditSpecSpec)

/-- 'hansardlaw38.ReleasesSpec', WHERE WHAT IT READS IS OF BULK AT MOST 1048576: true; the input reads as it did. -/
def releasesSpecUptoRow : OpenClaim := { program := "ytmindojbkedmlaa", sum := "6793378d0710edae8f3534b6df4f8f6bdf76d9a68fdd356a62508da36eca1328", func := "hansard/hansardlaw38.ReleasesSpec", spec := "releasesSpec", unfollowed := true, recurses := true, apart := false, narrowed := true }
def ReleasesSpecUptoSaid : Prop := releasesSpecUptoRow.holds Try.pinned (OpenSpec.upto releasesSpecSpec)

/-- 'hansardlaw38.ReleasesNextSpec', WHERE WHAT IT READS IS OF BULK AT MOST 1048576: true; the input reads as it did. -/
def releasesNextSpecUptoRow : OpenClaim := { program := "ytmindojbkedmlaa", sum := "6793378d0710edae8f3534b6df4f8f6bdf76d9a68fdd356a62508da36eca1328", func := "hansard/hansardlaw38.ReleasesNextSpec", spec := "releasesNextSpec", unfollowed := true, recurses := true, apart := false, narrowed := true }
def ReleasesNextSpecUptoSaid : Prop := releasesNextSpecUptoRow.holds Try.pinned (OpenSpec.upto releasesNextSpecSpec)

/-- 'hansardlaw38.ReleasesNext', WHERE WHAT IT READS IS OF BULK AT MOST 1048576: true; the input reads as it did. -/
def releasesNextUptoRow : OpenClaim := { program := "ytmindojbkedmlaa", sum := "6793378d0710edae8f3534b6df4f8f6bdf76d9a68fdd356a62508da36eca1328", func := "hansard/hansardlaw38.ReleasesNext", spec := "releasesNext", unfollowed := true, recurses := true, apart := false, narrowed := true }
def ReleasesNextUptoSaid : Prop := releasesNextUptoRow.holds Try.pinned (OpenSpec.upto releasesNextSpec)

/-- 'hansardlaw38.ReleasesEvery', WHERE WHAT IT READS IS OF BULK AT MOST 1048576: true; the input reads as it did. -/
def releasesEveryUptoRow : OpenClaim := { program := "ytmindojbkedmlaa", sum := "6793378d0710edae8f3534b6df4f8f6bdf76d9a68fdd356a62508da36eca1328", func := "hansard/hansardlaw38.ReleasesEvery", spec := "releasesEvery", unfollowed := true, recurses := true, apart := false, narrowed := true }
def ReleasesEveryUptoSaid : Prop := releasesEveryUptoRow.holds Try.pinned (OpenSpec.upto releasesEverySpec)

/-- 'hansardlaw38.ReleasesMore', WHERE WHAT IT READS IS OF BULK AT MOST 1048576: true; the input reads as it did. -/
def releasesMoreUptoRow : OpenClaim := { program := "ytmindojbkedmlaa", sum := "6793378d0710edae8f3534b6df4f8f6bdf76d9a68fdd356a62508da36eca1328", func := "hansard/hansardlaw38.ReleasesMore", spec := "releasesMore", inPlace := ["slices.overlaps[hansard/api.House]"], unfollowed := true, recurses := true, apart := false, narrowed := true }
def ReleasesMoreUptoSaid : Prop := releasesMoreUptoRow.holds Try.pinned (OpenSpec.upto releasesMoreSpec)

end Rows
end Go.Proofs.Ytmindojbkedmlaa
