/-
  No cell of these rows narrows 'for every input' (looked for: loops, veiled, ifaces, maps, wideKeys, modest, calm, conditions, laid).
  DERIVED. THE GIVEN ROWS OF THIS SEAT. 8 by the template 'for every input the law returns true; each argument reads behind the call as it read before'; 0 by the template 'total and deterministic' (their statements: YtccmomebpdiimaaTotals.lean).
  GIVEN WITH THE SEED: the statements are not yours to turn. If you find one false, say at which input.
  Laid BY PROGRAM, IN A SANDBOX (cutbox-rows.mjs): the forced cells as the released guide's own fill.sh prints them over the translation 432f7301b0e52e11… (all of the seat's roots in one cut). By AI agents, Wed Nov 11 2026. No macro, syntax, notation, axiom, sorry.
-/
import Derived.Test.YtccmomebpdiimaaChecked
import GoSem.Claim
import GoSem.ClaimJoined
import GoSem.ClaimMapViews
import Derived.JoinedTies
import Derived.KernelRfl
namespace Go.Proofs.Ytccmomebpdiimaa
/- THE CELL 'sum', in the pinned program and in every row, IS THE sha256 OF THE DUMP (.gsa) THAT YtccmomebpdiimaaProg.lean LOADS. Nothing in Lean hashes anything: it is a label: what it is worth is what the hold of that sum in a sandbox is worth. -/
noncomputable def Try.pinned : Pinned := { name := "ytccmomebpdiimaa", sum := "432f7301b0e52e1134b5ae9d82ddcd9c16e77299804dd46507c41a364d737dbb", checked := Try.checked }
namespace Rows
def none {H : Type} : Left H := { results := [], args := [] }

/-- 'hansardlaw39.AuditSpec': WHATEVER THE INPUT: true; the input reads as it did. -/
def auditSpecSpec : ChangeSpec := { name := "auditSpec", fn := fun _ => fun
  | [d1, d2, d3] => { results := [.lit (.bool true)], args := [d1, d2, d3] }
  | _ => none }
def auditSpecRow : OpenClaim := { program := "ytccmomebpdiimaa", sum := "432f7301b0e52e1134b5ae9d82ddcd9c16e77299804dd46507c41a364d737dbb", func := "hansard/hansardlaw39.AuditSpec", spec := "auditSpec", unfollowed := true, recurses := true, apart := false }
def AuditSpecSaid : Prop := auditSpecRow.holds Try.pinned (OpenSpec.ofChange auditSpecSpec)

/-- ITS FALSE NEIGHBOUR: 'it returns false'. Refute it at one input. -/
def auditSpecWrong : ChangeSpec := { name := "auditSpec", fn := fun _ => fun
  | [d1, d2, d3] => { results := [.lit (.bool false)], args := [d1, d2, d3] }
  | _ => none }
def AuditSpecWrongFalsely : Prop := auditSpecRow.holds Try.pinned (OpenSpec.ofChange auditSpecWrong)

/-- 'hansardlaw39.AuditBreaksSpec': WHATEVER THE INPUT: true; the input reads as it did. -/
def auditBreaksSpecSpec : ChangeSpec := { name := "auditBreaksSpec", fn := fun _ => fun
  | [d1, d2, d3, d4, d5, d6] => { results := [.lit (.bool true)], args := [d1, d2, d3, d4, d5, d6] }
  | _ => none }
def auditBreaksSpecRow : OpenClaim := { program := "ytccmomebpdiimaa", sum := "432f7301b0e52e1134b5ae9d82ddcd9c16e77299804dd46507c41a364d737dbb", func := "hansard/hansardlaw39.AuditBreaksSpec", spec := "auditBreaksSpec", unfollowed := true, recurses := true, apart := false }
def AuditBreaksSpecSaid : Prop := auditBreaksSpecRow.holds Try.pinned (OpenSpec.ofChange auditBreaksSpecSpec)

/-- ITS FALSE NEIGHBOUR: 'it returns false'. Refute it at one input. -/
def auditBreaksSpecWrong : ChangeSpec := { name := "auditBreaksSpec", fn := fun _ => fun
  | [d1, d2, d3, d4, d5, d6] => { results := [.lit (.bool false)], args := [d1, d2, d3, d4, d5, d6] }
  | _ => none }
def AuditBreaksSpecWrongFalsely : Prop := auditBreaksSpecRow.holds Try.pinned (OpenSpec.ofChange auditBreaksSpecWrong)

/-- 'hansardlaw39.AuditFirst': WHATEVER THE INPUT: true; the input reads as it did. -/
def auditFirstSpec : ChangeSpec := { name := "auditFirst", fn := fun _ => fun
  | [d1, d2, d3, d4, d5, d6] => { results := [.lit (.bool true)], args := [d1, d2, d3, d4, d5, d6] }
  | _ => none }
def auditFirstRow : OpenClaim := { program := "ytccmomebpdiimaa", sum := "432f7301b0e52e1134b5ae9d82ddcd9c16e77299804dd46507c41a364d737dbb", func := "hansard/hansardlaw39.AuditFirst", spec := "auditFirst", unfollowed := true, recurses := true, apart := false }
def AuditFirstSaid : Prop := auditFirstRow.holds Try.pinned (OpenSpec.ofChange auditFirstSpec)

/-- ITS FALSE NEIGHBOUR: 'it returns false'. Refute it at one input. -/
def auditFirstWrong : ChangeSpec := { name := "auditFirst", fn := fun _ => fun
  | [d1, d2, d3, d4, d5, d6] => { results := [.lit (.bool false)], args := [d1, d2, d3, d4, d5, d6] }
  | _ => none }
def AuditFirstWrongFalsely : Prop := auditFirstRow.holds Try.pinned (OpenSpec.ofChange auditFirstWrong)

/-- 'hansardlaw39.AuditEnded': WHATEVER THE INPUT: true; the input reads as it did. -/
def auditEndedSpec : ChangeSpec := { name := "auditEnded", fn := fun _ => fun
  | [d1, d2, d3] => { results := [.lit (.bool true)], args := [d1, d2, d3] }
  | _ => none }
def auditEndedRow : OpenClaim := { program := "ytccmomebpdiimaa", sum := "432f7301b0e52e1134b5ae9d82ddcd9c16e77299804dd46507c41a364d737dbb", func := "hansard/hansardlaw39.AuditEnded", spec := "auditEnded", unfollowed := true, recurses := true, apart := false }
def AuditEndedSaid : Prop := auditEndedRow.holds Try.pinned (OpenSpec.ofChange auditEndedSpec)

/-- ITS FALSE NEIGHBOUR: 'it returns false'. Refute it at one input. -/
def auditEndedWrong : ChangeSpec := { name := "auditEnded", fn := fun _ => fun
  | [d1, d2, d3] => { results := [.lit (.bool false)], args := [d1, d2, d3] }
  | _ => none }
def AuditEndedWrongFalsely : Prop := auditEndedRow.holds Try.pinned (OpenSpec.ofChange auditEndedWrong)

/-- 'hansardlaw39.AuditLater': WHATEVER THE INPUT: true; the input reads as it did. -/
def auditLaterSpec : ChangeSpec := { name := "auditLater", fn := fun _ => fun
  | [d1, d2, d3, d4] => { results := [.lit (.bool true)], args := [d1, d2, d3, d4] }
  | _ => none }
def auditLaterRow : OpenClaim := { program := "ytccmomebpdiimaa", sum := "432f7301b0e52e1134b5ae9d82ddcd9c16e77299804dd46507c41a364d737dbb", func := "hansard/hansardlaw39.AuditLater", spec := "auditLater", unfollowed := true, recurses := true, apart := false }
def AuditLaterSaid : Prop := auditLaterRow.holds Try.pinned (OpenSpec.ofChange auditLaterSpec)

/-- ITS FALSE NEIGHBOUR: 'it returns false'. Refute it at one input. -/
def auditLaterWrong : ChangeSpec := { name := "auditLater", fn := fun _ => fun
  | [d1, d2, d3, d4] => { results := [.lit (.bool false)], args := [d1, d2, d3, d4] }
  | _ => none }
def AuditLaterWrongFalsely : Prop := auditLaterRow.holds Try.pinned (OpenSpec.ofChange auditLaterWrong)

/-- 'hansardlaw38.ReleasesSpec': WHATEVER THE INPUT: true; the input reads as it did. -/
def releasesSpecSpec : ChangeSpec := { name := "releasesSpec", fn := fun _ => fun
  | [d1, d2, d3, d4, d5] => { results := [.lit (.bool true)], args := [d1, d2, d3, d4, d5] }
  | _ => none }
def releasesSpecRow : OpenClaim := { program := "ytccmomebpdiimaa", sum := "432f7301b0e52e1134b5ae9d82ddcd9c16e77299804dd46507c41a364d737dbb", func := "hansard/hansardlaw38.ReleasesSpec", spec := "releasesSpec", unfollowed := true, recurses := true, apart := false }
def ReleasesSpecSaid : Prop := releasesSpecRow.holds Try.pinned (OpenSpec.ofChange releasesSpecSpec)

/-- ITS FALSE NEIGHBOUR: 'it returns false'. Refute it at one input. -/
def releasesSpecWrong : ChangeSpec := { name := "releasesSpec", fn := fun _ => fun
  | [d1, d2, d3, d4, d5] => { results := [.lit (.bool false)], args := [d1, d2, d3, d4, d5] }
  | _ => none }
def ReleasesSpecWrongFalsely : Prop := releasesSpecRow.holds Try.pinned (OpenSpec.ofChange releasesSpecWrong)

/-- 'hansardlaw38.ReleasesNextSpec': WHATEVER THE INPUT: true; the input reads as it did. -/
def releasesNextSpecSpec : ChangeSpec := { name := "releasesNextSpec", fn := fun _ => fun
  | [d1, d2, d3, d4, d5, d6] => { results := [.lit (.bool true)], args := [d1, d2, d3, d4, d5, d6] }
  | _ => none }
def releasesNextSpecRow : OpenClaim := { program := "ytccmomebpdiimaa", sum := "432f7301b0e52e1134b5ae9d82ddcd9c16e77299804dd46507c41a364d737dbb", func := "hansard/hansardlaw38.ReleasesNextSpec", spec := "releasesNextSpec", unfollowed := true, recurses := true, apart := false }
def ReleasesNextSpecSaid : Prop := releasesNextSpecRow.holds Try.pinned (OpenSpec.ofChange releasesNextSpecSpec)

/-- ITS FALSE NEIGHBOUR: 'it returns false'. Refute it at one input. -/
def releasesNextSpecWrong : ChangeSpec := { name := "releasesNextSpec", fn := fun _ => fun
  | [d1, d2, d3, d4, d5, d6] => { results := [.lit (.bool false)], args := [d1, d2, d3, d4, d5, d6] }
  | _ => none }
def ReleasesNextSpecWrongFalsely : Prop := releasesNextSpecRow.holds Try.pinned (OpenSpec.ofChange releasesNextSpecWrong)

/-- 'hansardlaw38.ReleasesNext': WHATEVER THE INPUT: true; the input reads as it did. -/
def releasesNextSpec : ChangeSpec := { name := "releasesNext", fn := fun _ => fun
  | [d1, d2, d3, d4, d5, d6, d7] => { results := [.lit (.bool true)], args := [d1, d2, d3, d4, d5, d6, d7] }
  | _ => none }
def releasesNextRow : OpenClaim := { program := "ytccmomebpdiimaa", sum := "432f7301b0e52e1134b5ae9d82ddcd9c16e77299804dd46507c41a364d737dbb", func := "hansard/hansardlaw38.ReleasesNext", spec := "releasesNext", unfollowed := true, recurses := true, apart := false }
def ReleasesNextSaid : Prop := releasesNextRow.holds Try.pinned (OpenSpec.ofChange releasesNextSpec)

/-- ITS FALSE NEIGHBOUR: 'it returns false'. Refute it at one input. -/
def releasesNextWrong : ChangeSpec := { name := "releasesNext", fn := fun _ => fun
  | [d1, d2, d3, d4, d5, d6, d7] => { results := [.lit (.bool false)], args := [d1, d2, d3, d4, d5, d6, d7] }
  | _ => none }
def ReleasesNextWrongFalsely : Prop := releasesNextRow.holds Try.pinned (OpenSpec.ofChange releasesNextWrong)

/- THE SECOND FORM. 'bulk': how many values and letters a reading holds, each counted each time it is reached (what is shared counts as often as it is met; a slice's spare places count too). A statement '..UptoSaid' is the law's where the arguments, and the package variables that the reading takes, are together of bulk at most 1048576: NARROWER than '..Said'. Prove '..Said' where nothing that the law and all that it calls make is longer than what came in: it says more and counts as full. Else prove '..UptoSaid'. A law counts once. -/
mutual
def uptoBulk {H : Type} : DataW H → Nat
  | .lit (.string bytes) => bytes.length + 1
  | .lit _ => 1
  | .nil => 1
  | .ptr d => uptoBulk d + 1
  | .slice elems spare => uptoBulkAll elems + uptoBulkAll spare + 1
  | .agg parts => uptoBulkAll parts + 1
  | .iface _ d => uptoBulk d + 1
  | .map entries => uptoBulkEntries entries + 1
  | .held _ => 1
def uptoBulkAll {H : Type} : List (DataW H) → Nat
  | [] => 0
  | d :: r => uptoBulk d + uptoBulkAll r
def uptoBulkEntries {H : Type} : List (Lit × DataW H) → Nat
  | [] => 0
  | x :: r => uptoBulkEntry x + uptoBulkEntries r
def uptoBulkEntry {H : Type} : Lit × DataW H → Nat
  | (.string bytes, d) => bytes.length + uptoBulk d + 1
  | (_, d) => uptoBulk d + 1
 end
def uptoSmall : (H : Type) → List (DataW H) → Bool := fun _ ds => decide (uptoBulkAll ds ≤ 1048576)
def OpenSpec.upto (s : _root_.Go.ChangeSpec) : _root_.Go.OpenSpec := { _root_.Go.OpenSpec.ofChange s with cond := some uptoSmall }

/-- 'hansardlaw39.AuditSpec', WHERE WHAT IT READS IS OF BULK AT MOST 1048576: true; the input reads as it did. -/
def auditSpecUptoRow : OpenClaim := { program := "ytccmomebpdiimaa", sum := "432f7301b0e52e1134b5ae9d82ddcd9c16e77299804dd46507c41a364d737dbb", func := "hansard/hansardlaw39.AuditSpec", spec := "auditSpec", unfollowed := true, recurses := true, apart := false, narrowed := true }
def AuditSpecUptoSaid : Prop := auditSpecUptoRow.holds Try.pinned (OpenSpec.upto auditSpecSpec)

/-- 'hansardlaw39.AuditBreaksSpec', WHERE WHAT IT READS IS OF BULK AT MOST 1048576: true; the input reads as it did. -/
def auditBreaksSpecUptoRow : OpenClaim := { program := "ytccmomebpdiimaa", sum := "432f7301b0e52e1134b5ae9d82ddcd9c16e77299804dd46507c41a364d737dbb", func := "hansard/hansardlaw39.AuditBreaksSpec", spec := "auditBreaksSpec", unfollowed := true, recurses := true, apart := false, narrowed := true }
def AuditBreaksSpecUptoSaid : Prop := auditBreaksSpecUptoRow.holds Try.pinned (OpenSpec.upto auditBreaksSpecSpec)

/-- 'hansardlaw39.AuditFirst', WHERE WHAT IT READS IS OF BULK AT MOST 1048576: true; the input reads as it did. -/
def auditFirstUptoRow : OpenClaim := { program := "ytccmomebpdiimaa", sum := "432f7301b0e52e1134b5ae9d82ddcd9c16e77299804dd46507c41a364d737dbb", func := "hansard/hansardlaw39.AuditFirst", spec := "auditFirst", unfollowed := true, recurses := true, apart := false, narrowed := true }
def AuditFirstUptoSaid : Prop := auditFirstUptoRow.holds Try.pinned (OpenSpec.upto auditFirstSpec)

/-- 'hansardlaw39.AuditEnded', WHERE WHAT IT READS IS OF BULK AT MOST 1048576: true; the input reads as it did. -/
def auditEndedUptoRow : OpenClaim := { program := "ytccmomebpdiimaa", sum := "432f7301b0e52e1134b5ae9d82ddcd9c16e77299804dd46507c41a364d737dbb", func := "hansard/hansardlaw39.AuditEnded", spec := "auditEnded", unfollowed := true, recurses := true, apart := false, narrowed := true }
def AuditEndedUptoSaid : Prop := auditEndedUptoRow.holds Try.pinned (OpenSpec.upto auditEndedSpec)

/-- 'hansardlaw39.AuditLater', WHERE WHAT IT READS IS OF BULK AT MOST 1048576: true; the input reads as it did. -/
def auditLaterUptoRow : OpenClaim := { program := "ytccmomebpdiimaa", sum := "432f7301b0e52e1134b5ae9d82ddcd9c16e77299804dd46507c41a364d737dbb", func := "hansard/hansardlaw39.AuditLater", spec := "auditLater", unfollowed := true, recurses := true, apart := false, narrowed := true }
def AuditLaterUptoSaid : Prop := auditLaterUptoRow.holds Try.pinned (OpenSpec.upto auditLaterSpec)

/-- 'hansardlaw38.ReleasesSpec', WHERE WHAT IT READS IS OF BULK AT MOST 1048576: true; the input reads as it did. -/
def releasesSpecUptoRow : OpenClaim := { program := "ytccmomebpdiimaa", sum := "432f7301b0e52e1134b5ae9d82ddcd9c16e77299804dd46507c41a364d737dbb", func := "hansard/hansardlaw38.ReleasesSpec", spec := "releasesSpec", unfollowed := true, recurses := true, apart := false, narrowed := true }
def ReleasesSpecUptoSaid : Prop := releasesSpecUptoRow.holds Try.pinned (OpenSpec.upto releasesSpecSpec)

/-- 'hansardlaw38.ReleasesNextSpec', WHERE WHAT IT READS IS OF BULK AT MOST 1048576: true; the input reads as it did. -/
def releasesNextSpecUptoRow : OpenClaim := { program := "ytccmomebpdiimaa", sum := "432f7301b0e52e1134b5ae9d82ddcd9c16e77299804dd46507c41a364d737dbb", func := "hansard/hansardlaw38.ReleasesNextSpec", spec := "releasesNextSpec", unfollowed := true, recurses := true, apart := false, narrowed := true }
def ReleasesNextSpecUptoSaid : Prop := releasesNextSpecUptoRow.holds Try.pinned (OpenSpec.upto releasesNextSpecSpec)

/-- 'hansardlaw38.ReleasesNext', WHERE WHAT IT READS IS OF BULK AT MOST 1048576: true; the input reads as it did. -/
def releasesNextUptoRow : OpenClaim := { program := "ytccmomebpdiimaa", sum := "432f7301b0e52e1134b5ae9d82ddcd9c16e77299804dd46507c41a364d737dbb", func := "hansard/hansardlaw38.ReleasesNext", spec := "releasesNext", unfollowed := true, recurses := true, apart := false, narrowed := true }
def ReleasesNextUptoSaid : Prop := releasesNextUptoRow.holds Try.pinned (OpenSpec.upto releasesNextSpec)

end Rows
end Go.Proofs.Ytccmomebpdiimaa
