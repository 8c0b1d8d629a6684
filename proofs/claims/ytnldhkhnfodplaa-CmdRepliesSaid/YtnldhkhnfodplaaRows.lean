/-
  No cell of these rows narrows 'for every input' (looked for: loops, veiled, ifaces, maps, wideKeys, modest, calm, conditions, laid).
  DERIVED. THE GIVEN ROWS OF THIS SEAT. 12 by the template 'for every input the law returns true; each argument reads behind the call as it read before'; 0 by the template 'total and deterministic' (their statements: YtnldhkhnfodplaaTotals.lean).
  GIVEN WITH THE SEED: the statements are not yours to turn. If you find one false, say at which input.
  Laid BY PROGRAM, IN A SANDBOX (cutbox-rows.mjs): the forced cells as the released guide's own fill.sh prints them over the translation 377b3ea5bc4eaecf… (all of the seat's roots in one cut). By AI agents, Wed Nov 11 2026. No macro, syntax, notation, axiom, sorry.
-/
import Derived.Test.YtnldhkhnfodplaaChecked
import GoSem.Claim
import GoSem.ClaimJoined
import GoSem.ClaimMapViews
import Derived.JoinedTies
import Derived.KernelRfl
namespace Go.Proofs.Ytnldhkhnfodplaa
/- THE CELL 'sum', in the pinned program and in every row, IS THE sha256 OF THE DUMP (.gsa) THAT YtnldhkhnfodplaaProg.lean LOADS. Nothing in Lean hashes anything: it is a label: what it is worth is what the hold of that sum in a sandbox is worth. -/
noncomputable def Try.pinned : Pinned := { name := "ytnldhkhnfodplaa", sum := "377b3ea5bc4eaecf66f470042e42b84901bf93dc21a72f0cb43bd1fcbf5f2968", checked := Try.checked }
namespace Rows
def none {H : Type} : Left H := { results := [], args := [] }

/-- 'novationlaw28.PhaseRises': WHATEVER THE INPUT: true; the input reads as it did. -/
def phaseRisesSpec : ChangeSpec := { name := "phaseRises", fn := fun _ => fun
  | [d1, d2, d3] => { results := [.lit (.bool true)], args := [d1, d2, d3] }
  | _ => none }
def phaseRisesRow : OpenClaim := { program := "ytnldhkhnfodplaa", sum := "377b3ea5bc4eaecf66f470042e42b84901bf93dc21a72f0cb43bd1fcbf5f2968", func := "novation/novationlaw28.PhaseRises", spec := "phaseRises", plainKeys := false, apart := false }
def PhaseRisesSaid : Prop := phaseRisesRow.holds Try.pinned (OpenSpec.ofChange phaseRisesSpec)

/-- ITS FALSE NEIGHBOUR: 'it returns false'. Refute it at one input. -/
def phaseRisesWrong : ChangeSpec := { name := "phaseRises", fn := fun _ => fun
  | [d1, d2, d3] => { results := [.lit (.bool false)], args := [d1, d2, d3] }
  | _ => none }
def PhaseRisesWrongFalsely : Prop := phaseRisesRow.holds Try.pinned (OpenSpec.ofChange phaseRisesWrong)

/-- 'novationlaw28.PhaseSoon': WHATEVER THE INPUT: true; the input reads as it did. -/
def phaseSoonSpec : ChangeSpec := { name := "phaseSoon", fn := fun _ => fun
  | [d1, d2] => { results := [.lit (.bool true)], args := [d1, d2] }
  | _ => none }
def phaseSoonRow : OpenClaim := { program := "ytnldhkhnfodplaa", sum := "377b3ea5bc4eaecf66f470042e42b84901bf93dc21a72f0cb43bd1fcbf5f2968", func := "novation/novationlaw28.PhaseSoon", spec := "phaseSoon", plainKeys := false, apart := false }
def PhaseSoonSaid : Prop := phaseSoonRow.holds Try.pinned (OpenSpec.ofChange phaseSoonSpec)

/-- ITS FALSE NEIGHBOUR: 'it returns false'. Refute it at one input. -/
def phaseSoonWrong : ChangeSpec := { name := "phaseSoon", fn := fun _ => fun
  | [d1, d2] => { results := [.lit (.bool false)], args := [d1, d2] }
  | _ => none }
def PhaseSoonWrongFalsely : Prop := phaseSoonRow.holds Try.pinned (OpenSpec.ofChange phaseSoonWrong)

/-- 'novationlaw28.PhaseSteps': WHATEVER THE INPUT: true; the input reads as it did. -/
def phaseStepsSpec : ChangeSpec := { name := "phaseSteps", fn := fun _ => fun
  | [d1, d2, d3] => { results := [.lit (.bool true)], args := [d1, d2, d3] }
  | _ => none }
def phaseStepsRow : OpenClaim := { program := "ytnldhkhnfodplaa", sum := "377b3ea5bc4eaecf66f470042e42b84901bf93dc21a72f0cb43bd1fcbf5f2968", func := "novation/novationlaw28.PhaseSteps", spec := "phaseSteps", plainKeys := false, apart := false }
def PhaseStepsSaid : Prop := phaseStepsRow.holds Try.pinned (OpenSpec.ofChange phaseStepsSpec)

/-- ITS FALSE NEIGHBOUR: 'it returns false'. Refute it at one input. -/
def phaseStepsWrong : ChangeSpec := { name := "phaseSteps", fn := fun _ => fun
  | [d1, d2, d3] => { results := [.lit (.bool false)], args := [d1, d2, d3] }
  | _ => none }
def PhaseStepsWrongFalsely : Prop := phaseStepsRow.holds Try.pinned (OpenSpec.ofChange phaseStepsWrong)

/-- 'novationlaw04.PackWrites': WHATEVER THE INPUT: true; the input reads as it did. -/
def packWritesSpec : ChangeSpec := { name := "packWrites", fn := fun _ => fun
  | [d] => { results := [.lit (.bool true)], args := [d] }
  | _ => none }
def packWritesRow : OpenClaim := { program := "ytnldhkhnfodplaa", sum := "377b3ea5bc4eaecf66f470042e42b84901bf93dc21a72f0cb43bd1fcbf5f2968", func := "novation/novationlaw04.PackWrites", spec := "packWrites", plainKeys := false, apart := false }
def PackWritesSaid : Prop := packWritesRow.holds Try.pinned (OpenSpec.ofChange packWritesSpec)

/-- ITS FALSE NEIGHBOUR: 'it returns false'. Refute it at one input. -/
def packWritesWrong : ChangeSpec := { name := "packWrites", fn := fun _ => fun
  | [d] => { results := [.lit (.bool false)], args := [d] }
  | _ => none }
def PackWritesWrongFalsely : Prop := packWritesRow.holds Try.pinned (OpenSpec.ofChange packWritesWrong)

/-- 'novationlaw04.PackBack': WHATEVER THE INPUT: true; the input reads as it did. -/
def packBackSpec : ChangeSpec := { name := "packBack", fn := fun _ => fun
  | [d1, d2, d3] => { results := [.lit (.bool true)], args := [d1, d2, d3] }
  | _ => none }
def packBackRow : OpenClaim := { program := "ytnldhkhnfodplaa", sum := "377b3ea5bc4eaecf66f470042e42b84901bf93dc21a72f0cb43bd1fcbf5f2968", func := "novation/novationlaw04.PackBack", spec := "packBack", plainKeys := false, apart := false }
def PackBackSaid : Prop := packBackRow.holds Try.pinned (OpenSpec.ofChange packBackSpec)

/-- ITS FALSE NEIGHBOUR: 'it returns false'. Refute it at one input. -/
def packBackWrong : ChangeSpec := { name := "packBack", fn := fun _ => fun
  | [d1, d2, d3] => { results := [.lit (.bool false)], args := [d1, d2, d3] }
  | _ => none }
def PackBackWrongFalsely : Prop := packBackRow.holds Try.pinned (OpenSpec.ofChange packBackWrong)

/-- 'novationlaw04.PackNobody': WHATEVER THE INPUT: true; the input reads as it did. -/
def packNobodySpec : ChangeSpec := { name := "packNobody", fn := fun _ => fun
  | [d1, d2, d3, d4] => { results := [.lit (.bool true)], args := [d1, d2, d3, d4] }
  | _ => none }
def packNobodyRow : OpenClaim := { program := "ytnldhkhnfodplaa", sum := "377b3ea5bc4eaecf66f470042e42b84901bf93dc21a72f0cb43bd1fcbf5f2968", func := "novation/novationlaw04.PackNobody", spec := "packNobody", plainKeys := false, apart := false }
def PackNobodySaid : Prop := packNobodyRow.holds Try.pinned (OpenSpec.ofChange packNobodySpec)

/-- ITS FALSE NEIGHBOUR: 'it returns false'. Refute it at one input. -/
def packNobodyWrong : ChangeSpec := { name := "packNobody", fn := fun _ => fun
  | [d1, d2, d3, d4] => { results := [.lit (.bool false)], args := [d1, d2, d3, d4] }
  | _ => none }
def PackNobodyWrongFalsely : Prop := packNobodyRow.holds Try.pinned (OpenSpec.ofChange packNobodyWrong)

/-- 'novationlaw39.AuditChecks': WHATEVER THE INPUT: true; the input reads as it did. -/
def auditChecksSpec : ChangeSpec := { name := "auditChecks", fn := fun _ => fun
  | [d1, d2] => { results := [.lit (.bool true)], args := [d1, d2] }
  | _ => none }
def auditChecksRow : OpenClaim := { program := "ytnldhkhnfodplaa", sum := "377b3ea5bc4eaecf66f470042e42b84901bf93dc21a72f0cb43bd1fcbf5f2968", func := "novation/novationlaw39.AuditChecks", spec := "auditChecks", inPlace := ["math/bits.Add64", "math/bits.Sub64"], plainKeys := false, apart := false }
def AuditChecksSaid : Prop := auditChecksRow.holds Try.pinned (OpenSpec.ofChange auditChecksSpec)

/-- ITS FALSE NEIGHBOUR: 'it returns false'. Refute it at one input. -/
def auditChecksWrong : ChangeSpec := { name := "auditChecks", fn := fun _ => fun
  | [d1, d2] => { results := [.lit (.bool false)], args := [d1, d2] }
  | _ => none }
def AuditChecksWrongFalsely : Prop := auditChecksRow.holds Try.pinned (OpenSpec.ofChange auditChecksWrong)

/-- 'novationlaw39.AuditSums': WHATEVER THE INPUT: true; the input reads as it did. -/
def auditSumsSpec : ChangeSpec := { name := "auditSums", fn := fun _ => fun
  | [d1, d2, d3] => { results := [.lit (.bool true)], args := [d1, d2, d3] }
  | _ => none }
def auditSumsRow : OpenClaim := { program := "ytnldhkhnfodplaa", sum := "377b3ea5bc4eaecf66f470042e42b84901bf93dc21a72f0cb43bd1fcbf5f2968", func := "novation/novationlaw39.AuditSums", spec := "auditSums", inPlace := ["math/bits.Sub64", "math/bits.Add64"], unfollowed := true, recurses := true, plainKeys := false, apart := false }
def AuditSumsSaid : Prop := auditSumsRow.holds Try.pinned (OpenSpec.ofChange auditSumsSpec)

/-- ITS FALSE NEIGHBOUR: 'it returns false'. Refute it at one input. -/
def auditSumsWrong : ChangeSpec := { name := "auditSums", fn := fun _ => fun
  | [d1, d2, d3] => { results := [.lit (.bool false)], args := [d1, d2, d3] }
  | _ => none }
def AuditSumsWrongFalsely : Prop := auditSumsRow.holds Try.pinned (OpenSpec.ofChange auditSumsWrong)

/-- 'novationlaw34.CmdEncodes': WHATEVER THE INPUT: true; the input reads as it did. -/
def cmdEncodesSpec : ChangeSpec := { name := "cmdEncodes", fn := fun _ => fun
  | [d1, d2] => { results := [.lit (.bool true)], args := [d1, d2] }
  | _ => none }
def cmdEncodesRow : OpenClaim := { program := "ytnldhkhnfodplaa", sum := "377b3ea5bc4eaecf66f470042e42b84901bf93dc21a72f0cb43bd1fcbf5f2968", func := "novation/novationlaw34.CmdEncodes", spec := "cmdEncodes", plainKeys := false, apart := false }
def CmdEncodesSaid : Prop := cmdEncodesRow.holds Try.pinned (OpenSpec.ofChange cmdEncodesSpec)

/-- ITS FALSE NEIGHBOUR: 'it returns false'. Refute it at one input. -/
def cmdEncodesWrong : ChangeSpec := { name := "cmdEncodes", fn := fun _ => fun
  | [d1, d2] => { results := [.lit (.bool false)], args := [d1, d2] }
  | _ => none }
def CmdEncodesWrongFalsely : Prop := cmdEncodesRow.holds Try.pinned (OpenSpec.ofChange cmdEncodesWrong)

/-- 'novationlaw34.CmdDecodes': WHATEVER THE INPUT: true; the input reads as it did. -/
def cmdDecodesSpec : ChangeSpec := { name := "cmdDecodes", fn := fun _ => fun
  | [d1, d2] => { results := [.lit (.bool true)], args := [d1, d2] }
  | _ => none }
def cmdDecodesRow : OpenClaim := { program := "ytnldhkhnfodplaa", sum := "377b3ea5bc4eaecf66f470042e42b84901bf93dc21a72f0cb43bd1fcbf5f2968", func := "novation/novationlaw34.CmdDecodes", spec := "cmdDecodes", plainKeys := false, apart := false }
def CmdDecodesSaid : Prop := cmdDecodesRow.holds Try.pinned (OpenSpec.ofChange cmdDecodesSpec)

/-- ITS FALSE NEIGHBOUR: 'it returns false'. Refute it at one input. -/
def cmdDecodesWrong : ChangeSpec := { name := "cmdDecodes", fn := fun _ => fun
  | [d1, d2] => { results := [.lit (.bool false)], args := [d1, d2] }
  | _ => none }
def CmdDecodesWrongFalsely : Prop := cmdDecodesRow.holds Try.pinned (OpenSpec.ofChange cmdDecodesWrong)

/-- 'novationlaw34.CmdReplies': WHATEVER THE INPUT: true; the input reads as it did. -/
def cmdRepliesSpec : ChangeSpec := { name := "cmdReplies", fn := fun _ => fun
  | [d1, d2] => { results := [.lit (.bool true)], args := [d1, d2] }
  | _ => none }
def cmdRepliesRow : OpenClaim := { program := "ytnldhkhnfodplaa", sum := "377b3ea5bc4eaecf66f470042e42b84901bf93dc21a72f0cb43bd1fcbf5f2968", func := "novation/novationlaw34.CmdReplies", spec := "cmdReplies", plainKeys := false, apart := false }
def CmdRepliesSaid : Prop := cmdRepliesRow.holds Try.pinned (OpenSpec.ofChange cmdRepliesSpec)

/-- ITS FALSE NEIGHBOUR: 'it returns false'. Refute it at one input. -/
def cmdRepliesWrong : ChangeSpec := { name := "cmdReplies", fn := fun _ => fun
  | [d1, d2] => { results := [.lit (.bool false)], args := [d1, d2] }
  | _ => none }
def CmdRepliesWrongFalsely : Prop := cmdRepliesRow.holds Try.pinned (OpenSpec.ofChange cmdRepliesWrong)

/-- 'novationlaw17.PurseTurns': WHATEVER THE INPUT: true; the input reads as it did. -/
def purseTurnsSpec : ChangeSpec := { name := "purseTurns", fn := fun _ => fun
  | [d1, d2] => { results := [.lit (.bool true)], args := [d1, d2] }
  | _ => none }
def purseTurnsRow : OpenClaim := { program := "ytnldhkhnfodplaa", sum := "377b3ea5bc4eaecf66f470042e42b84901bf93dc21a72f0cb43bd1fcbf5f2968", func := "novation/novationlaw17.PurseTurns", spec := "purseTurns", inPlace := ["math/bits.Add64"], unfollowed := true, recurses := true, plainKeys := false, apart := false }
def PurseTurnsSaid : Prop := purseTurnsRow.holds Try.pinned (OpenSpec.ofChange purseTurnsSpec)

/-- ITS FALSE NEIGHBOUR: 'it returns false'. Refute it at one input. -/
def purseTurnsWrong : ChangeSpec := { name := "purseTurns", fn := fun _ => fun
  | [d1, d2] => { results := [.lit (.bool false)], args := [d1, d2] }
  | _ => none }
def PurseTurnsWrongFalsely : Prop := purseTurnsRow.holds Try.pinned (OpenSpec.ofChange purseTurnsWrong)

/- THE SECOND FORM. 'bulk': how many values and letters a reading holds, each counted each time it is reached (what is shared counts as often as it is met; a slice's spare places count too). A statement '..UptoSaid' is the law's where the arguments, and the package variables that the reading takes, are together of bulk at most 1048576: NARROWER than '..Said'. Prove '..Said' where nothing that the law and all that it calls make is longer than what came in: it says more and counts as full. Else prove '..UptoSaid'. A law counts once. -/
mutual
def uptoBulk {H : Type} : DataW H → Nat
  | .lit (.string bytes) => bytes.length + 1
  | .lit _ => 1
  | .nil => 1
  | .ptr d => uptoBulk d + 1
  | .slice elems spare => uptoBulkAll elems + uptoBulkAll spare + 1
  | .agg parts => uptoBulkAll parts + 1
  | .iface _ d => uptoBulk d + 1
  | .map entries => uptoBulkEntries entries + 1
  | .held _ => 1
def uptoBulkAll {H : Type} : List (DataW H) → Nat
  | [] => 0
  | d :: r => uptoBulk d + uptoBulkAll r
def uptoBulkEntries {H : Type} : List (Lit × DataW H) → Nat
  | [] => 0
  | x :: r => uptoBulkEntry x + uptoBulkEntries r
def uptoBulkEntry {H : Type} : Lit × DataW H → Nat
  | (.string bytes, d) => bytes.length + uptoBulk d + 1
  | (_, d) => uptoBulk d + 1
 end
def uptoSmall : (H : Type) → List (DataW H) → Bool := fun _ ds => decide (uptoBulkAll ds ≤ 1048576)
def OpenSpec.upto (s : _root_.Go.ChangeSpec) : _root_.Go.OpenSpec := { _root_.Go.OpenSpec.ofChange s with cond := some uptoSmall }

/-- 'novationlaw28.PhaseRises', WHERE WHAT IT READS IS OF BULK AT MOST 1048576: true; the input reads as it did. -/
def phaseRisesUptoRow : OpenClaim := { program := "ytnldhkhnfodplaa", sum := "377b3ea5bc4eaecf66f470042e42b84901bf93dc21a72f0cb43bd1fcbf5f2968", func := "novation/novationlaw28.PhaseRises", spec := "phaseRises", plainKeys := false, apart := false, narrowed := true }
def PhaseRisesUptoSaid : Prop := phaseRisesUptoRow.holds Try.pinned (OpenSpec.upto phaseRisesSpec)

/-- 'novationlaw28.PhaseSoon', WHERE WHAT IT READS IS OF BULK AT MOST 1048576: true; the input reads as it did. -/
def phaseSoonUptoRow : OpenClaim := { program := "ytnldhkhnfodplaa", sum := "377b3ea5bc4eaecf66f470042e42b84901bf93dc21a72f0cb43bd1fcbf5f2968", func := "novation/novationlaw28.PhaseSoon", spec := "phaseSoon", plainKeys := false, apart := false, narrowed := true }
def PhaseSoonUptoSaid : Prop := phaseSoonUptoRow.holds Try.pinned (OpenSpec.upto phaseSoonSpec)

/-- 'novationlaw28.PhaseSteps', WHERE WHAT IT READS IS OF BULK AT MOST 1048576: true; the input reads as it did. -/
def phaseStepsUptoRow : OpenClaim := { program := "ytnldhkhnfodplaa", sum := "377b3ea5bc4eaecf66f470042e42b84901bf93dc21a72f0cb43bd1fcbf5f2968", func := "novation/novationlaw28.PhaseSteps", spec := "phaseSteps", plainKeys := false, apart := false, narrowed := true }
def PhaseStepsUptoSaid : Prop := phaseStepsUptoRow.holds Try.pinned (OpenSpec.upto phaseStepsSpec)

/-- 'novationlaw04.PackWrites', WHERE WHAT IT READS IS OF BULK AT MOST 1048576: true; the input reads as it did. -/
def packWritesUptoRow : OpenClaim := { program := "ytnldhkhnfodplaa", sum := "377b3ea5bc4eaecf66f470042e42b84901bf93dc21a72f0cb43bd1fcbf5f2968", func := "novation/novationlaw04.PackWrites", spec := "packWrites", plainKeys := false, apart := false, narrowed := true }
def PackWritesUptoSaid : Prop := packWritesUptoRow.holds Try.pinned (OpenSpec.upto packWritesSpec)

/-- 'novationlaw04.PackBack', WHERE WHAT IT READS IS OF BULK AT MOST 1048576: true; the input reads as it did. -/
def packBackUptoRow : OpenClaim := { program := "ytnldhkhnfodplaa", sum := "377b3ea5bc4eaecf66f470042e42b84901bf93dc21a72f0cb43bd1fcbf5f2968", func := "novation/novationlaw04.PackBack", spec := "packBack", plainKeys := false, apart := false, narrowed := true }
def PackBackUptoSaid : Prop := packBackUptoRow.holds Try.pinned (OpenSpec.upto packBackSpec)

/-- 'novationlaw04.PackNobody', WHERE WHAT IT READS IS OF BULK AT MOST 1048576: true; the input reads as it did. -/
def packNobodyUptoRow : OpenClaim := { program := "ytnldhkhnfodplaa", sum := "377b3ea5bc4eaecf66f470042e42b84901bf93dc21a72f0cb43bd1fcbf5f2968", func := "novation/novationlaw04.PackNobody", spec := "packNobody", plainKeys := false, apart := false, narrowed := true }
def PackNobodyUptoSaid : Prop := packNobodyUptoRow.holds Try.pinned (OpenSpec.upto packNobodySpec)

/-- 'novationlaw39.AuditChecks', WHERE WHAT IT READS IS OF BULK AT MOST 1048576: true; the input reads as it did. -/
def auditChecksUptoRow : OpenClaim := { program := "ytnldhkhnfodplaa", sum := "377b3ea5bc4eaecf66f470042e42b84901bf93dc21a72f0cb43bd1fcbf5f2968", func := "novation/novationlaw39.AuditChecks", spec := "auditChecks", inPlace := ["math/bits.Add64", "math/bits.Sub64"], plainKeys := false, apart := false, narrowed := true }
def AuditChecksUptoSaid : Prop := auditChecksUptoRow.holds Try.pinned (OpenSpec.upto auditChecksSpec)

/-- 'novationlaw39.AuditSums', WHERE WHAT IT READS IS OF BULK AT MOST 1048576: true; the input reads as it did. -/
def auditSumsUptoRow : OpenClaim := { program := "ytnldhkhnfodplaa", sum := "377b3ea5bc4eaecf66f470042e42b84901bf93dc21a72f0cb43bd1fcbf5f2968", func := "novation/novationlaw39.AuditSums", spec := "auditSums", inPlace := ["math/bits.Sub64", "math/bits.Add64"], unfollowed := true, recurses := true, plainKeys := false, apart := false, narrowed := true }
def AuditSumsUptoSaid : Prop := auditSumsUptoRow.holds Try.pinned (OpenSpec.upto auditSumsSpec)

/-- 'novationlaw34.CmdEncodes', WHERE WHAT IT READS IS OF BULK AT MOST 1048576: true; the input reads as it did. -/
def cmdEncodesUptoRow : OpenClaim := { program := "ytnldhkhnfodplaa", sum := "377b3ea5bc4eaecf66f470042e42b84901bf93dc21a72f0cb43bd1fcbf5f2968", func := "novation/novationlaw34.CmdEncodes", spec := "cmdEncodes", plainKeys := false, apart := false, narrowed := true }
def CmdEncodesUptoSaid : Prop := cmdEncodesUptoRow.holds Try.pinned (OpenSpec.upto cmdEncodesSpec)

/-- 'novationlaw34.CmdDecodes', WHERE WHAT IT READS IS OF BULK AT MOST 1048576: true; the input reads as it did. -/
def cmdDecodesUptoRow : OpenClaim := { program := "ytnldhkhnfodplaa", sum := "377b3ea5bc4eaecf66f470042e42b84901bf93dc21a72f0cb43bd1fcbf5f2968", func := "novation/novationlaw34.CmdDecodes", spec := "cmdDecodes", plainKeys := false, apart := false, narrowed := true }
def CmdDecodesUptoSaid : Prop := cmdDecodesUptoRow.holds Try.pinned (OpenSpec.upto cmdDecodesSpec)

/-- 'novationlaw34.CmdReplies', WHERE WHAT IT READS IS OF BULK AT MOST 1048576: true; the input reads as it did. -/
def cmdRepliesUptoRow : OpenClaim := { program := "ytnldhkhnfodplaa", sum := "377b3ea5bc4eaecf66f470042e42b84901bf93dc21a72f0cb43bd1fcbf5f2968", func := "novation/novationlaw34.CmdReplies", spec := "cmdReplies", plainKeys := false, apart := false, narrowed := true }
def CmdRepliesUptoSaid : Prop := cmdRepliesUptoRow.holds Try.pinned (OpenSpec.upto cmdRepliesSpec)

/-- 'novationlaw17.PurseTurns', WHERE WHAT IT READS IS OF BULK AT MOST 1048576: true; the input reads as it did. -/
def purseTurnsUptoRow : OpenClaim := { program := "ytnldhkhnfodplaa", sum := "377b3ea5bc4eaecf66f470042e42b84901bf93dc21a72f0cb43bd1fcbf5f2968", func := "novation/novationlaw17.PurseTurns", spec := "purseTurns", inPlace := ["math/bits.Add64"], unfollowed := true, recurses := true, plainKeys := false, apart := false, narrowed := true }
def PurseTurnsUptoSaid : Prop := purseTurnsUptoRow.holds Try.pinned (OpenSpec.upto purseTurnsSpec)

end Rows
end Go.Proofs.Ytnldhkhnfodplaa
