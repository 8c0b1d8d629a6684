/-
  No cell of these rows narrows 'for every input' (looked for: loops, veiled, ifaces, maps, wideKeys, modest, calm, conditions, laid).
  DERIVED. THE GIVEN ROWS OF THIS SEAT. 6 by the template 'for every input the law returns true; each argument reads behind the call as it read before'; 0 by the template 'total and deterministic' (their statements: YthghpahghjppjaaGreatTotals.lean).
  GIVEN WITH THE SEED: the statements are not yours to turn. If you find one false, say at which input.
  Laid BY PROGRAM, IN A SANDBOX (cutbox-rows.mjs): the forced cells as the released guide's own fill.sh prints them over the translation fc0be50bb28eed61… (all of the seat's roots in one cut). By AI agents, Wed Nov 11 2026. No macro, syntax, notation, axiom, sorry.
-/
import Derived.Test.YthghpahghjppjaaGreatChecked
import GoSem.Claim
import GoSem.ClaimJoined
import GoSem.ClaimMapViews
import Derived.JoinedTies
import Derived.KernelRfl
namespace Go.Proofs.YthghpahghjppjaaGreat
/- THE CELL 'sum', in the pinned program and in every row, IS THE sha256 OF THE DUMP (.gsa) THAT YthghpahghjppjaaGreatProg.lean LOADS. Nothing in Lean hashes anything: it is a label: what it is worth is what the hold of that sum in a sandbox is worth. -/
noncomputable def Tryz.pinned : Pinned := { name := "ythghpahghjppjaagreat", sum := "fc0be50bb28eed6190e459a8f36260ceb5aa8627ad84a5048a450e211f2ae223", checked := Tryz.checked }
namespace Rows
def none {H : Type} : Left H := { results := [], args := [] }

/-- 'novationlaw35.RulesKeeps': WHATEVER THE INPUT: true; the input reads as it did. -/
def rulesKeepsSpec : ChangeSpec := { name := "rulesKeeps", fn := fun _ => fun
  | [d] => { results := [.lit (.bool true)], args := [d] }
  | _ => none }
def rulesKeepsRow : OpenClaim := { program := "ythghpahghjppjaagreat", sum := "fc0be50bb28eed6190e459a8f36260ceb5aa8627ad84a5048a450e211f2ae223", func := "novation/novationlaw35.RulesKeeps", spec := "rulesKeeps", inPlace := ["slices.overlaps[novation/api.Inst]", "slices.overlaps[novation/api.Asset]", "slices.overlaps[novation/api.Account]", "slices.overlaps[int]", "math/bits.Sub64", "math/bits.Add64", "slices.overlaps[novation/api.Pos]", "slices.overlaps[novation/api.Lot]", "slices.overlaps[novation/api.Choice]"], unfollowed := true, recurses := true, named := ["math/bits.divideError", "math/bits.overflowError"], plainKeys := false, apart := false }
def RulesKeepsSaid : Prop := rulesKeepsRow.holds Tryz.pinned (OpenSpec.ofChange rulesKeepsSpec)

/-- ITS FALSE NEIGHBOUR: 'it returns false'. Refute it at one input. -/
def rulesKeepsWrong : ChangeSpec := { name := "rulesKeeps", fn := fun _ => fun
  | [d] => { results := [.lit (.bool false)], args := [d] }
  | _ => none }
def RulesKeepsWrongFalsely : Prop := rulesKeepsRow.holds Tryz.pinned (OpenSpec.ofChange rulesKeepsWrong)

/-- 'novationlaw35.RulesWhose': WHATEVER THE INPUT: true; the input reads as it did. -/
def rulesWhoseSpec : ChangeSpec := { name := "rulesWhose", fn := fun _ => fun
  | [d] => { results := [.lit (.bool true)], args := [d] }
  | _ => none }
def rulesWhoseRow : OpenClaim := { program := "ythghpahghjppjaagreat", sum := "fc0be50bb28eed6190e459a8f36260ceb5aa8627ad84a5048a450e211f2ae223", func := "novation/novationlaw35.RulesWhose", spec := "rulesWhose", inPlace := ["slices.overlaps[novation/api.Inst]", "slices.overlaps[novation/api.Asset]", "slices.overlaps[novation/api.Account]", "slices.overlaps[int]", "math/bits.Sub64", "math/bits.Add64", "slices.overlaps[novation/api.Pos]", "slices.overlaps[novation/api.Lot]", "slices.overlaps[novation/api.Choice]"], unfollowed := true, recurses := true, named := ["math/bits.divideError", "math/bits.overflowError"], plainKeys := false, apart := false }
def RulesWhoseSaid : Prop := rulesWhoseRow.holds Tryz.pinned (OpenSpec.ofChange rulesWhoseSpec)

/-- ITS FALSE NEIGHBOUR: 'it returns false'. Refute it at one input. -/
def rulesWhoseWrong : ChangeSpec := { name := "rulesWhose", fn := fun _ => fun
  | [d] => { results := [.lit (.bool false)], args := [d] }
  | _ => none }
def RulesWhoseWrongFalsely : Prop := rulesWhoseRow.holds Tryz.pinned (OpenSpec.ofChange rulesWhoseWrong)

/-- 'novationlaw35.RulesCaps': WHATEVER THE INPUT: true; the input reads as it did. -/
def rulesCapsSpec : ChangeSpec := { name := "rulesCaps", fn := fun _ => fun
  | [d] => { results := [.lit (.bool true)], args := [d] }
  | _ => none }
def rulesCapsRow : OpenClaim := { program := "ythghpahghjppjaagreat", sum := "fc0be50bb28eed6190e459a8f36260ceb5aa8627ad84a5048a450e211f2ae223", func := "novation/novationlaw35.RulesCaps", spec := "rulesCaps", inPlace := ["slices.overlaps[novation/api.Inst]", "slices.overlaps[novation/api.Asset]", "slices.overlaps[novation/api.Account]", "slices.overlaps[int]", "math/bits.Sub64", "math/bits.Add64", "slices.overlaps[novation/api.Pos]", "slices.overlaps[novation/api.Lot]", "slices.overlaps[novation/api.Choice]"], unfollowed := true, recurses := true, named := ["math/bits.divideError", "math/bits.overflowError"], plainKeys := false, apart := false }
def RulesCapsSaid : Prop := rulesCapsRow.holds Tryz.pinned (OpenSpec.ofChange rulesCapsSpec)

/-- ITS FALSE NEIGHBOUR: 'it returns false'. Refute it at one input. -/
def rulesCapsWrong : ChangeSpec := { name := "rulesCaps", fn := fun _ => fun
  | [d] => { results := [.lit (.bool false)], args := [d] }
  | _ => none }
def RulesCapsWrongFalsely : Prop := rulesCapsRow.holds Tryz.pinned (OpenSpec.ofChange rulesCapsWrong)

/-- 'novationlaw39.AuditHolds': WHATEVER THE INPUT: true; the input reads as it did. -/
def auditHoldsSpec : ChangeSpec := { name := "auditHolds", fn := fun _ => fun
  | [d] => { results := [.lit (.bool true)], args := [d] }
  | _ => none }
def auditHoldsRow : OpenClaim := { program := "ythghpahghjppjaagreat", sum := "fc0be50bb28eed6190e459a8f36260ceb5aa8627ad84a5048a450e211f2ae223", func := "novation/novationlaw39.AuditHolds", spec := "auditHolds", inPlace := ["slices.overlaps[novation/api.Inst]", "slices.overlaps[novation/api.Asset]", "slices.overlaps[novation/api.Account]", "slices.overlaps[int]", "math/bits.Sub64", "math/bits.Add64", "slices.overlaps[novation/api.Pos]", "slices.overlaps[novation/api.Lot]", "slices.overlaps[novation/api.Choice]"], unfollowed := true, recurses := true, named := ["math/bits.divideError", "math/bits.overflowError"], plainKeys := false, apart := false }
def AuditHoldsSaid : Prop := auditHoldsRow.holds Tryz.pinned (OpenSpec.ofChange auditHoldsSpec)

/-- ITS FALSE NEIGHBOUR: 'it returns false'. Refute it at one input. -/
def auditHoldsWrong : ChangeSpec := { name := "auditHolds", fn := fun _ => fun
  | [d] => { results := [.lit (.bool false)], args := [d] }
  | _ => none }
def AuditHoldsWrongFalsely : Prop := auditHoldsRow.holds Tryz.pinned (OpenSpec.ofChange auditHoldsWrong)

/-- 'novationlaw35.RulesSafe': WHATEVER THE INPUT: true; the input reads as it did. -/
def rulesSafeSpec : ChangeSpec := { name := "rulesSafe", fn := fun _ => fun
  | [d] => { results := [.lit (.bool true)], args := [d] }
  | _ => none }
def rulesSafeRow : OpenClaim := { program := "ythghpahghjppjaagreat", sum := "fc0be50bb28eed6190e459a8f36260ceb5aa8627ad84a5048a450e211f2ae223", func := "novation/novationlaw35.RulesSafe", spec := "rulesSafe", inPlace := ["slices.overlaps[novation/api.Inst]", "slices.overlaps[novation/api.Asset]", "slices.overlaps[novation/api.Account]", "slices.overlaps[int]", "math/bits.Sub64", "math/bits.Add64", "slices.overlaps[novation/api.Pos]", "slices.overlaps[novation/api.Lot]", "slices.overlaps[novation/api.Choice]"], unfollowed := true, recurses := true, named := ["math/bits.divideError", "math/bits.overflowError"], plainKeys := false, apart := false }
def RulesSafeSaid : Prop := rulesSafeRow.holds Tryz.pinned (OpenSpec.ofChange rulesSafeSpec)

/-- ITS FALSE NEIGHBOUR: 'it returns false'. Refute it at one input. -/
def rulesSafeWrong : ChangeSpec := { name := "rulesSafe", fn := fun _ => fun
  | [d] => { results := [.lit (.bool false)], args := [d] }
  | _ => none }
def RulesSafeWrongFalsely : Prop := rulesSafeRow.holds Tryz.pinned (OpenSpec.ofChange rulesSafeWrong)

/-- 'novationlaw39.AuditRules': WHATEVER THE INPUT: true; the input reads as it did. -/
def auditRulesSpec : ChangeSpec := { name := "auditRules", fn := fun _ => fun
  | [d] => { results := [.lit (.bool true)], args := [d] }
  | _ => none }
def auditRulesRow : OpenClaim := { program := "ythghpahghjppjaagreat", sum := "fc0be50bb28eed6190e459a8f36260ceb5aa8627ad84a5048a450e211f2ae223", func := "novation/novationlaw39.AuditRules", spec := "auditRules", inPlace := ["slices.overlaps[novation/api.Inst]", "slices.overlaps[novation/api.Asset]", "slices.overlaps[novation/api.Account]", "slices.overlaps[int]", "math/bits.Sub64", "math/bits.Add64", "slices.overlaps[novation/api.Pos]", "slices.overlaps[novation/api.Lot]", "slices.overlaps[novation/api.Choice]"], unfollowed := true, recurses := true, named := ["math/bits.divideError", "math/bits.overflowError"], plainKeys := false, apart := false }
def AuditRulesSaid : Prop := auditRulesRow.holds Tryz.pinned (OpenSpec.ofChange auditRulesSpec)

/-- ITS FALSE NEIGHBOUR: 'it returns false'. Refute it at one input. -/
def auditRulesWrong : ChangeSpec := { name := "auditRules", fn := fun _ => fun
  | [d] => { results := [.lit (.bool false)], args := [d] }
  | _ => none }
def AuditRulesWrongFalsely : Prop := auditRulesRow.holds Tryz.pinned (OpenSpec.ofChange auditRulesWrong)

/- THE SECOND FORM. 'bulk': how many values and letters a reading holds, each counted each time it is reached (what is shared counts as often as it is met; a slice's spare places count too). A statement '..UptoSaid' is the law's where the arguments, and the package variables that the reading takes, are together of bulk at most 1048576: NARROWER than '..Said'. Prove '..Said' where nothing that the law and all that it calls make is longer than what came in: it says more and counts as full. Else prove '..UptoSaid'. A law counts once. -/
mutual
def uptoBulk {H : Type} : DataW H → Nat
  | .lit (.string bytes) => bytes.length + 1
  | .lit _ => 1
  | .nil => 1
  | .ptr d => uptoBulk d + 1
  | .slice elems spare => uptoBulkAll elems + uptoBulkAll spare + 1
  | .agg parts => uptoBulkAll parts + 1
  | .iface _ d => uptoBulk d + 1
  | .map entries => uptoBulkEntries entries + 1
  | .held _ => 1
def uptoBulkAll {H : Type} : List (DataW H) → Nat
  | [] => 0
  | d :: r => uptoBulk d + uptoBulkAll r
def uptoBulkEntries {H : Type} : List (Lit × DataW H) → Nat
  | [] => 0
  | x :: r => uptoBulkEntry x + uptoBulkEntries r
def uptoBulkEntry {H : Type} : Lit × DataW H → Nat
  | (.string bytes, d) => bytes.length + uptoBulk d + 1
  | (_, d) => uptoBulk d + 1
 end
def uptoSmall : (H : Type) → List (DataW H) → Bool := fun _ ds => decide (uptoBulkAll ds ≤ 1048576)
def OpenSpec.upto (s : _root_.Go.ChangeSpec) : _root_.Go.OpenSpec := { _root_.Go.OpenSpec.ofChange s with cond := some uptoSmall }

/-- 'novationlaw35.RulesKeeps', WHERE WHAT IT READS IS OF BULK AT MOST 1048576: true; the input reads as it did. -/
def rulesKeepsUptoRow : OpenClaim := { program := "ythghpahghjppjaagreat", sum := "fc0be50bb28eed6190e459a8f36260ceb5aa8627ad84a5048a450e211f2ae223", func := "novation/novationlaw35.RulesKeeps", spec := "rulesKeeps", inPlace := ["slices.overlaps[novation/api.Inst]", "slices.overlaps[novation/api.Asset]", "slices.overlaps[novation/api.Account]", "slices.overlaps[int]", "math/bits.Sub64", "math/bits.Add64", "slices.overlaps[novation/api.Pos]", "slices.overlaps[novation/api.Lot]", "slices.overlaps[novation/api.Choice]"], unfollowed := true, recurses := true, named := ["math/bits.divideError", "math/bits.overflowError"], plainKeys := false, apart := false, narrowed := true }
def RulesKeepsUptoSaid : Prop := rulesKeepsUptoRow.holds Tryz.pinned (OpenSpec.upto rulesKeepsSpec)

/-- 'novationlaw35.RulesWhose', WHERE WHAT IT READS IS OF BULK AT MOST 1048576: true; the input reads as it did. -/
def rulesWhoseUptoRow : OpenClaim := { program := "ythghpahghjppjaagreat", sum := "fc0be50bb28eed6190e459a8f36260ceb5aa8627ad84a5048a450e211f2ae223", func := "novation/novationlaw35.RulesWhose", spec := "rulesWhose", inPlace := ["slices.overlaps[novation/api.Inst]", "slices.overlaps[novation/api.Asset]", "slices.overlaps[novation/api.Account]", "slices.overlaps[int]", "math/bits.Sub64", "math/bits.Add64", "slices.overlaps[novation/api.Pos]", "slices.overlaps[novation/api.Lot]", "slices.overlaps[novation/api.Choice]"], unfollowed := true, recurses := true, named := ["math/bits.divideError", "math/bits.overflowError"], plainKeys := false, apart := false, narrowed := true }
def RulesWhoseUptoSaid : Prop := rulesWhoseUptoRow.holds Tryz.pinned (OpenSpec.upto rulesWhoseSpec)

/-- 'novationlaw35.RulesCaps', WHERE WHAT IT READS IS OF BULK AT MOST 1048576: true; the input reads as it did. -/
def rulesCapsUptoRow : OpenClaim := { program := "ythghpahghjppjaagreat", sum := "fc0be50bb28eed6190e459a8f36260ceb5aa8627ad84a5048a450e211f2ae223", func := "novation/novationlaw35.RulesCaps", spec := "rulesCaps", inPlace := ["slices.overlaps[novation/api.Inst]", "slices.overlaps[novation/api.Asset]", "slices.overlaps[novation/api.Account]", "slices.overlaps[int]", "math/bits.Sub64", "math/bits.Add64", "slices.overlaps[novation/api.Pos]", "slices.overlaps[novation/api.Lot]", "slices.overlaps[novation/api.Choice]"], unfollowed := true, recurses := true, named := ["math/bits.divideError", "math/bits.overflowError"], plainKeys := false, apart := false, narrowed := true }
def RulesCapsUptoSaid : Prop := rulesCapsUptoRow.holds Tryz.pinned (OpenSpec.upto rulesCapsSpec)

/-- 'novationlaw39.AuditHolds', WHERE WHAT IT READS IS OF BULK AT MOST 1048576: true; the input reads as it did. -/
def auditHoldsUptoRow : OpenClaim := { program := "ythghpahghjppjaagreat", sum := "fc0be50bb28eed6190e459a8f36260ceb5aa8627ad84a5048a450e211f2ae223", func := "novation/novationlaw39.AuditHolds", spec := "auditHolds", inPlace := ["slices.overlaps[novation/api.Inst]", "slices.overlaps[novation/api.Asset]", "slices.overlaps[novation/api.Account]", "slices.overlaps[int]", "math/bits.Sub64", "math/bits.Add64", "slices.overlaps[novation/api.Pos]", "slices.overlaps[novation/api.Lot]", "slices.overlaps[novation/api.Choice]"], unfollowed := true, recurses := true, named := ["math/bits.divideError", "math/bits.overflowError"], plainKeys := false, apart := false, narrowed := true }
def AuditHoldsUptoSaid : Prop := auditHoldsUptoRow.holds Tryz.pinned (OpenSpec.upto auditHoldsSpec)

/-- 'novationlaw35.RulesSafe', WHERE WHAT IT READS IS OF BULK AT MOST 1048576: true; the input reads as it did. -/
def rulesSafeUptoRow : OpenClaim := { program := "ythghpahghjppjaagreat", sum := "fc0be50bb28eed6190e459a8f36260ceb5aa8627ad84a5048a450e211f2ae223", func := "novation/novationlaw35.RulesSafe", spec := "rulesSafe", inPlace := ["slices.overlaps[novation/api.Inst]", "slices.overlaps[novation/api.Asset]", "slices.overlaps[novation/api.Account]", "slices.overlaps[int]", "math/bits.Sub64", "math/bits.Add64", "slices.overlaps[novation/api.Pos]", "slices.overlaps[novation/api.Lot]", "slices.overlaps[novation/api.Choice]"], unfollowed := true, recurses := true, named := ["math/bits.divideError", "math/bits.overflowError"], plainKeys := false, apart := false, narrowed := true }
def RulesSafeUptoSaid : Prop := rulesSafeUptoRow.holds Tryz.pinned (OpenSpec.upto rulesSafeSpec)

/-- 'novationlaw39.AuditRules', WHERE WHAT IT READS IS OF BULK AT MOST 1048576: true; the input reads as it did. -/
def auditRulesUptoRow : OpenClaim := { program := "ythghpahghjppjaagreat", sum := "fc0be50bb28eed6190e459a8f36260ceb5aa8627ad84a5048a450e211f2ae223", func := "novation/novationlaw39.AuditRules", spec := "auditRules", inPlace := ["slices.overlaps[novation/api.Inst]", "slices.overlaps[novation/api.Asset]", "slices.overlaps[novation/api.Account]", "slices.overlaps[int]", "math/bits.Sub64", "math/bits.Add64", "slices.overlaps[novation/api.Pos]", "slices.overlaps[novation/api.Lot]", "slices.overlaps[novation/api.Choice]"], unfollowed := true, recurses := true, named := ["math/bits.divideError", "math/bits.overflowError"], plainKeys := false, apart := false, narrowed := true }
def AuditRulesUptoSaid : Prop := auditRulesUptoRow.holds Tryz.pinned (OpenSpec.upto auditRulesSpec)

end Rows
end Go.Proofs.YthghpahghjppjaaGreat
