/-
  No cell of these rows narrows 'for every input' (looked for: loops, veiled, ifaces, maps, wideKeys, modest, calm, conditions, laid).
  DERIVED. THE GIVEN ROWS OF THIS SEAT. 8 by the template 'for every input the law returns true; each argument reads behind the call as it read before'; 0 by the template 'total and deterministic' (their statements: YtbpbkmngbhgpfaaTotals.lean).
  GIVEN WITH THE SEED: the statements are not yours to turn. If you find one false, say at which input.
  Laid BY PROGRAM, IN A SANDBOX (cutbox-rows.mjs): the forced cells as the released guide's own fill.sh prints them over the translation f94439428a8adbc9… (all of the seat's roots in one cut). By AI agents, Wed Nov 11 2026. No macro, syntax, notation, axiom, sorry.
-/
import Derived.Test.YtbpbkmngbhgpfaaChecked
import GoSem.Claim
import GoSem.ClaimJoined
import GoSem.ClaimMapViews
import Derived.JoinedTies
import Derived.KernelRfl
namespace Go.Proofs.Ytbpbkmngbhgpfaa
/- THE CELL 'sum', in the pinned program and in every row, IS THE sha256 OF THE DUMP (.gsa) THAT YtbpbkmngbhgpfaaProg.lean LOADS. Nothing in Lean hashes anything: it is a label: what it is worth is what the hold of that sum in a sandbox is worth. -/
noncomputable def Try.pinned : Pinned := { name := "ytbpbkmngbhgpfaa", sum := "f94439428a8adbc9e41d38441ba505ea0df774bf176ded6073257c583e647e8b", checked := Try.checked }
namespace Rows
def none {H : Type} : Left H := { results := [], args := [] }

/-- 'novationlaw17.PurseTurns': WHATEVER THE INPUT: true; the input reads as it did. -/
def purseTurnsSpec : ChangeSpec := { name := "purseTurns", fn := fun _ => fun
  | [d1, d2] => { results := [.lit (.bool true)], args := [d1, d2] }
  | _ => none }
def purseTurnsRow : OpenClaim := { program := "ytbpbkmngbhgpfaa", sum := "f94439428a8adbc9e41d38441ba505ea0df774bf176ded6073257c583e647e8b", func := "novation/novationlaw17.PurseTurns", spec := "purseTurns", inPlace := ["math/bits.Add64"], unfollowed := true, recurses := true, plainKeys := false, apart := false }
def PurseTurnsSaid : Prop := purseTurnsRow.holds Try.pinned (OpenSpec.ofChange purseTurnsSpec)

/-- ITS FALSE NEIGHBOUR: 'it returns false'. Refute it at one input. -/
def purseTurnsWrong : ChangeSpec := { name := "purseTurns", fn := fun _ => fun
  | [d1, d2] => { results := [.lit (.bool false)], args := [d1, d2] }
  | _ => none }
def PurseTurnsWrongFalsely : Prop := purseTurnsRow.holds Try.pinned (OpenSpec.ofChange purseTurnsWrong)

/-- 'novationlaw17.PursePays': WHATEVER THE INPUT: true; the input reads as it did. -/
def pursePaysSpec : ChangeSpec := { name := "pursePays", fn := fun _ => fun
  | [d1, d2, d3] => { results := [.lit (.bool true)], args := [d1, d2, d3] }
  | _ => none }
def pursePaysRow : OpenClaim := { program := "ytbpbkmngbhgpfaa", sum := "f94439428a8adbc9e41d38441ba505ea0df774bf176ded6073257c583e647e8b", func := "novation/novationlaw17.PursePays", spec := "pursePays", inPlace := ["math/bits.Add64"], unfollowed := true, recurses := true, plainKeys := false, apart := false }
def PursePaysSaid : Prop := pursePaysRow.holds Try.pinned (OpenSpec.ofChange pursePaysSpec)

/-- ITS FALSE NEIGHBOUR: 'it returns false'. Refute it at one input. -/
def pursePaysWrong : ChangeSpec := { name := "pursePays", fn := fun _ => fun
  | [d1, d2, d3] => { results := [.lit (.bool false)], args := [d1, d2, d3] }
  | _ => none }
def PursePaysWrongFalsely : Prop := pursePaysRow.holds Try.pinned (OpenSpec.ofChange pursePaysWrong)

/-- 'novationlaw17.PurseMoves': WHATEVER THE INPUT: true; the input reads as it did. -/
def purseMovesSpec : ChangeSpec := { name := "purseMoves", fn := fun _ => fun
  | [d1, d2, d3, d4, d5] => { results := [.lit (.bool true)], args := [d1, d2, d3, d4, d5] }
  | _ => none }
def purseMovesRow : OpenClaim := { program := "ytbpbkmngbhgpfaa", sum := "f94439428a8adbc9e41d38441ba505ea0df774bf176ded6073257c583e647e8b", func := "novation/novationlaw17.PurseMoves", spec := "purseMoves", inPlace := ["math/bits.Add64"], unfollowed := true, recurses := true, plainKeys := false, apart := false }
def PurseMovesSaid : Prop := purseMovesRow.holds Try.pinned (OpenSpec.ofChange purseMovesSpec)

/-- ITS FALSE NEIGHBOUR: 'it returns false'. Refute it at one input. -/
def purseMovesWrong : ChangeSpec := { name := "purseMoves", fn := fun _ => fun
  | [d1, d2, d3, d4, d5] => { results := [.lit (.bool false)], args := [d1, d2, d3, d4, d5] }
  | _ => none }
def PurseMovesWrongFalsely : Prop := purseMovesRow.holds Try.pinned (OpenSpec.ofChange purseMovesWrong)

/-- 'novationlaw20.MarkFlows': WHATEVER THE INPUT: true; the input reads as it did. -/
def markFlowsSpec : ChangeSpec := { name := "markFlows", fn := fun _ => fun
  | [d1, d2, d3, d4] => { results := [.lit (.bool true)], args := [d1, d2, d3, d4] }
  | _ => none }
def markFlowsRow : OpenClaim := { program := "ytbpbkmngbhgpfaa", sum := "f94439428a8adbc9e41d38441ba505ea0df774bf176ded6073257c583e647e8b", func := "novation/novationlaw20.MarkFlows", spec := "markFlows", inPlace := ["math/bits.Sub64", "math/bits.Add64"], unfollowed := true, recurses := true, plainKeys := false, apart := false }
def MarkFlowsSaid : Prop := markFlowsRow.holds Try.pinned (OpenSpec.ofChange markFlowsSpec)

/-- ITS FALSE NEIGHBOUR: 'it returns false'. Refute it at one input. -/
def markFlowsWrong : ChangeSpec := { name := "markFlows", fn := fun _ => fun
  | [d1, d2, d3, d4] => { results := [.lit (.bool false)], args := [d1, d2, d3, d4] }
  | _ => none }
def MarkFlowsWrongFalsely : Prop := markFlowsRow.holds Try.pinned (OpenSpec.ofChange markFlowsWrong)

/-- 'novationlaw20.MarkBack': WHATEVER THE INPUT: true; the input reads as it did. -/
def markBackSpec : ChangeSpec := { name := "markBack", fn := fun _ => fun
  | [d1, d2, d3] => { results := [.lit (.bool true)], args := [d1, d2, d3] }
  | _ => none }
def markBackRow : OpenClaim := { program := "ytbpbkmngbhgpfaa", sum := "f94439428a8adbc9e41d38441ba505ea0df774bf176ded6073257c583e647e8b", func := "novation/novationlaw20.MarkBack", spec := "markBack", inPlace := ["math/bits.Sub64", "math/bits.Add64"], unfollowed := true, recurses := true, plainKeys := false, apart := false }
def MarkBackSaid : Prop := markBackRow.holds Try.pinned (OpenSpec.ofChange markBackSpec)

/-- ITS FALSE NEIGHBOUR: 'it returns false'. Refute it at one input. -/
def markBackWrong : ChangeSpec := { name := "markBack", fn := fun _ => fun
  | [d1, d2, d3] => { results := [.lit (.bool false)], args := [d1, d2, d3] }
  | _ => none }
def MarkBackWrongFalsely : Prop := markBackRow.holds Try.pinned (OpenSpec.ofChange markBackWrong)

/-- 'novationlaw20.MarkZero': WHATEVER THE INPUT: true; the input reads as it did. -/
def markZeroSpec : ChangeSpec := { name := "markZero", fn := fun _ => fun
  | [d1, d2, d3] => { results := [.lit (.bool true)], args := [d1, d2, d3] }
  | _ => none }
def markZeroRow : OpenClaim := { program := "ytbpbkmngbhgpfaa", sum := "f94439428a8adbc9e41d38441ba505ea0df774bf176ded6073257c583e647e8b", func := "novation/novationlaw20.MarkZero", spec := "markZero", inPlace := ["math/bits.Add64", "math/bits.Sub64"], unfollowed := true, recurses := true, plainKeys := false, apart := false }
def MarkZeroSaid : Prop := markZeroRow.holds Try.pinned (OpenSpec.ofChange markZeroSpec)

/-- ITS FALSE NEIGHBOUR: 'it returns false'. Refute it at one input. -/
def markZeroWrong : ChangeSpec := { name := "markZero", fn := fun _ => fun
  | [d1, d2, d3] => { results := [.lit (.bool false)], args := [d1, d2, d3] }
  | _ => none }
def MarkZeroWrongFalsely : Prop := markZeroRow.holds Try.pinned (OpenSpec.ofChange markZeroWrong)

/-- 'novationlaw21.DealNets': WHATEVER THE INPUT: true; the input reads as it did. -/
def dealNetsSpec : ChangeSpec := { name := "dealNets", fn := fun _ => fun
  | [d1, d2, d3, d4, d5, d6, d7, d8] => { results := [.lit (.bool true)], args := [d1, d2, d3, d4, d5, d6, d7, d8] }
  | _ => none }
def dealNetsRow : OpenClaim := { program := "ytbpbkmngbhgpfaa", sum := "f94439428a8adbc9e41d38441ba505ea0df774bf176ded6073257c583e647e8b", func := "novation/novationlaw21.DealNets", spec := "dealNets", inPlace := ["math/bits.Sub64", "math/bits.Add64", "slices.overlaps[novation/api.Pos]"], unfollowed := true, recurses := true, plainKeys := false, apart := false }
def DealNetsSaid : Prop := dealNetsRow.holds Try.pinned (OpenSpec.ofChange dealNetsSpec)

/-- ITS FALSE NEIGHBOUR: 'it returns false'. Refute it at one input. -/
def dealNetsWrong : ChangeSpec := { name := "dealNets", fn := fun _ => fun
  | [d1, d2, d3, d4, d5, d6, d7, d8] => { results := [.lit (.bool false)], args := [d1, d2, d3, d4, d5, d6, d7, d8] }
  | _ => none }
def DealNetsWrongFalsely : Prop := dealNetsRow.holds Try.pinned (OpenSpec.ofChange dealNetsWrong)

/-- 'novationlaw21.DealKeeps': WHATEVER THE INPUT: true; the input reads as it did. -/
def dealKeepsSpec : ChangeSpec := { name := "dealKeeps", fn := fun _ => fun
  | [d1, d2, d3, d4, d5, d6, d7, d8] => { results := [.lit (.bool true)], args := [d1, d2, d3, d4, d5, d6, d7, d8] }
  | _ => none }
def dealKeepsRow : OpenClaim := { program := "ytbpbkmngbhgpfaa", sum := "f94439428a8adbc9e41d38441ba505ea0df774bf176ded6073257c583e647e8b", func := "novation/novationlaw21.DealKeeps", spec := "dealKeeps", inPlace := ["math/bits.Sub64", "math/bits.Add64", "slices.overlaps[novation/api.Pos]"], unfollowed := true, recurses := true, plainKeys := false, apart := false }
def DealKeepsSaid : Prop := dealKeepsRow.holds Try.pinned (OpenSpec.ofChange dealKeepsSpec)

/-- ITS FALSE NEIGHBOUR: 'it returns false'. Refute it at one input. -/
def dealKeepsWrong : ChangeSpec := { name := "dealKeeps", fn := fun _ => fun
  | [d1, d2, d3, d4, d5, d6, d7, d8] => { results := [.lit (.bool false)], args := [d1, d2, d3, d4, d5, d6, d7, d8] }
  | _ => none }
def DealKeepsWrongFalsely : Prop := dealKeepsRow.holds Try.pinned (OpenSpec.ofChange dealKeepsWrong)

/- THE SECOND FORM. 'bulk': how many values and letters a reading holds, each counted each time it is reached (what is shared counts as often as it is met; a slice's spare places count too). A statement '..UptoSaid' is the law's where the arguments, and the package variables that the reading takes, are together of bulk at most 1048576: NARROWER than '..Said'. Prove '..Said' where nothing that the law and all that it calls make is longer than what came in: it says more and counts as full. Else prove '..UptoSaid'. A law counts once. -/
mutual
def uptoBulk {H : Type} : DataW H → Nat
  | .lit (.string bytes) => bytes.length + 1
  | .lit _ => 1
  | .nil => 1
  | .ptr d => uptoBulk d + 1
  | .slice elems spare => uptoBulkAll elems + uptoBulkAll spare + 1
  | .agg parts => uptoBulkAll parts + 1
  | .iface _ d => uptoBulk d + 1
  | .map entries => uptoBulkEntries entries + 1
  | .held _ => 1
def uptoBulkAll {H : Type} : List (DataW H) → Nat
  | [] => 0
  | d :: r => uptoBulk d + uptoBulkAll r
def uptoBulkEntries {H : Type} : List (Lit × DataW H) → Nat
  | [] => 0
  | x :: r => uptoBulkEntry x + uptoBulkEntries r
def uptoBulkEntry {H : Type} : Lit × DataW H → Nat
  | (.string bytes, d) => bytes.length + uptoBulk d + 1
  | (_, d) => uptoBulk d + 1
 end
def uptoSmall : (H : Type) → List (DataW H) → Bool := fun _ ds => decide (uptoBulkAll ds ≤ 1048576)
def OpenSpec.upto (s : _root_.Go.ChangeSpec) : _root_.Go.OpenSpec := { _root_.Go.OpenSpec.ofChange s with cond := some uptoSmall }

/-- 'novationlaw17.PurseTurns', WHERE WHAT IT READS IS OF BULK AT MOST 1048576: true; the input reads as it did. -/
def purseTurnsUptoRow : OpenClaim := { program := "ytbpbkmngbhgpfaa", sum := "f94439428a8adbc9e41d38441ba505ea0df774bf176ded6073257c583e647e8b", func := "novation/novationlaw17.PurseTurns", spec := "purseTurns", inPlace := ["math/bits.Add64"], unfollowed := true, recurses := true, plainKeys := false, apart := false, narrowed := true }
def PurseTurnsUptoSaid : Prop := purseTurnsUptoRow.holds Try.pinned (OpenSpec.upto purseTurnsSpec)

/-- 'novationlaw17.PursePays', WHERE WHAT IT READS IS OF BULK AT MOST 1048576: true; the input reads as it did. -/
def pursePaysUptoRow : OpenClaim := { program := "ytbpbkmngbhgpfaa", sum := "f94439428a8adbc9e41d38441ba505ea0df774bf176ded6073257c583e647e8b", func := "novation/novationlaw17.PursePays", spec := "pursePays", inPlace := ["math/bits.Add64"], unfollowed := true, recurses := true, plainKeys := false, apart := false, narrowed := true }
def PursePaysUptoSaid : Prop := pursePaysUptoRow.holds Try.pinned (OpenSpec.upto pursePaysSpec)

/-- 'novationlaw17.PurseMoves', WHERE WHAT IT READS IS OF BULK AT MOST 1048576: true; the input reads as it did. -/
def purseMovesUptoRow : OpenClaim := { program := "ytbpbkmngbhgpfaa", sum := "f94439428a8adbc9e41d38441ba505ea0df774bf176ded6073257c583e647e8b", func := "novation/novationlaw17.PurseMoves", spec := "purseMoves", inPlace := ["math/bits.Add64"], unfollowed := true, recurses := true, plainKeys := false, apart := false, narrowed := true }
def PurseMovesUptoSaid : Prop := purseMovesUptoRow.holds Try.pinned (OpenSpec.upto purseMovesSpec)

/-- 'novationlaw20.MarkFlows', WHERE WHAT IT READS IS OF BULK AT MOST 1048576: true; the input reads as it did. -/
def markFlowsUptoRow : OpenClaim := { program := "ytbpbkmngbhgpfaa", sum := "f94439428a8adbc9e41d38441ba505ea0df774bf176ded6073257c583e647e8b", func := "novation/novationlaw20.MarkFlows", spec := "markFlows", inPlace := ["math/bits.Sub64", "math/bits.Add64"], unfollowed := true, recurses := true, plainKeys := false, apart := false, narrowed := true }
def MarkFlowsUptoSaid : Prop := markFlowsUptoRow.holds Try.pinned (OpenSpec.upto markFlowsSpec)

/-- 'novationlaw20.MarkBack', WHERE WHAT IT READS IS OF BULK AT MOST 1048576: true; the input reads as it did. -/
def markBackUptoRow : OpenClaim := { program := "ytbpbkmngbhgpfaa", sum := "f94439428a8adbc9e41d38441ba505ea0df774bf176ded6073257c583e647e8b", func := "novation/novationlaw20.MarkBack", spec := "markBack", inPlace := ["math/bits.Sub64", "math/bits.Add64"], unfollowed := true, recurses := true, plainKeys := false, apart := false, narrowed := true }
def MarkBackUptoSaid : Prop := markBackUptoRow.holds Try.pinned (OpenSpec.upto markBackSpec)

/-- 'novationlaw20.MarkZero', WHERE WHAT IT READS IS OF BULK AT MOST 1048576: true; the input reads as it did. -/
def markZeroUptoRow : OpenClaim := { program := "ytbpbkmngbhgpfaa", sum := "f94439428a8adbc9e41d38441ba505ea0df774bf176ded6073257c583e647e8b", func := "novation/novationlaw20.MarkZero", spec := "markZero", inPlace := ["math/bits.Add64", "math/bits.Sub64"], unfollowed := true, recurses := true, plainKeys := false, apart := false, narrowed := true }
def MarkZeroUptoSaid : Prop := markZeroUptoRow.holds Try.pinned (OpenSpec.upto markZeroSpec)

/-- 'novationlaw21.DealNets', WHERE WHAT IT READS IS OF BULK AT MOST 1048576: true; the input reads as it did. -/
def dealNetsUptoRow : OpenClaim := { program := "ytbpbkmngbhgpfaa", sum := "f94439428a8adbc9e41d38441ba505ea0df774bf176ded6073257c583e647e8b", func := "novation/novationlaw21.DealNets", spec := "dealNets", inPlace := ["math/bits.Sub64", "math/bits.Add64", "slices.overlaps[novation/api.Pos]"], unfollowed := true, recurses := true, plainKeys := false, apart := false, narrowed := true }
def DealNetsUptoSaid : Prop := dealNetsUptoRow.holds Try.pinned (OpenSpec.upto dealNetsSpec)

/-- 'novationlaw21.DealKeeps', WHERE WHAT IT READS IS OF BULK AT MOST 1048576: true; the input reads as it did. -/
def dealKeepsUptoRow : OpenClaim := { program := "ytbpbkmngbhgpfaa", sum := "f94439428a8adbc9e41d38441ba505ea0df774bf176ded6073257c583e647e8b", func := "novation/novationlaw21.DealKeeps", spec := "dealKeeps", inPlace := ["math/bits.Sub64", "math/bits.Add64", "slices.overlaps[novation/api.Pos]"], unfollowed := true, recurses := true, plainKeys := false, apart := false, narrowed := true }
def DealKeepsUptoSaid : Prop := dealKeepsUptoRow.holds Try.pinned (OpenSpec.upto dealKeepsSpec)

end Rows
end Go.Proofs.Ytbpbkmngbhgpfaa
