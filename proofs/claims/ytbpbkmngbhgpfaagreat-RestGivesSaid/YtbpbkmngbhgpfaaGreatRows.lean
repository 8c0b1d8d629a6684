/-
  No cell of these rows narrows 'for every input' (looked for: loops, veiled, ifaces, maps, wideKeys, modest, calm, conditions, laid).
  DERIVED. THE GIVEN ROWS OF THIS SEAT. 4 by the template 'for every input the law returns true; each argument reads behind the call as it read before'; 0 by the template 'total and deterministic' (their statements: YtbpbkmngbhgpfaaGreatTotals.lean).
  GIVEN WITH THE SEED: the statements are not yours to turn. If you find one false, say at which input.
  Laid BY PROGRAM, IN A SANDBOX (cutbox-rows.mjs): the forced cells as the released guide's own fill.sh prints them over the translation 14d5266fec7d256e… (all of the seat's roots in one cut). By AI agents, Wed Nov 11 2026. No macro, syntax, notation, axiom, sorry.
-/
import Derived.Test.YtbpbkmngbhgpfaaGreatChecked
import GoSem.Claim
import GoSem.ClaimJoined
import GoSem.ClaimMapViews
import Derived.JoinedTies
import Derived.KernelRfl
namespace Go.Proofs.YtbpbkmngbhgpfaaGreat
/- THE CELL 'sum', in the pinned program and in every row, IS THE sha256 OF THE DUMP (.gsa) THAT YtbpbkmngbhgpfaaGreatProg.lean LOADS. Nothing in Lean hashes anything: it is a label: what it is worth is what the hold of that sum in a sandbox is worth. -/
noncomputable def Tryz.pinned : Pinned := { name := "ytbpbkmngbhgpfaagreat", sum := "14d5266fec7d256ea1f53dcb67f55d1015aa0954b7bae098f228c036c7e9e0ff", checked := Tryz.checked }
namespace Rows
def none {H : Type} : Left H := { results := [], args := [] }

/-- 'novationlaw32.RestGives': WHATEVER THE INPUT: true; the input reads as it did. -/
def restGivesSpec : ChangeSpec := { name := "restGives", fn := fun _ => fun
  | [d1, d2, d3, d4] => { results := [.lit (.bool true)], args := [d1, d2, d3, d4] }
  | _ => none }
def restGivesRow : OpenClaim := { program := "ytbpbkmngbhgpfaagreat", sum := "14d5266fec7d256ea1f53dcb67f55d1015aa0954b7bae098f228c036c7e9e0ff", func := "novation/novationlaw32.RestGives", spec := "restGives", inPlace := ["math/bits.Add64", "math/bits.Sub64"], unfollowed := true, recurses := true, plainKeys := false, apart := false }
def RestGivesSaid : Prop := restGivesRow.holds Tryz.pinned (OpenSpec.ofChange restGivesSpec)

/-- ITS FALSE NEIGHBOUR: 'it returns false'. Refute it at one input. -/
def restGivesWrong : ChangeSpec := { name := "restGives", fn := fun _ => fun
  | [d1, d2, d3, d4] => { results := [.lit (.bool false)], args := [d1, d2, d3, d4] }
  | _ => none }
def RestGivesWrongFalsely : Prop := restGivesRow.holds Tryz.pinned (OpenSpec.ofChange restGivesWrong)

/-- 'novationlaw32.RestAll': WHATEVER THE INPUT: true; the input reads as it did. -/
def restAllSpec : ChangeSpec := { name := "restAll", fn := fun _ => fun
  | [d1, d2] => { results := [.lit (.bool true)], args := [d1, d2] }
  | _ => none }
def restAllRow : OpenClaim := { program := "ytbpbkmngbhgpfaagreat", sum := "14d5266fec7d256ea1f53dcb67f55d1015aa0954b7bae098f228c036c7e9e0ff", func := "novation/novationlaw32.RestAll", spec := "restAll", inPlace := ["math/bits.Add64", "math/bits.Sub64"], unfollowed := true, recurses := true, plainKeys := false, apart := false }
def RestAllSaid : Prop := restAllRow.holds Tryz.pinned (OpenSpec.ofChange restAllSpec)

/-- ITS FALSE NEIGHBOUR: 'it returns false'. Refute it at one input. -/
def restAllWrong : ChangeSpec := { name := "restAll", fn := fun _ => fun
  | [d1, d2] => { results := [.lit (.bool false)], args := [d1, d2] }
  | _ => none }
def RestAllWrongFalsely : Prop := restAllRow.holds Tryz.pinned (OpenSpec.ofChange restAllWrong)

/-- 'novationlaw21.DealGoes': WHATEVER THE INPUT: true; the input reads as it did. -/
def dealGoesSpec : ChangeSpec := { name := "dealGoes", fn := fun _ => fun
  | [d1, d2, d3, d4, d5, d6, d7] => { results := [.lit (.bool true)], args := [d1, d2, d3, d4, d5, d6, d7] }
  | _ => none }
def dealGoesRow : OpenClaim := { program := "ytbpbkmngbhgpfaagreat", sum := "14d5266fec7d256ea1f53dcb67f55d1015aa0954b7bae098f228c036c7e9e0ff", func := "novation/novationlaw21.DealGoes", spec := "dealGoes", inPlace := ["math/bits.Sub64", "math/bits.Add64", "slices.overlaps[novation/api.Pos]"], unfollowed := true, recurses := true, plainKeys := false, apart := false }
def DealGoesSaid : Prop := dealGoesRow.holds Tryz.pinned (OpenSpec.ofChange dealGoesSpec)

/-- ITS FALSE NEIGHBOUR: 'it returns false'. Refute it at one input. -/
def dealGoesWrong : ChangeSpec := { name := "dealGoes", fn := fun _ => fun
  | [d1, d2, d3, d4, d5, d6, d7] => { results := [.lit (.bool false)], args := [d1, d2, d3, d4, d5, d6, d7] }
  | _ => none }
def DealGoesWrongFalsely : Prop := dealGoesRow.holds Tryz.pinned (OpenSpec.ofChange dealGoesWrong)

/-- 'novationlaw33.LedgerEncodes': WHATEVER THE INPUT: true; the input reads as it did. -/
def ledgerEncodesSpec : ChangeSpec := { name := "ledgerEncodes", fn := fun _ => fun
  | [d] => { results := [.lit (.bool true)], args := [d] }
  | _ => none }
def ledgerEncodesRow : OpenClaim := { program := "ytbpbkmngbhgpfaagreat", sum := "14d5266fec7d256ea1f53dcb67f55d1015aa0954b7bae098f228c036c7e9e0ff", func := "novation/novationlaw33.LedgerEncodes", spec := "ledgerEncodes", unfollowed := true, recurses := true, plainKeys := false, apart := false }
def LedgerEncodesSaid : Prop := ledgerEncodesRow.holds Tryz.pinned (OpenSpec.ofChange ledgerEncodesSpec)

/-- ITS FALSE NEIGHBOUR: 'it returns false'. Refute it at one input. -/
def ledgerEncodesWrong : ChangeSpec := { name := "ledgerEncodes", fn := fun _ => fun
  | [d] => { results := [.lit (.bool false)], args := [d] }
  | _ => none }
def LedgerEncodesWrongFalsely : Prop := ledgerEncodesRow.holds Tryz.pinned (OpenSpec.ofChange ledgerEncodesWrong)

/- THE SECOND FORM. 'bulk': how many values and letters a reading holds, each counted each time it is reached (what is shared counts as often as it is met; a slice's spare places count too). A statement '..UptoSaid' is the law's where the arguments, and the package variables that the reading takes, are together of bulk at most 1048576: NARROWER than '..Said'. Prove '..Said' where nothing that the law and all that it calls make is longer than what came in: it says more and counts as full. Else prove '..UptoSaid'. A law counts once. -/
mutual
def uptoBulk {H : Type} : DataW H → Nat
  | .lit (.string bytes) => bytes.length + 1
  | .lit _ => 1
  | .nil => 1
  | .ptr d => uptoBulk d + 1
  | .slice elems spare => uptoBulkAll elems + uptoBulkAll spare + 1
  | .agg parts => uptoBulkAll parts + 1
  | .iface _ d => uptoBulk d + 1
  | .map entries => uptoBulkEntries entries + 1
  | .held _ => 1
def uptoBulkAll {H : Type} : List (DataW H) → Nat
  | [] => 0
  | d :: r => uptoBulk d + uptoBulkAll r
def uptoBulkEntries {H : Type} : List (Lit × DataW H) → Nat
  | [] => 0
  | x :: r => uptoBulkEntry x + uptoBulkEntries r
def uptoBulkEntry {H : Type} : Lit × DataW H → Nat
  | (.string bytes, d) => bytes.length + uptoBulk d + 1
  | (_, d) => uptoBulk d + 1
 end
def uptoSmall : (H : Type) → List (DataW H) → Bool := fun _ ds => decide (uptoBulkAll ds ≤ 1048576)
def OpenSpec.upto (s : _root_.Go.ChangeSpec) : _root_.Go.OpenSpec := { _root_.Go.OpenSpec.ofChange s with cond := some uptoSmall }

/-- 'novationlaw32.RestGives', WHERE WHAT IT READS IS OF BULK AT MOST 1048576: true; the input reads as it did. -/
def restGivesUptoRow : OpenClaim := { program := "ytbpbkmngbhgpfaagreat", sum := "14d5266fec7d256ea1f53dcb67f55d1015aa0954b7bae098f228c036c7e9e0ff", func := "novation/novationlaw32.RestGives", spec := "restGives", inPlace := ["math/bits.Add64", "math/bits.Sub64"], unfollowed := true, recurses := true, plainKeys := false, apart := false, narrowed := true }
def RestGivesUptoSaid : Prop := restGivesUptoRow.holds Tryz.pinned (OpenSpec.upto restGivesSpec)

/-- 'novationlaw32.RestAll', WHERE WHAT IT READS IS OF BULK AT MOST 1048576: true; the input reads as it did. -/
def restAllUptoRow : OpenClaim := { program := "ytbpbkmngbhgpfaagreat", sum := "14d5266fec7d256ea1f53dcb67f55d1015aa0954b7bae098f228c036c7e9e0ff", func := "novation/novationlaw32.RestAll", spec := "restAll", inPlace := ["math/bits.Add64", "math/bits.Sub64"], unfollowed := true, recurses := true, plainKeys := false, apart := false, narrowed := true }
def RestAllUptoSaid : Prop := restAllUptoRow.holds Tryz.pinned (OpenSpec.upto restAllSpec)

/-- 'novationlaw21.DealGoes', WHERE WHAT IT READS IS OF BULK AT MOST 1048576: true; the input reads as it did. -/
def dealGoesUptoRow : OpenClaim := { program := "ytbpbkmngbhgpfaagreat", sum := "14d5266fec7d256ea1f53dcb67f55d1015aa0954b7bae098f228c036c7e9e0ff", func := "novation/novationlaw21.DealGoes", spec := "dealGoes", inPlace := ["math/bits.Sub64", "math/bits.Add64", "slices.overlaps[novation/api.Pos]"], unfollowed := true, recurses := true, plainKeys := false, apart := false, narrowed := true }
def DealGoesUptoSaid : Prop := dealGoesUptoRow.holds Tryz.pinned (OpenSpec.upto dealGoesSpec)

/-- 'novationlaw33.LedgerEncodes', WHERE WHAT IT READS IS OF BULK AT MOST 1048576: true; the input reads as it did. -/
def ledgerEncodesUptoRow : OpenClaim := { program := "ytbpbkmngbhgpfaagreat", sum := "14d5266fec7d256ea1f53dcb67f55d1015aa0954b7bae098f228c036c7e9e0ff", func := "novation/novationlaw33.LedgerEncodes", spec := "ledgerEncodes", unfollowed := true, recurses := true, plainKeys := false, apart := false, narrowed := true }
def LedgerEncodesUptoSaid : Prop := ledgerEncodesUptoRow.holds Tryz.pinned (OpenSpec.upto ledgerEncodesSpec)

end Rows
end Go.Proofs.YtbpbkmngbhgpfaaGreat
