/-
  No cell of these rows narrows 'for every input' (looked for: loops, veiled, ifaces, maps, wideKeys, modest, calm, conditions, laid).
  DERIVED. THE GIVEN ROWS OF THIS SEAT. 12 by the template 'for every input the law returns true; each argument reads behind the call as it read before'; 0 by the template 'total and deterministic' (their statements: YtllkmncnmlmefaaGreatTotals.lean).
  GIVEN WITH THE SEED: the statements are not yours to turn. If you find one false, say at which input.
  Laid BY PROGRAM, IN A SANDBOX (cutbox-rows.mjs): the forced cells as the released guide's own fill.sh prints them over the translation 8b3e70907e947a9d… (all of the seat's roots in one cut). By AI agents, Wed Nov 11 2026. No macro, syntax, notation, axiom, sorry.
-/
import Derived.Test.YtllkmncnmlmefaaGreatChecked
import GoSem.Claim
import GoSem.ClaimJoined
import GoSem.ClaimMapViews
import Derived.JoinedTies
import Derived.KernelRfl
namespace Go.Proofs.YtllkmncnmlmefaaGreat
/- THE CELL 'sum', in the pinned program and in every row, IS THE sha256 OF THE DUMP (.gsa) THAT YtllkmncnmlmefaaGreatProg.lean LOADS. Nothing in Lean hashes anything: it is a label: what it is worth is what the hold of that sum in a sandbox is worth. -/
noncomputable def Tryz.pinned : Pinned := { name := "ytllkmncnmlmefaagreat", sum := "8b3e70907e947a9d35202f57f3c3e1cac03c0b7f43c2b47d0afa907984107af9", checked := Tryz.checked }
namespace Rows
def none {H : Type} : Left H := { results := [], args := [] }

/-- 'novationlaw33.LedgerEncodes': WHATEVER THE INPUT: true; the input reads as it did. -/
def ledgerEncodesSpec : ChangeSpec := { name := "ledgerEncodes", fn := fun _ => fun
  | [d] => { results := [.lit (.bool true)], args := [d] }
  | _ => none }
def ledgerEncodesRow : OpenClaim := { program := "ytllkmncnmlmefaagreat", sum := "8b3e70907e947a9d35202f57f3c3e1cac03c0b7f43c2b47d0afa907984107af9", func := "novation/novationlaw33.LedgerEncodes", spec := "ledgerEncodes", unfollowed := true, recurses := true, plainKeys := false, apart := false }
def LedgerEncodesSaid : Prop := ledgerEncodesRow.holds Tryz.pinned (OpenSpec.ofChange ledgerEncodesSpec)

/-- ITS FALSE NEIGHBOUR: 'it returns false'. Refute it at one input. -/
def ledgerEncodesWrong : ChangeSpec := { name := "ledgerEncodes", fn := fun _ => fun
  | [d] => { results := [.lit (.bool false)], args := [d] }
  | _ => none }
def LedgerEncodesWrongFalsely : Prop := ledgerEncodesRow.holds Tryz.pinned (OpenSpec.ofChange ledgerEncodesWrong)

/-- 'novationlaw33.LedgerDecodes': WHATEVER THE INPUT: true; the input reads as it did. -/
def ledgerDecodesSpec : ChangeSpec := { name := "ledgerDecodes", fn := fun _ => fun
  | [d1, d2] => { results := [.lit (.bool true)], args := [d1, d2] }
  | _ => none }
def ledgerDecodesRow : OpenClaim := { program := "ytllkmncnmlmefaagreat", sum := "8b3e70907e947a9d35202f57f3c3e1cac03c0b7f43c2b47d0afa907984107af9", func := "novation/novationlaw33.LedgerDecodes", spec := "ledgerDecodes", unfollowed := true, recurses := true, plainKeys := false, apart := false }
def LedgerDecodesSaid : Prop := ledgerDecodesRow.holds Tryz.pinned (OpenSpec.ofChange ledgerDecodesSpec)

/-- ITS FALSE NEIGHBOUR: 'it returns false'. Refute it at one input. -/
def ledgerDecodesWrong : ChangeSpec := { name := "ledgerDecodes", fn := fun _ => fun
  | [d1, d2] => { results := [.lit (.bool false)], args := [d1, d2] }
  | _ => none }
def LedgerDecodesWrongFalsely : Prop := ledgerDecodesRow.holds Tryz.pinned (OpenSpec.ofChange ledgerDecodesWrong)

/-- 'novationlaw33.LedgerClones': WHATEVER THE INPUT: true; the input reads as it did. -/
def ledgerClonesSpec : ChangeSpec := { name := "ledgerClones", fn := fun _ => fun
  | [d1, d2] => { results := [.lit (.bool true)], args := [d1, d2] }
  | _ => none }
def ledgerClonesRow : OpenClaim := { program := "ytllkmncnmlmefaagreat", sum := "8b3e70907e947a9d35202f57f3c3e1cac03c0b7f43c2b47d0afa907984107af9", func := "novation/novationlaw33.LedgerClones", spec := "ledgerClones", unfollowed := true, recurses := true, plainKeys := false, apart := false }
def LedgerClonesSaid : Prop := ledgerClonesRow.holds Tryz.pinned (OpenSpec.ofChange ledgerClonesSpec)

/-- ITS FALSE NEIGHBOUR: 'it returns false'. Refute it at one input. -/
def ledgerClonesWrong : ChangeSpec := { name := "ledgerClones", fn := fun _ => fun
  | [d1, d2] => { results := [.lit (.bool false)], args := [d1, d2] }
  | _ => none }
def LedgerClonesWrongFalsely : Prop := ledgerClonesRow.holds Tryz.pinned (OpenSpec.ofChange ledgerClonesWrong)

/-- 'novationlaw30.AuctStarts': WHATEVER THE INPUT: true; the input reads as it did. -/
def auctStartsSpec : ChangeSpec := { name := "auctStarts", fn := fun _ => fun
  | [d1, d2] => { results := [.lit (.bool true)], args := [d1, d2] }
  | _ => none }
def auctStartsRow : OpenClaim := { program := "ytllkmncnmlmefaagreat", sum := "8b3e70907e947a9d35202f57f3c3e1cac03c0b7f43c2b47d0afa907984107af9", func := "novation/novationlaw30.AuctStarts", spec := "auctStarts", inPlace := ["math/bits.Add64", "slices.overlaps[novation/api.Pos]", "math/bits.Sub64"], unfollowed := true, recurses := true, plainKeys := false, apart := false }
def AuctStartsSaid : Prop := auctStartsRow.holds Tryz.pinned (OpenSpec.ofChange auctStartsSpec)

/-- ITS FALSE NEIGHBOUR: 'it returns false'. Refute it at one input. -/
def auctStartsWrong : ChangeSpec := { name := "auctStarts", fn := fun _ => fun
  | [d1, d2] => { results := [.lit (.bool false)], args := [d1, d2] }
  | _ => none }
def AuctStartsWrongFalsely : Prop := auctStartsRow.holds Tryz.pinned (OpenSpec.ofChange auctStartsWrong)

/-- 'novationlaw30.AuctFills': WHATEVER THE INPUT: true; the input reads as it did. -/
def auctFillsSpec : ChangeSpec := { name := "auctFills", fn := fun _ => fun
  | [d1, d2, d3, d4, d5, d6] => { results := [.lit (.bool true)], args := [d1, d2, d3, d4, d5, d6] }
  | _ => none }
def auctFillsRow : OpenClaim := { program := "ytllkmncnmlmefaagreat", sum := "8b3e70907e947a9d35202f57f3c3e1cac03c0b7f43c2b47d0afa907984107af9", func := "novation/novationlaw30.AuctFills", spec := "auctFills", inPlace := ["math/bits.Sub64", "math/bits.Add64", "slices.overlaps[novation/api.Pos]"], unfollowed := true, recurses := true, plainKeys := false, apart := false }
def AuctFillsSaid : Prop := auctFillsRow.holds Tryz.pinned (OpenSpec.ofChange auctFillsSpec)

/-- ITS FALSE NEIGHBOUR: 'it returns false'. Refute it at one input. -/
def auctFillsWrong : ChangeSpec := { name := "auctFills", fn := fun _ => fun
  | [d1, d2, d3, d4, d5, d6] => { results := [.lit (.bool false)], args := [d1, d2, d3, d4, d5, d6] }
  | _ => none }
def AuctFillsWrongFalsely : Prop := auctFillsRow.holds Tryz.pinned (OpenSpec.ofChange auctFillsWrong)

/-- 'novationlaw30.AuctKeeps': WHATEVER THE INPUT: true; the input reads as it did. -/
def auctKeepsSpec : ChangeSpec := { name := "auctKeeps", fn := fun _ => fun
  | [d1, d2, d3, d4, d5, d6, d7] => { results := [.lit (.bool true)], args := [d1, d2, d3, d4, d5, d6, d7] }
  | _ => none }
def auctKeepsRow : OpenClaim := { program := "ytllkmncnmlmefaagreat", sum := "8b3e70907e947a9d35202f57f3c3e1cac03c0b7f43c2b47d0afa907984107af9", func := "novation/novationlaw30.AuctKeeps", spec := "auctKeeps", inPlace := ["math/bits.Add64", "slices.overlaps[novation/api.Pos]", "math/bits.Sub64"], unfollowed := true, recurses := true, plainKeys := false, apart := false }
def AuctKeepsSaid : Prop := auctKeepsRow.holds Tryz.pinned (OpenSpec.ofChange auctKeepsSpec)

/-- ITS FALSE NEIGHBOUR: 'it returns false'. Refute it at one input. -/
def auctKeepsWrong : ChangeSpec := { name := "auctKeeps", fn := fun _ => fun
  | [d1, d2, d3, d4, d5, d6, d7] => { results := [.lit (.bool false)], args := [d1, d2, d3, d4, d5, d6, d7] }
  | _ => none }
def AuctKeepsWrongFalsely : Prop := auctKeepsRow.holds Tryz.pinned (OpenSpec.ofChange auctKeepsWrong)

/-- 'novationlaw29.PortGoes': WHATEVER THE INPUT: true; the input reads as it did. -/
def portGoesSpec : ChangeSpec := { name := "portGoes", fn := fun _ => fun
  | [d1, d2] => { results := [.lit (.bool true)], args := [d1, d2] }
  | _ => none }
def portGoesRow : OpenClaim := { program := "ytllkmncnmlmefaagreat", sum := "8b3e70907e947a9d35202f57f3c3e1cac03c0b7f43c2b47d0afa907984107af9", func := "novation/novationlaw29.PortGoes", spec := "portGoes", inPlace := ["math/bits.Add64", "slices.overlaps[novation/api.Pos]"], unfollowed := true, recurses := true, plainKeys := false, apart := false }
def PortGoesSaid : Prop := portGoesRow.holds Tryz.pinned (OpenSpec.ofChange portGoesSpec)

/-- ITS FALSE NEIGHBOUR: 'it returns false'. Refute it at one input. -/
def portGoesWrong : ChangeSpec := { name := "portGoes", fn := fun _ => fun
  | [d1, d2] => { results := [.lit (.bool false)], args := [d1, d2] }
  | _ => none }
def PortGoesWrongFalsely : Prop := portGoesRow.holds Tryz.pinned (OpenSpec.ofChange portGoesWrong)

/-- 'novationlaw29.PortWhole': WHATEVER THE INPUT: true; the input reads as it did. -/
def portWholeSpec : ChangeSpec := { name := "portWhole", fn := fun _ => fun
  | [d1, d2, d3] => { results := [.lit (.bool true)], args := [d1, d2, d3] }
  | _ => none }
def portWholeRow : OpenClaim := { program := "ytllkmncnmlmefaagreat", sum := "8b3e70907e947a9d35202f57f3c3e1cac03c0b7f43c2b47d0afa907984107af9", func := "novation/novationlaw29.PortWhole", spec := "portWhole", inPlace := ["math/bits.Add64", "slices.overlaps[novation/api.Pos]"], unfollowed := true, recurses := true, plainKeys := false, apart := false }
def PortWholeSaid : Prop := portWholeRow.holds Tryz.pinned (OpenSpec.ofChange portWholeSpec)

/-- ITS FALSE NEIGHBOUR: 'it returns false'. Refute it at one input. -/
def portWholeWrong : ChangeSpec := { name := "portWhole", fn := fun _ => fun
  | [d1, d2, d3] => { results := [.lit (.bool false)], args := [d1, d2, d3] }
  | _ => none }
def PortWholeWrongFalsely : Prop := portWholeRow.holds Tryz.pinned (OpenSpec.ofChange portWholeWrong)

/-- 'novationlaw31.FallSells': WHATEVER THE INPUT: true; the input reads as it did. -/
def fallSellsSpec : ChangeSpec := { name := "fallSells", fn := fun _ => fun
  | [d1, d2, d3] => { results := [.lit (.bool true)], args := [d1, d2, d3] }
  | _ => none }
def fallSellsRow : OpenClaim := { program := "ytllkmncnmlmefaagreat", sum := "8b3e70907e947a9d35202f57f3c3e1cac03c0b7f43c2b47d0afa907984107af9", func := "novation/novationlaw31.FallSells", spec := "fallSells", inPlace := ["math/bits.Add64", "math/bits.Sub64", "slices.overlaps[novation/api.Lot]"], unfollowed := true, recurses := true, named := ["math/bits.divideError", "math/bits.overflowError"], plainKeys := false, apart := false }
def FallSellsSaid : Prop := fallSellsRow.holds Tryz.pinned (OpenSpec.ofChange fallSellsSpec)

/-- ITS FALSE NEIGHBOUR: 'it returns false'. Refute it at one input. -/
def fallSellsWrong : ChangeSpec := { name := "fallSells", fn := fun _ => fun
  | [d1, d2, d3] => { results := [.lit (.bool false)], args := [d1, d2, d3] }
  | _ => none }
def FallSellsWrongFalsely : Prop := fallSellsRow.holds Tryz.pinned (OpenSpec.ofChange fallSellsWrong)

/-- 'novationlaw31.FallPays': WHATEVER THE INPUT: true; the input reads as it did. -/
def fallPaysSpec : ChangeSpec := { name := "fallPays", fn := fun _ => fun
  | [d1, d2, d3] => { results := [.lit (.bool true)], args := [d1, d2, d3] }
  | _ => none }
def fallPaysRow : OpenClaim := { program := "ytllkmncnmlmefaagreat", sum := "8b3e70907e947a9d35202f57f3c3e1cac03c0b7f43c2b47d0afa907984107af9", func := "novation/novationlaw31.FallPays", spec := "fallPays", inPlace := ["math/bits.Add64", "math/bits.Sub64", "slices.overlaps[novation/api.Lot]"], unfollowed := true, recurses := true, named := ["math/bits.divideError", "math/bits.overflowError"], plainKeys := false, apart := false }
def FallPaysSaid : Prop := fallPaysRow.holds Tryz.pinned (OpenSpec.ofChange fallPaysSpec)

/-- ITS FALSE NEIGHBOUR: 'it returns false'. Refute it at one input. -/
def fallPaysWrong : ChangeSpec := { name := "fallPays", fn := fun _ => fun
  | [d1, d2, d3] => { results := [.lit (.bool false)], args := [d1, d2, d3] }
  | _ => none }
def FallPaysWrongFalsely : Prop := fallPaysRow.holds Tryz.pinned (OpenSpec.ofChange fallPaysWrong)

/-- 'novationlaw31.FallAll': WHATEVER THE INPUT: true; the input reads as it did. -/
def fallAllSpec : ChangeSpec := { name := "fallAll", fn := fun _ => fun
  | [d1, d2] => { results := [.lit (.bool true)], args := [d1, d2] }
  | _ => none }
def fallAllRow : OpenClaim := { program := "ytllkmncnmlmefaagreat", sum := "8b3e70907e947a9d35202f57f3c3e1cac03c0b7f43c2b47d0afa907984107af9", func := "novation/novationlaw31.FallAll", spec := "fallAll", inPlace := ["math/bits.Add64", "math/bits.Sub64", "slices.overlaps[novation/api.Lot]"], unfollowed := true, recurses := true, named := ["math/bits.divideError", "math/bits.overflowError"], plainKeys := false, apart := false }
def FallAllSaid : Prop := fallAllRow.holds Tryz.pinned (OpenSpec.ofChange fallAllSpec)

/-- ITS FALSE NEIGHBOUR: 'it returns false'. Refute it at one input. -/
def fallAllWrong : ChangeSpec := { name := "fallAll", fn := fun _ => fun
  | [d1, d2] => { results := [.lit (.bool false)], args := [d1, d2] }
  | _ => none }
def FallAllWrongFalsely : Prop := fallAllRow.holds Tryz.pinned (OpenSpec.ofChange fallAllWrong)

/-- 'novationlaw31.FallFair': WHATEVER THE INPUT: true; the input reads as it did. -/
def fallFairSpec : ChangeSpec := { name := "fallFair", fn := fun _ => fun
  | [d1, d2] => { results := [.lit (.bool true)], args := [d1, d2] }
  | _ => none }
def fallFairRow : OpenClaim := { program := "ytllkmncnmlmefaagreat", sum := "8b3e70907e947a9d35202f57f3c3e1cac03c0b7f43c2b47d0afa907984107af9", func := "novation/novationlaw31.FallFair", spec := "fallFair", inPlace := ["math/bits.Add64", "math/bits.Sub64", "slices.overlaps[novation/api.Lot]"], unfollowed := true, recurses := true, named := ["math/bits.divideError", "math/bits.overflowError"], plainKeys := false, apart := false }
def FallFairSaid : Prop := fallFairRow.holds Tryz.pinned (OpenSpec.ofChange fallFairSpec)

/-- ITS FALSE NEIGHBOUR: 'it returns false'. Refute it at one input. -/
def fallFairWrong : ChangeSpec := { name := "fallFair", fn := fun _ => fun
  | [d1, d2] => { results := [.lit (.bool false)], args := [d1, d2] }
  | _ => none }
def FallFairWrongFalsely : Prop := fallFairRow.holds Tryz.pinned (OpenSpec.ofChange fallFairWrong)

/- THE SECOND FORM. 'bulk': how many values and letters a reading holds, each counted each time it is reached (what is shared counts as often as it is met; a slice's spare places count too). A statement '..UptoSaid' is the law's where the arguments, and the package variables that the reading takes, are together of bulk at most 1048576: NARROWER than '..Said'. Prove '..Said' where nothing that the law and all that it calls make is longer than what came in: it says more and counts as full. Else prove '..UptoSaid'. A law counts once. -/
mutual
def uptoBulk {H : Type} : DataW H → Nat
  | .lit (.string bytes) => bytes.length + 1
  | .lit _ => 1
  | .nil => 1
  | .ptr d => uptoBulk d + 1
  | .slice elems spare => uptoBulkAll elems + uptoBulkAll spare + 1
  | .agg parts => uptoBulkAll parts + 1
  | .iface _ d => uptoBulk d + 1
  | .map entries => uptoBulkEntries entries + 1
  | .held _ => 1
def uptoBulkAll {H : Type} : List (DataW H) → Nat
  | [] => 0
  | d :: r => uptoBulk d + uptoBulkAll r
def uptoBulkEntries {H : Type} : List (Lit × DataW H) → Nat
  | [] => 0
  | x :: r => uptoBulkEntry x + uptoBulkEntries r
def uptoBulkEntry {H : Type} : Lit × DataW H → Nat
  | (.string bytes, d) => bytes.length + uptoBulk d + 1
  | (_, d) => uptoBulk d + 1
 end
def uptoSmall : (H : Type) → List (DataW H) → Bool := fun _ ds => decide (uptoBulkAll ds ≤ 1048576)
def OpenSpec.upto (s : _root_.Go.ChangeSpec) : _root_.Go.OpenSpec := { _root_.Go.OpenSpec.ofChange s with cond := some uptoSmall }

/-- 'novationlaw33.LedgerEncodes', WHERE WHAT IT READS IS OF BULK AT MOST 1048576: true; the input reads as it did. -/
def ledgerEncodesUptoRow : OpenClaim := { program := "ytllkmncnmlmefaagreat", sum := "8b3e70907e947a9d35202f57f3c3e1cac03c0b7f43c2b47d0afa907984107af9", func := "novation/novationlaw33.LedgerEncodes", spec := "ledgerEncodes", unfollowed := true, recurses := true, plainKeys := false, apart := false, narrowed := true }
def LedgerEncodesUptoSaid : Prop := ledgerEncodesUptoRow.holds Tryz.pinned (OpenSpec.upto ledgerEncodesSpec)

/-- 'novationlaw33.LedgerDecodes', WHERE WHAT IT READS IS OF BULK AT MOST 1048576: true; the input reads as it did. -/
def ledgerDecodesUptoRow : OpenClaim := { program := "ytllkmncnmlmefaagreat", sum := "8b3e70907e947a9d35202f57f3c3e1cac03c0b7f43c2b47d0afa907984107af9", func := "novation/novationlaw33.LedgerDecodes", spec := "ledgerDecodes", unfollowed := true, recurses := true, plainKeys := false, apart := false, narrowed := true }
def LedgerDecodesUptoSaid : Prop := ledgerDecodesUptoRow.holds Tryz.pinned (OpenSpec.upto ledgerDecodesSpec)

/-- 'novationlaw33.LedgerClones', WHERE WHAT IT READS IS OF BULK AT MOST 1048576: true; the input reads as it did. -/
def ledgerClonesUptoRow : OpenClaim := { program := "ytllkmncnmlmefaagreat", sum := "8b3e70907e947a9d35202f57f3c3e1cac03c0b7f43c2b47d0afa907984107af9", func := "novation/novationlaw33.LedgerClones", spec := "ledgerClones", unfollowed := true, recurses := true, plainKeys := false, apart := false, narrowed := true }
def LedgerClonesUptoSaid : Prop := ledgerClonesUptoRow.holds Tryz.pinned (OpenSpec.upto ledgerClonesSpec)

/-- 'novationlaw30.AuctStarts', WHERE WHAT IT READS IS OF BULK AT MOST 1048576: true; the input reads as it did. -/
def auctStartsUptoRow : OpenClaim := { program := "ytllkmncnmlmefaagreat", sum := "8b3e70907e947a9d35202f57f3c3e1cac03c0b7f43c2b47d0afa907984107af9", func := "novation/novationlaw30.AuctStarts", spec := "auctStarts", inPlace := ["math/bits.Add64", "slices.overlaps[novation/api.Pos]", "math/bits.Sub64"], unfollowed := true, recurses := true, plainKeys := false, apart := false, narrowed := true }
def AuctStartsUptoSaid : Prop := auctStartsUptoRow.holds Tryz.pinned (OpenSpec.upto auctStartsSpec)

/-- 'novationlaw30.AuctFills', WHERE WHAT IT READS IS OF BULK AT MOST 1048576: true; the input reads as it did. -/
def auctFillsUptoRow : OpenClaim := { program := "ytllkmncnmlmefaagreat", sum := "8b3e70907e947a9d35202f57f3c3e1cac03c0b7f43c2b47d0afa907984107af9", func := "novation/novationlaw30.AuctFills", spec := "auctFills", inPlace := ["math/bits.Sub64", "math/bits.Add64", "slices.overlaps[novation/api.Pos]"], unfollowed := true, recurses := true, plainKeys := false, apart := false, narrowed := true }
def AuctFillsUptoSaid : Prop := auctFillsUptoRow.holds Tryz.pinned (OpenSpec.upto auctFillsSpec)

/-- 'novationlaw30.AuctKeeps', WHERE WHAT IT READS IS OF BULK AT MOST 1048576: true; the input reads as it did. -/
def auctKeepsUptoRow : OpenClaim := { program := "ytllkmncnmlmefaagreat", sum := "8b3e70907e947a9d35202f57f3c3e1cac03c0b7f43c2b47d0afa907984107af9", func := "novation/novationlaw30.AuctKeeps", spec := "auctKeeps", inPlace := ["math/bits.Add64", "slices.overlaps[novation/api.Pos]", "math/bits.Sub64"], unfollowed := true, recurses := true, plainKeys := false, apart := false, narrowed := true }
def AuctKeepsUptoSaid : Prop := auctKeepsUptoRow.holds Tryz.pinned (OpenSpec.upto auctKeepsSpec)

/-- 'novationlaw29.PortGoes', WHERE WHAT IT READS IS OF BULK AT MOST 1048576: true; the input reads as it did. -/
def portGoesUptoRow : OpenClaim := { program := "ytllkmncnmlmefaagreat", sum := "8b3e70907e947a9d35202f57f3c3e1cac03c0b7f43c2b47d0afa907984107af9", func := "novation/novationlaw29.PortGoes", spec := "portGoes", inPlace := ["math/bits.Add64", "slices.overlaps[novation/api.Pos]"], unfollowed := true, recurses := true, plainKeys := false, apart := false, narrowed := true }
def PortGoesUptoSaid : Prop := portGoesUptoRow.holds Tryz.pinned (OpenSpec.upto portGoesSpec)

/-- 'novationlaw29.PortWhole', WHERE WHAT IT READS IS OF BULK AT MOST 1048576: true; the input reads as it did. -/
def portWholeUptoRow : OpenClaim := { program := "ytllkmncnmlmefaagreat", sum := "8b3e70907e947a9d35202f57f3c3e1cac03c0b7f43c2b47d0afa907984107af9", func := "novation/novationlaw29.PortWhole", spec := "portWhole", inPlace := ["math/bits.Add64", "slices.overlaps[novation/api.Pos]"], unfollowed := true, recurses := true, plainKeys := false, apart := false, narrowed := true }
def PortWholeUptoSaid : Prop := portWholeUptoRow.holds Tryz.pinned (OpenSpec.upto portWholeSpec)

/-- 'novationlaw31.FallSells', WHERE WHAT IT READS IS OF BULK AT MOST 1048576: true; the input reads as it did. -/
def fallSellsUptoRow : OpenClaim := { program := "ytllkmncnmlmefaagreat", sum := "8b3e70907e947a9d35202f57f3c3e1cac03c0b7f43c2b47d0afa907984107af9", func := "novation/novationlaw31.FallSells", spec := "fallSells", inPlace := ["math/bits.Add64", "math/bits.Sub64", "slices.overlaps[novation/api.Lot]"], unfollowed := true, recurses := true, named := ["math/bits.divideError", "math/bits.overflowError"], plainKeys := false, apart := false, narrowed := true }
def FallSellsUptoSaid : Prop := fallSellsUptoRow.holds Tryz.pinned (OpenSpec.upto fallSellsSpec)

/-- 'novationlaw31.FallPays', WHERE WHAT IT READS IS OF BULK AT MOST 1048576: true; the input reads as it did. -/
def fallPaysUptoRow : OpenClaim := { program := "ytllkmncnmlmefaagreat", sum := "8b3e70907e947a9d35202f57f3c3e1cac03c0b7f43c2b47d0afa907984107af9", func := "novation/novationlaw31.FallPays", spec := "fallPays", inPlace := ["math/bits.Add64", "math/bits.Sub64", "slices.overlaps[novation/api.Lot]"], unfollowed := true, recurses := true, named := ["math/bits.divideError", "math/bits.overflowError"], plainKeys := false, apart := false, narrowed := true }
def FallPaysUptoSaid : Prop := fallPaysUptoRow.holds Tryz.pinned (OpenSpec.upto fallPaysSpec)

/-- 'novationlaw31.FallAll', WHERE WHAT IT READS IS OF BULK AT MOST 1048576: true; the input reads as it did. -/
def fallAllUptoRow : OpenClaim := { program := "ytllkmncnmlmefaagreat", sum := "8b3e70907e947a9d35202f57f3c3e1cac03c0b7f43c2b47d0afa907984107af9", func := "novation/novationlaw31.FallAll", spec := "fallAll", inPlace := ["math/bits.Add64", "math/bits.Sub64", "slices.overlaps[novation/api.Lot]"], unfollowed := true, recurses := true, named := ["math/bits.divideError", "math/bits.overflowError"], plainKeys := false, apart := false, narrowed := true }
def FallAllUptoSaid : Prop := fallAllUptoRow.holds Tryz.pinned (OpenSpec.upto fallAllSpec)

/-- 'novationlaw31.FallFair', WHERE WHAT IT READS IS OF BULK AT MOST 1048576: true; the input reads as it did. -/
def fallFairUptoRow : OpenClaim := { program := "ytllkmncnmlmefaagreat", sum := "8b3e70907e947a9d35202f57f3c3e1cac03c0b7f43c2b47d0afa907984107af9", func := "novation/novationlaw31.FallFair", spec := "fallFair", inPlace := ["math/bits.Add64", "math/bits.Sub64", "slices.overlaps[novation/api.Lot]"], unfollowed := true, recurses := true, named := ["math/bits.divideError", "math/bits.overflowError"], plainKeys := false, apart := false, narrowed := true }
def FallFairUptoSaid : Prop := fallFairUptoRow.holds Tryz.pinned (OpenSpec.upto fallFairSpec)

end Rows
end Go.Proofs.YtllkmncnmlmefaaGreat
