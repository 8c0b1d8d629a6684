import Derived.Test.YtnldhkhnfodplaaB1
namespace Go.Proofs.Ytnldhkhnfodplaa
open Go Go.Vc Go.RowKit

structure AMember where
  id : Int
  cap : Int
  phase : Int
  until_ : Int
def AMember.r (x : AMember) : List R := [.val (.int .i64 x.id), .val (.int .i64 x.cap), .val (.int .i64 x.phase), .val (.int .i64 x.until_)]
def AMember.ok (x : AMember) : Prop := ((Lit.int .i64 x.id).wf = true) ∧ ((Lit.int .i64 x.cap).wf = true) ∧ ((Lit.int .i64 x.phase).wf = true) ∧ ((Lit.int .i64 x.until_).wf = true)
theorem opn_AMember : Opn Try.prog 23 AMember AMember.r AMember.ok :=
  Opn.map (Opn.struct Try.underlying23 (by kernel_rfl) (OpnF.cons rfl (k := 1) (by kernel_rfl) (Opn.int (k := .i64) Try.underlying3) (OpnF.cons rfl (k := 1) (by kernel_rfl) (Opn.int (k := .i64) Try.underlying2) (OpnF.cons rfl (k := 1) (by kernel_rfl) (Opn.int (k := .i64) Try.underlying3) (OpnF.cons rfl (k := 1) (by kernel_rfl) (Opn.int (k := .i64) Try.underlying3) OpnF.nil))))) (fun p => ⟨p.1, p.2.1, p.2.2.1, p.2.2.2.1⟩) AMember.r AMember.ok (fun _ => rfl) (fun _ h => ⟨h.1, h.2.1, h.2.2.1, h.2.2.2.1⟩)
structure Novationlaw04Do where
  kind : Int
  l : List Int
  s : ByteArray
  lo : Int
  hi : Int
  most : Int
def Novationlaw04Do.r (x : Novationlaw04Do) : List R := [.val (.int .i64 x.kind), .sl 1 (x.l.map (fun x => [.val (.int .i64 x)])), .val (.string x.s), .val (.int .i64 x.lo), .val (.int .i64 x.hi), .val (.int .i64 x.most)]
def Novationlaw04Do.ok (x : Novationlaw04Do) : Prop := ((Lit.int .i64 x.kind).wf = true) ∧ ((∀ y ∈ x.l, (Lit.int .i64 y).wf = true) ∧ x.l.length ≤ maxLen) ∧ (x.s.size ≤ maxLen) ∧ ((Lit.int .i64 x.lo).wf = true) ∧ ((Lit.int .i64 x.hi).wf = true) ∧ ((Lit.int .i64 x.most).wf = true)
theorem opn_Novationlaw04Do : Opn Try.prog 44 Novationlaw04Do Novationlaw04Do.r Novationlaw04Do.ok :=
  Opn.map (Opn.struct Try.underlying44 (by kernel_rfl) (OpnF.cons rfl (k := 1) (by kernel_rfl) (Opn.int (k := .i64) Try.underlying3) (OpnF.cons rfl (k := 1) (by kernel_rfl) (Opn.slice Try.underlying42 (k := 1) (by kernel_rfl) (Opn.int (k := .i64) Try.underlying2)) (OpnF.cons rfl (k := 1) (by kernel_rfl) (Opn.str Try.underlying9) (OpnF.cons rfl (k := 1) (by kernel_rfl) (Opn.int (k := .i64) Try.underlying2) (OpnF.cons rfl (k := 1) (by kernel_rfl) (Opn.int (k := .i64) Try.underlying2) (OpnF.cons rfl (k := 1) (by kernel_rfl) (Opn.int (k := .i64) Try.underlying3) OpnF.nil))))))) (fun p => ⟨p.1, p.2.1, p.2.2.1, p.2.2.2.1, p.2.2.2.2.1, p.2.2.2.2.2.1⟩) Novationlaw04Do.r Novationlaw04Do.ok (fun _ => rfl) (fun _ h => ⟨h.1, h.2.1, h.2.2.1, h.2.2.2.1, h.2.2.2.2.1, h.2.2.2.2.2.1⟩)
structure PackWriter where
  made : Bool
  b : List Int
def PackWriter.r (x : PackWriter) : List R := [.val (.bool x.made), .sl 1 (x.b.map (fun x => [.val (.int .u8 x)]))]
def PackWriter.ok (x : PackWriter) : Prop := (True) ∧ ((∀ y ∈ x.b, (Lit.int .u8 y).wf = true) ∧ x.b.length ≤ maxLen)
theorem opn_PackWriter : Opn Try.prog 63 PackWriter PackWriter.r PackWriter.ok :=
  Opn.map (Opn.struct Try.underlying63 (by kernel_rfl) (OpnF.cons rfl (k := 1) (by kernel_rfl) (Opn.bool Try.underlying4) (OpnF.cons rfl (k := 1) (by kernel_rfl) (Opn.slice Try.underlying41 (k := 1) (by kernel_rfl) (Opn.int (k := .u8) Try.underlying5)) OpnF.nil))) (fun p => ⟨p.1, p.2.1⟩) PackWriter.r PackWriter.ok (fun _ => rfl) (fun _ h => ⟨h.1, h.2.1⟩)
structure PackReader where
  made : Bool
  b : List Int
  err : Int
def PackReader.r (x : PackReader) : List R := [.val (.bool x.made), .sl 1 (x.b.map (fun x => [.val (.int .u8 x)])), .val (.int .i64 x.err)]
def PackReader.ok (x : PackReader) : Prop := (True) ∧ ((∀ y ∈ x.b, (Lit.int .u8 y).wf = true) ∧ x.b.length ≤ maxLen) ∧ ((Lit.int .i64 x.err).wf = true)
theorem opn_PackReader : Opn Try.prog 65 PackReader PackReader.r PackReader.ok :=
  Opn.map (Opn.struct Try.underlying65 (by kernel_rfl) (OpnF.cons rfl (k := 1) (by kernel_rfl) (Opn.bool Try.underlying4) (OpnF.cons rfl (k := 1) (by kernel_rfl) (Opn.slice Try.underlying41 (k := 1) (by kernel_rfl) (Opn.int (k := .u8) Try.underlying5)) (OpnF.cons rfl (k := 1) (by kernel_rfl) (Opn.int (k := .i64) Try.underlying25) OpnF.nil)))) (fun p => ⟨p.1, p.2.1, p.2.2.1⟩) PackReader.r PackReader.ok (fun _ => rfl) (fun _ h => ⟨h.1, h.2.1, h.2.2.1⟩)
structure AInst where
  id : Int
  mult : Int
  price : Int
  next : Int
  moves : List Int
def AInst.r (x : AInst) : List R := [.val (.int .i64 x.id), .val (.int .i64 x.mult), .val (.int .i64 x.price), .val (.int .i64 x.next), .sl 1 (x.moves.map (fun x => [.val (.int .i64 x)]))]
def AInst.ok (x : AInst) : Prop := ((Lit.int .i64 x.id).wf = true) ∧ ((Lit.int .i64 x.mult).wf = true) ∧ ((Lit.int .i64 x.price).wf = true) ∧ ((Lit.int .i64 x.next).wf = true) ∧ ((∀ y ∈ x.moves, (Lit.int .i64 y).wf = true) ∧ x.moves.length ≤ maxLen)
theorem opn_AInst : Opn Try.prog 152 AInst AInst.r AInst.ok :=
  Opn.map (Opn.struct Try.underlying152 (by kernel_rfl) (OpnF.cons rfl (k := 1) (by kernel_rfl) (Opn.int (k := .i64) Try.underlying3) (OpnF.cons rfl (k := 1) (by kernel_rfl) (Opn.int (k := .i64) Try.underlying2) (OpnF.cons rfl (k := 1) (by kernel_rfl) (Opn.int (k := .i64) Try.underlying2) (OpnF.cons rfl (k := 1) (by kernel_rfl) (Opn.int (k := .i64) Try.underlying2) (OpnF.cons rfl (k := 1) (by kernel_rfl) (Opn.slice Try.underlying42 (k := 1) (by kernel_rfl) (Opn.int (k := .i64) Try.underlying2)) OpnF.nil)))))) (fun p => ⟨p.1, p.2.1, p.2.2.1, p.2.2.2.1, p.2.2.2.2.1⟩) AInst.r AInst.ok (fun _ => rfl) (fun _ h => ⟨h.1, h.2.1, h.2.2.1, h.2.2.2.1, h.2.2.2.2.1⟩)
structure AAsset where
  id : Int
  price : Int
  haircut : Int
def AAsset.r (x : AAsset) : List R := [.val (.int .i64 x.id), .val (.int .i64 x.price), .val (.int .i64 x.haircut)]
def AAsset.ok (x : AAsset) : Prop := ((Lit.int .i64 x.id).wf = true) ∧ ((Lit.int .i64 x.price).wf = true) ∧ ((Lit.int .i64 x.haircut).wf = true)
theorem opn_AAsset : Opn Try.prog 147 AAsset AAsset.r AAsset.ok :=
  Opn.map (Opn.struct Try.underlying147 (by kernel_rfl) (OpnF.cons rfl (k := 1) (by kernel_rfl) (Opn.int (k := .i64) Try.underlying3) (OpnF.cons rfl (k := 1) (by kernel_rfl) (Opn.int (k := .i64) Try.underlying2) (OpnF.cons rfl (k := 1) (by kernel_rfl) (Opn.int (k := .i64) Try.underlying2) OpnF.nil)))) (fun p => ⟨p.1, p.2.1, p.2.2.1⟩) AAsset.r AAsset.ok (fun _ => rfl) (fun _ h => ⟨h.1, h.2.1, h.2.2.1⟩)
structure AAccount where
  id : Int
  member : Int
  kind : Int
  clients : List Int
def AAccount.r (x : AAccount) : List R := [.val (.int .i64 x.id), .val (.int .i64 x.member), .val (.int .i64 x.kind), .sl 1 (x.clients.map (fun x => [.val (.int .i64 x)]))]
def AAccount.ok (x : AAccount) : Prop := ((Lit.int .i64 x.id).wf = true) ∧ ((Lit.int .i64 x.member).wf = true) ∧ ((Lit.int .i64 x.kind).wf = true) ∧ ((∀ y ∈ x.clients, (Lit.int .i64 y).wf = true) ∧ x.clients.length ≤ maxLen)
theorem opn_AAccount : Opn Try.prog 149 AAccount AAccount.r AAccount.ok :=
  Opn.map (Opn.struct Try.underlying149 (by kernel_rfl) (OpnF.cons rfl (k := 1) (by kernel_rfl) (Opn.int (k := .i64) Try.underlying3) (OpnF.cons rfl (k := 1) (by kernel_rfl) (Opn.int (k := .i64) Try.underlying3) (OpnF.cons rfl (k := 1) (by kernel_rfl) (Opn.int (k := .i64) Try.underlying3) (OpnF.cons rfl (k := 1) (by kernel_rfl) (Opn.slice Try.underlying24 (k := 1) (by kernel_rfl) (Opn.int (k := .i64) Try.underlying3)) OpnF.nil))))) (fun p => ⟨p.1, p.2.1, p.2.2.1, p.2.2.2.1⟩) AAccount.r AAccount.ok (fun _ => rfl) (fun _ h => ⟨h.1, h.2.1, h.2.2.1, h.2.2.2.1⟩)
structure AUnit where
  account : Int
  client : Int
def AUnit.r (x : AUnit) : List R := [.val (.int .i64 x.account), .val (.int .i64 x.client)]
def AUnit.ok (x : AUnit) : Prop := ((Lit.int .i64 x.account).wf = true) ∧ ((Lit.int .i64 x.client).wf = true)
theorem opn_AUnit : Opn Try.prog 85 AUnit AUnit.r AUnit.ok :=
  Opn.map (Opn.struct Try.underlying85 (by kernel_rfl) (OpnF.cons rfl (k := 1) (by kernel_rfl) (Opn.int (k := .i64) Try.underlying3) (OpnF.cons rfl (k := 1) (by kernel_rfl) (Opn.int (k := .i64) Try.underlying3) OpnF.nil))) (fun p => ⟨p.1, p.2.1⟩) AUnit.r AUnit.ok (fun _ => rfl) (fun _ h => ⟨h.1, h.2.1⟩)
structure AChoice where
  from_ : AUnit
  to : AUnit
  consent : Bool
def AChoice.r (x : AChoice) : List R := [.val (.int .i64 x.from_.account), .val (.int .i64 x.from_.client), .val (.int .i64 x.to.account), .val (.int .i64 x.to.client), .val (.bool x.consent)]
def AChoice.ok (x : AChoice) : Prop := (x.from_.ok) ∧ (x.to.ok) ∧ (True)
theorem opn_AChoice : Opn Try.prog 188 AChoice AChoice.r AChoice.ok :=
  Opn.map (Opn.struct Try.underlying188 (by kernel_rfl) (OpnF.cons rfl (k := 2) (by kernel_rfl) opn_AUnit (OpnF.cons rfl (k := 2) (by kernel_rfl) opn_AUnit (OpnF.cons rfl (k := 1) (by kernel_rfl) (Opn.bool Try.underlying4) OpnF.nil)))) (fun p => ⟨p.1, p.2.1, p.2.2.1⟩) AChoice.r AChoice.ok (fun _ => rfl) (fun _ h => ⟨h.1, h.2.1, h.2.2.1⟩)
structure AGroup where
  id : Int
  unit : AUnit
  inst : Int
  price : Int
  left : Int
def AGroup.r (x : AGroup) : List R := [.val (.int .i64 x.id), .val (.int .i64 x.unit.account), .val (.int .i64 x.unit.client), .val (.int .i64 x.inst), .val (.int .i64 x.price), .val (.int .i64 x.left)]
def AGroup.ok (x : AGroup) : Prop := ((Lit.int .i64 x.id).wf = true) ∧ (x.unit.ok) ∧ ((Lit.int .i64 x.inst).wf = true) ∧ ((Lit.int .i64 x.price).wf = true) ∧ ((Lit.int .i64 x.left).wf = true)
theorem opn_AGroup : Opn Try.prog 154 AGroup AGroup.r AGroup.ok :=
  Opn.map (Opn.struct Try.underlying154 (by kernel_rfl) (OpnF.cons rfl (k := 1) (by kernel_rfl) (Opn.int (k := .i64) Try.underlying3) (OpnF.cons rfl (k := 2) (by kernel_rfl) opn_AUnit (OpnF.cons rfl (k := 1) (by kernel_rfl) (Opn.int (k := .i64) Try.underlying3) (OpnF.cons rfl (k := 1) (by kernel_rfl) (Opn.int (k := .i64) Try.underlying2) (OpnF.cons rfl (k := 1) (by kernel_rfl) (Opn.int (k := .i64) Try.underlying2) OpnF.nil)))))) (fun p => ⟨p.1, p.2.1, p.2.2.1, p.2.2.2.1, p.2.2.2.2.1⟩) AGroup.r AGroup.ok (fun _ => rfl) (fun _ h => ⟨h.1, h.2.1, h.2.2.1, h.2.2.2.1, h.2.2.2.2.1⟩)
structure ALeg where
  inst : Int
  qty : Int
def ALeg.r (x : ALeg) : List R := [.val (.int .i64 x.inst), .val (.int .i64 x.qty)]
def ALeg.ok (x : ALeg) : Prop := ((Lit.int .i64 x.inst).wf = true) ∧ ((Lit.int .i64 x.qty).wf = true)
theorem opn_ALeg : Opn Try.prog 156 ALeg ALeg.r ALeg.ok :=
  Opn.map (Opn.struct Try.underlying156 (by kernel_rfl) (OpnF.cons rfl (k := 1) (by kernel_rfl) (Opn.int (k := .i64) Try.underlying3) (OpnF.cons rfl (k := 1) (by kernel_rfl) (Opn.int (k := .i64) Try.underlying2) OpnF.nil))) (fun p => ⟨p.1, p.2.1⟩) ALeg.r ALeg.ok (fun _ => rfl) (fun _ h => ⟨h.1, h.2.1⟩)
structure AGive where
  id : Int
  from_ : AUnit
  to : AUnit
  leg : ALeg
  price : Int
  group : Int
  day : Int
  state : Int
def AGive.r (x : AGive) : List R := [.val (.int .i64 x.id), .val (.int .i64 x.from_.account), .val (.int .i64 x.from_.client), .val (.int .i64 x.to.account), .val (.int .i64 x.to.client), .val (.int .i64 x.leg.inst), .val (.int .i64 x.leg.qty), .val (.int .i64 x.price), .val (.int .i64 x.group), .val (.int .i64 x.day), .val (.int .i64 x.state)]
def AGive.ok (x : AGive) : Prop := ((Lit.int .i64 x.id).wf = true) ∧ (x.from_.ok) ∧ (x.to.ok) ∧ (x.leg.ok) ∧ ((Lit.int .i64 x.price).wf = true) ∧ ((Lit.int .i64 x.group).wf = true) ∧ ((Lit.int .i64 x.day).wf = true) ∧ ((Lit.int .i64 x.state).wf = true)
theorem opn_AGive : Opn Try.prog 158 AGive AGive.r AGive.ok :=
  Opn.map (Opn.struct Try.underlying158 (by kernel_rfl) (OpnF.cons rfl (k := 1) (by kernel_rfl) (Opn.int (k := .i64) Try.underlying3) (OpnF.cons rfl (k := 2) (by kernel_rfl) opn_AUnit (OpnF.cons rfl (k := 2) (by kernel_rfl) opn_AUnit (OpnF.cons rfl (k := 2) (by kernel_rfl) opn_ALeg (OpnF.cons rfl (k := 1) (by kernel_rfl) (Opn.int (k := .i64) Try.underlying2) (OpnF.cons rfl (k := 1) (by kernel_rfl) (Opn.int (k := .i64) Try.underlying3) (OpnF.cons rfl (k := 1) (by kernel_rfl) (Opn.int (k := .i64) Try.underlying3) (OpnF.cons rfl (k := 1) (by kernel_rfl) (Opn.int (k := .i64) Try.underlying3) OpnF.nil))))))))) (fun p => ⟨p.1, p.2.1, p.2.2.1, p.2.2.2.1, p.2.2.2.2.1, p.2.2.2.2.2.1, p.2.2.2.2.2.2.1, p.2.2.2.2.2.2.2.1⟩) AGive.r AGive.ok (fun _ => rfl) (fun _ h => ⟨h.1, h.2.1, h.2.2.1, h.2.2.2.1, h.2.2.2.2.1, h.2.2.2.2.2.1, h.2.2.2.2.2.2.1, h.2.2.2.2.2.2.2.1⟩)
structure APos where
  unit : AUnit
  legs : List ALeg
def APos.r (x : APos) : List R := [.val (.int .i64 x.unit.account), .val (.int .i64 x.unit.client), .sl 2 (x.legs.map ALeg.r)]
def APos.ok (x : APos) : Prop := (x.unit.ok) ∧ ((∀ y ∈ x.legs, y.ok) ∧ x.legs.length ≤ maxLen)
theorem opn_APos : Opn Try.prog 221 APos APos.r APos.ok :=
  Opn.map (Opn.struct Try.underlying221 (by kernel_rfl) (OpnF.cons rfl (k := 2) (by kernel_rfl) opn_AUnit (OpnF.cons rfl (k := 1) (by kernel_rfl) (Opn.slice Try.underlying219 (k := 2) (by kernel_rfl) opn_ALeg) OpnF.nil))) (fun p => ⟨p.1, p.2.1⟩) APos.r APos.ok (fun _ => rfl) (fun _ h => ⟨h.1, h.2.1⟩)
structure AFlow where
  unit : AUnit
  amount : Int
def AFlow.r (x : AFlow) : List R := [.val (.int .i64 x.unit.account), .val (.int .i64 x.unit.client), .val (.int .i64 x.amount)]
def AFlow.ok (x : AFlow) : Prop := (x.unit.ok) ∧ ((Lit.int .i64 x.amount).wf = true)
theorem opn_AFlow : Opn Try.prog 131 AFlow AFlow.r AFlow.ok :=
  Opn.map (Opn.struct Try.underlying131 (by kernel_rfl) (OpnF.cons rfl (k := 2) (by kernel_rfl) opn_AUnit (OpnF.cons rfl (k := 1) (by kernel_rfl) (Opn.int (k := .i64) Try.underlying2) OpnF.nil))) (fun p => ⟨p.1, p.2.1⟩) AFlow.r AFlow.ok (fun _ => rfl) (fun _ h => ⟨h.1, h.2.1⟩)
structure ALot where
  asset : Int
  tag : Int
  qty : Int
def ALot.r (x : ALot) : List R := [.val (.int .i64 x.asset), .val (.int .i64 x.tag), .val (.int .i64 x.qty)]
def ALot.ok (x : ALot) : Prop := ((Lit.int .i64 x.asset).wf = true) ∧ ((Lit.int .i64 x.tag).wf = true) ∧ ((Lit.int .i64 x.qty).wf = true)
theorem opn_ALot : Opn Try.prog 200 ALot ALot.r ALot.ok :=
  Opn.map (Opn.struct Try.underlying200 (by kernel_rfl) (OpnF.cons rfl (k := 1) (by kernel_rfl) (Opn.int (k := .i64) Try.underlying3) (OpnF.cons rfl (k := 1) (by kernel_rfl) (Opn.int (k := .i64) Try.underlying3) (OpnF.cons rfl (k := 1) (by kernel_rfl) (Opn.int (k := .i64) Try.underlying2) OpnF.nil)))) (fun p => ⟨p.1, p.2.1, p.2.2.1⟩) ALot.r ALot.ok (fun _ => rfl) (fun _ h => ⟨h.1, h.2.1, h.2.2.1⟩)
structure AHold where
  unit : AUnit
  lots : List ALot
def AHold.r (x : AHold) : List R := [.val (.int .i64 x.unit.account), .val (.int .i64 x.unit.client), .sl 3 (x.lots.map ALot.r)]
def AHold.ok (x : AHold) : Prop := (x.unit.ok) ∧ ((∀ y ∈ x.lots, y.ok) ∧ x.lots.length ≤ maxLen)
theorem opn_AHold : Opn Try.prog 224 AHold AHold.r AHold.ok :=
  Opn.map (Opn.struct Try.underlying224 (by kernel_rfl) (OpnF.cons rfl (k := 2) (by kernel_rfl) opn_AUnit (OpnF.cons rfl (k := 1) (by kernel_rfl) (Opn.slice Try.underlying161 (k := 3) (by kernel_rfl) opn_ALot) OpnF.nil))) (fun p => ⟨p.1, p.2.1⟩) AHold.r AHold.ok (fun _ => rfl) (fun _ h => ⟨h.1, h.2.1⟩)
structure AState where
  day : Int
  members : List AMember
  insts : List AInst
  assets : List AAsset
  accounts : List AAccount
  choices : List AChoice
  groups : List AGroup
  gives : List AGive
  book : List APos
  sale : List APos
  purse : List AFlow
  holds : List AHold
def AState.r (x : AState) : List R := [.val (.int .i64 x.day), .sl 4 (x.members.map AMember.r), .sl 5 (x.insts.map AInst.r), .sl 3 (x.assets.map AAsset.r), .sl 4 (x.accounts.map AAccount.r), .sl 5 (x.choices.map AChoice.r), .sl 6 (x.groups.map AGroup.r), .sl 11 (x.gives.map AGive.r), .sl 3 (x.book.map APos.r), .sl 3 (x.sale.map APos.r), .sl 3 (x.purse.map AFlow.r), .sl 3 (x.holds.map AHold.r)]
def AState.ok (x : AState) : Prop := ((Lit.int .i64 x.day).wf = true) ∧ ((∀ y ∈ x.members, y.ok) ∧ x.members.length ≤ maxLen) ∧ ((∀ y ∈ x.insts, y.ok) ∧ x.insts.length ≤ maxLen) ∧ ((∀ y ∈ x.assets, y.ok) ∧ x.assets.length ≤ maxLen) ∧ ((∀ y ∈ x.accounts, y.ok) ∧ x.accounts.length ≤ maxLen) ∧ ((∀ y ∈ x.choices, y.ok) ∧ x.choices.length ≤ maxLen) ∧ ((∀ y ∈ x.groups, y.ok) ∧ x.groups.length ≤ maxLen) ∧ ((∀ y ∈ x.gives, y.ok) ∧ x.gives.length ≤ maxLen) ∧ ((∀ y ∈ x.book, y.ok) ∧ x.book.length ≤ maxLen) ∧ ((∀ y ∈ x.sale, y.ok) ∧ x.sale.length ≤ maxLen) ∧ ((∀ y ∈ x.purse, y.ok) ∧ x.purse.length ≤ maxLen) ∧ ((∀ y ∈ x.holds, y.ok) ∧ x.holds.length ≤ maxLen)
theorem opn_AState : Opn Try.prog 78 AState AState.r AState.ok :=
  Opn.map (Opn.struct Try.underlying78 (by kernel_rfl) (OpnF.cons rfl (k := 1) (by kernel_rfl) (Opn.int (k := .i64) Try.underlying3) (OpnF.cons rfl (k := 1) (by kernel_rfl) (Opn.slice Try.underlying67 (k := 4) (by kernel_rfl) opn_AMember) (OpnF.cons rfl (k := 1) (by kernel_rfl) (Opn.slice Try.underlying68 (k := 5) (by kernel_rfl) opn_AInst) (OpnF.cons rfl (k := 1) (by kernel_rfl) (Opn.slice Try.underlying69 (k := 3) (by kernel_rfl) opn_AAsset) (OpnF.cons rfl (k := 1) (by kernel_rfl) (Opn.slice Try.underlying70 (k := 4) (by kernel_rfl) opn_AAccount) (OpnF.cons rfl (k := 1) (by kernel_rfl) (Opn.slice Try.underlying71 (k := 5) (by kernel_rfl) opn_AChoice) (OpnF.cons rfl (k := 1) (by kernel_rfl) (Opn.slice Try.underlying72 (k := 6) (by kernel_rfl) opn_AGroup) (OpnF.cons rfl (k := 1) (by kernel_rfl) (Opn.slice Try.underlying73 (k := 11) (by kernel_rfl) opn_AGive) (OpnF.cons rfl (k := 1) (by kernel_rfl) (Opn.slice Try.underlying74 (k := 3) (by kernel_rfl) opn_APos) (OpnF.cons rfl (k := 1) (by kernel_rfl) (Opn.slice Try.underlying74 (k := 3) (by kernel_rfl) opn_APos) (OpnF.cons rfl (k := 1) (by kernel_rfl) (Opn.slice Try.underlying75 (k := 3) (by kernel_rfl) opn_AFlow) (OpnF.cons rfl (k := 1) (by kernel_rfl) (Opn.slice Try.underlying76 (k := 3) (by kernel_rfl) opn_AHold) OpnF.nil))))))))))))) (fun p => ⟨p.1, p.2.1, p.2.2.1, p.2.2.2.1, p.2.2.2.2.1, p.2.2.2.2.2.1, p.2.2.2.2.2.2.1, p.2.2.2.2.2.2.2.1, p.2.2.2.2.2.2.2.2.1, p.2.2.2.2.2.2.2.2.2.1, p.2.2.2.2.2.2.2.2.2.2.1, p.2.2.2.2.2.2.2.2.2.2.2.1⟩) AState.r AState.ok (fun _ => rfl) (fun _ h => ⟨h.1, h.2.1, h.2.2.1, h.2.2.2.1, h.2.2.2.2.1, h.2.2.2.2.2.1, h.2.2.2.2.2.2.1, h.2.2.2.2.2.2.2.1, h.2.2.2.2.2.2.2.2.1, h.2.2.2.2.2.2.2.2.2.1, h.2.2.2.2.2.2.2.2.2.2.1, h.2.2.2.2.2.2.2.2.2.2.2.1⟩)
structure Novationref01Big where
  neg : Bool
  b : List Int
def Novationref01Big.r (x : Novationref01Big) : List R := [.val (.bool x.neg), .sl 1 (x.b.map (fun x => [.val (.int .u8 x)]))]
def Novationref01Big.ok (x : Novationref01Big) : Prop := (True) ∧ ((∀ y ∈ x.b, (Lit.int .u8 y).wf = true) ∧ x.b.length ≤ maxLen)
theorem opn_Novationref01Big : Opn Try.prog 87 Novationref01Big Novationref01Big.r Novationref01Big.ok :=
  Opn.map (Opn.struct Try.underlying87 (by kernel_rfl) (OpnF.cons rfl (k := 1) (by kernel_rfl) (Opn.bool Try.underlying4) (OpnF.cons rfl (k := 1) (by kernel_rfl) (Opn.slice Try.underlying41 (k := 1) (by kernel_rfl) (Opn.int (k := .u8) Try.underlying5)) OpnF.nil))) (fun p => ⟨p.1, p.2.1⟩) Novationref01Big.r Novationref01Big.ok (fun _ => rfl) (fun _ h => ⟨h.1, h.2.1⟩)
structure WideWide where
  hi : Int
  lo : Int
def WideWide.r (x : WideWide) : List R := [.val (.int .i64 x.hi), .val (.int .u64 x.lo)]
def WideWide.ok (x : WideWide) : Prop := ((Lit.int .i64 x.hi).wf = true) ∧ ((Lit.int .u64 x.lo).wf = true)
theorem opn_WideWide : Opn Try.prog 94 WideWide WideWide.r WideWide.ok :=
  Opn.map (Opn.struct Try.underlying94 (by kernel_rfl) (OpnF.cons rfl (k := 1) (by kernel_rfl) (Opn.int (k := .i64) Try.underlying2) (OpnF.cons rfl (k := 1) (by kernel_rfl) (Opn.int (k := .u64) Try.underlying92) OpnF.nil))) (fun p => ⟨p.1, p.2.1⟩) WideWide.r WideWide.ok (fun _ => rfl) (fun _ h => ⟨h.1, h.2.1⟩)
structure ACommand where
  op : Int
  by_ : Int
  member : Int
  unit : AUnit
  other : AUnit
  inst : Int
  asset : Int
  tag : Int
  id : Int
  qty : Int
  price : Int
  numbers : List Int
def ACommand.r (x : ACommand) : List R := [.val (.int .i64 x.op), .val (.int .i64 x.by_), .val (.int .i64 x.member), .val (.int .i64 x.unit.account), .val (.int .i64 x.unit.client), .val (.int .i64 x.other.account), .val (.int .i64 x.other.client), .val (.int .i64 x.inst), .val (.int .i64 x.asset), .val (.int .i64 x.tag), .val (.int .i64 x.id), .val (.int .i64 x.qty), .val (.int .i64 x.price), .sl 1 (x.numbers.map (fun x => [.val (.int .i64 x)]))]
def ACommand.ok (x : ACommand) : Prop := ((Lit.int .i64 x.op).wf = true) ∧ ((Lit.int .i64 x.by_).wf = true) ∧ ((Lit.int .i64 x.member).wf = true) ∧ (x.unit.ok) ∧ (x.other.ok) ∧ ((Lit.int .i64 x.inst).wf = true) ∧ ((Lit.int .i64 x.asset).wf = true) ∧ ((Lit.int .i64 x.tag).wf = true) ∧ ((Lit.int .i64 x.id).wf = true) ∧ ((Lit.int .i64 x.qty).wf = true) ∧ ((Lit.int .i64 x.price).wf = true) ∧ ((∀ y ∈ x.numbers, (Lit.int .i64 y).wf = true) ∧ x.numbers.length ≤ maxLen)
theorem opn_ACommand : Opn Try.prog 105 ACommand ACommand.r ACommand.ok :=
  Opn.map (Opn.struct Try.underlying105 (by kernel_rfl) (OpnF.cons rfl (k := 1) (by kernel_rfl) (Opn.int (k := .i64) Try.underlying3) (OpnF.cons rfl (k := 1) (by kernel_rfl) (Opn.int (k := .i64) Try.underlying3) (OpnF.cons rfl (k := 1) (by kernel_rfl) (Opn.int (k := .i64) Try.underlying3) (OpnF.cons rfl (k := 2) (by kernel_rfl) opn_AUnit (OpnF.cons rfl (k := 2) (by kernel_rfl) opn_AUnit (OpnF.cons rfl (k := 1) (by kernel_rfl) (Opn.int (k := .i64) Try.underlying3) (OpnF.cons rfl (k := 1) (by kernel_rfl) (Opn.int (k := .i64) Try.underlying3) (OpnF.cons rfl (k := 1) (by kernel_rfl) (Opn.int (k := .i64) Try.underlying3) (OpnF.cons rfl (k := 1) (by kernel_rfl) (Opn.int (k := .i64) Try.underlying3) (OpnF.cons rfl (k := 1) (by kernel_rfl) (Opn.int (k := .i64) Try.underlying2) (OpnF.cons rfl (k := 1) (by kernel_rfl) (Opn.int (k := .i64) Try.underlying2) (OpnF.cons rfl (k := 1) (by kernel_rfl) (Opn.slice Try.underlying42 (k := 1) (by kernel_rfl) (Opn.int (k := .i64) Try.underlying2)) OpnF.nil))))))))))))) (fun p => ⟨p.1, p.2.1, p.2.2.1, p.2.2.2.1, p.2.2.2.2.1, p.2.2.2.2.2.1, p.2.2.2.2.2.2.1, p.2.2.2.2.2.2.2.1, p.2.2.2.2.2.2.2.2.1, p.2.2.2.2.2.2.2.2.2.1, p.2.2.2.2.2.2.2.2.2.2.1, p.2.2.2.2.2.2.2.2.2.2.2.1⟩) ACommand.r ACommand.ok (fun _ => rfl) (fun _ h => ⟨h.1, h.2.1, h.2.2.1, h.2.2.2.1, h.2.2.2.2.1, h.2.2.2.2.2.1, h.2.2.2.2.2.2.1, h.2.2.2.2.2.2.2.1, h.2.2.2.2.2.2.2.2.1, h.2.2.2.2.2.2.2.2.2.1, h.2.2.2.2.2.2.2.2.2.2.1, h.2.2.2.2.2.2.2.2.2.2.2.1⟩)
structure ADebit where
  by_ : AUnit
  for_ : AUnit
  amount : Int
def ADebit.r (x : ADebit) : List R := [.val (.int .i64 x.by_.account), .val (.int .i64 x.by_.client), .val (.int .i64 x.for_.account), .val (.int .i64 x.for_.client), .val (.int .i64 x.amount)]
def ADebit.ok (x : ADebit) : Prop := (x.by_.ok) ∧ (x.for_.ok) ∧ ((Lit.int .i64 x.amount).wf = true)
theorem opn_ADebit : Opn Try.prog 174 ADebit ADebit.r ADebit.ok :=
  Opn.map (Opn.struct Try.underlying174 (by kernel_rfl) (OpnF.cons rfl (k := 2) (by kernel_rfl) opn_AUnit (OpnF.cons rfl (k := 2) (by kernel_rfl) opn_AUnit (OpnF.cons rfl (k := 1) (by kernel_rfl) (Opn.int (k := .i64) Try.underlying2) OpnF.nil)))) (fun p => ⟨p.1, p.2.1, p.2.2.1⟩) ADebit.r ADebit.ok (fun _ => rfl) (fun _ h => ⟨h.1, h.2.1, h.2.2.1⟩)
structure AReturn where
  unit : AUnit
  cash : Int
  lots : List ALot
def AReturn.r (x : AReturn) : List R := [.val (.int .i64 x.unit.account), .val (.int .i64 x.unit.client), .val (.int .i64 x.cash), .sl 3 (x.lots.map ALot.r)]
def AReturn.ok (x : AReturn) : Prop := (x.unit.ok) ∧ ((Lit.int .i64 x.cash).wf = true) ∧ ((∀ y ∈ x.lots, y.ok) ∧ x.lots.length ≤ maxLen)
theorem opn_AReturn : Opn Try.prog 163 AReturn AReturn.r AReturn.ok :=
  Opn.map (Opn.struct Try.underlying163 (by kernel_rfl) (OpnF.cons rfl (k := 2) (by kernel_rfl) opn_AUnit (OpnF.cons rfl (k := 1) (by kernel_rfl) (Opn.int (k := .i64) Try.underlying2) (OpnF.cons rfl (k := 1) (by kernel_rfl) (Opn.slice Try.underlying161 (k := 3) (by kernel_rfl) opn_ALot) OpnF.nil)))) (fun p => ⟨p.1, p.2.1, p.2.2.1⟩) AReturn.r AReturn.ok (fun _ => rfl) (fun _ h => ⟨h.1, h.2.1, h.2.2.1⟩)
structure AReply where
  err : Int
  numbers : List Int
  debits : List ADebit
  returns : List AReturn
def AReply.r (x : AReply) : List R := [.val (.int .i64 x.err), .sl 1 (x.numbers.map (fun x => [.val (.int .i64 x)])), .sl 5 (x.debits.map ADebit.r), .sl 4 (x.returns.map AReturn.r)]
def AReply.ok (x : AReply) : Prop := ((Lit.int .i64 x.err).wf = true) ∧ ((∀ y ∈ x.numbers, (Lit.int .i64 y).wf = true) ∧ x.numbers.length ≤ maxLen) ∧ ((∀ y ∈ x.debits, y.ok) ∧ x.debits.length ≤ maxLen) ∧ ((∀ y ∈ x.returns, y.ok) ∧ x.returns.length ≤ maxLen)
theorem opn_AReply : Opn Try.prog 122 AReply AReply.r AReply.ok :=
  Opn.map (Opn.struct Try.underlying122 (by kernel_rfl) (OpnF.cons rfl (k := 1) (by kernel_rfl) (Opn.int (k := .i64) Try.underlying25) (OpnF.cons rfl (k := 1) (by kernel_rfl) (Opn.slice Try.underlying42 (k := 1) (by kernel_rfl) (Opn.int (k := .i64) Try.underlying2)) (OpnF.cons rfl (k := 1) (by kernel_rfl) (Opn.slice Try.underlying99 (k := 5) (by kernel_rfl) opn_ADebit) (OpnF.cons rfl (k := 1) (by kernel_rfl) (Opn.slice Try.underlying120 (k := 4) (by kernel_rfl) opn_AReturn) OpnF.nil))))) (fun p => ⟨p.1, p.2.1, p.2.2.1, p.2.2.2.1⟩) AReply.r AReply.ok (fun _ => rfl) (fun _ h => ⟨h.1, h.2.1, h.2.2.1, h.2.2.2.1⟩)
structure ADone where
  command : ACommand
  reply : AReply
def ADone.r (x : ADone) : List R := [.val (.int .i64 x.command.op), .val (.int .i64 x.command.by_), .val (.int .i64 x.command.member), .val (.int .i64 x.command.unit.account), .val (.int .i64 x.command.unit.client), .val (.int .i64 x.command.other.account), .val (.int .i64 x.command.other.client), .val (.int .i64 x.command.inst), .val (.int .i64 x.command.asset), .val (.int .i64 x.command.tag), .val (.int .i64 x.command.id), .val (.int .i64 x.command.qty), .val (.int .i64 x.command.price), .sl 1 (x.command.numbers.map (fun x => [.val (.int .i64 x)])), .val (.int .i64 x.reply.err), .sl 1 (x.reply.numbers.map (fun x => [.val (.int .i64 x)])), .sl 5 (x.reply.debits.map ADebit.r), .sl 4 (x.reply.returns.map AReturn.r)]
def ADone.ok (x : ADone) : Prop := (x.command.ok) ∧ (x.reply.ok)
theorem opn_ADone : Opn Try.prog 160 ADone ADone.r ADone.ok :=
  Opn.map (Opn.struct Try.underlying160 (by kernel_rfl) (OpnF.cons rfl (k := 14) (by kernel_rfl) opn_ACommand (OpnF.cons rfl (k := 4) (by kernel_rfl) opn_AReply OpnF.nil))) (fun p => ⟨p.1, p.2.1⟩) ADone.r ADone.ok (fun _ => rfl) (fun _ h => ⟨h.1, h.2.1⟩)
structure AuditTally where
  all : List WideWide
def AuditTally.r (x : AuditTally) : List R := [.sl 2 (x.all.map WideWide.r)]
def AuditTally.ok (x : AuditTally) : Prop := ((∀ y ∈ x.all, y.ok) ∧ x.all.length ≤ maxLen)
theorem opn_AuditTally : Opn Try.prog 179 AuditTally AuditTally.r AuditTally.ok :=
  Opn.map (Opn.struct Try.underlying179 (by kernel_rfl) (OpnF.cons rfl (k := 1) (by kernel_rfl) (Opn.slice Try.underlying177 (k := 2) (by kernel_rfl) opn_WideWide) OpnF.nil)) (fun p => ⟨p.1⟩) AuditTally.r AuditTally.ok (fun _ => rfl) (fun _ h => by simpa [AuditTally.ok] using h.1)
structure Novationref04Reader where
  b : List Int
  err : Int
def Novationref04Reader.r (x : Novationref04Reader) : List R := [.sl 1 (x.b.map (fun x => [.val (.int .u8 x)])), .val (.int .i64 x.err)]
def Novationref04Reader.ok (x : Novationref04Reader) : Prop := ((∀ y ∈ x.b, (Lit.int .u8 y).wf = true) ∧ x.b.length ≤ maxLen) ∧ ((Lit.int .i64 x.err).wf = true)
theorem opn_Novationref04Reader : Opn Try.prog 195 Novationref04Reader Novationref04Reader.r Novationref04Reader.ok :=
  Opn.map (Opn.struct Try.underlying195 (by kernel_rfl) (OpnF.cons rfl (k := 1) (by kernel_rfl) (Opn.slice Try.underlying41 (k := 1) (by kernel_rfl) (Opn.int (k := .u8) Try.underlying5)) (OpnF.cons rfl (k := 1) (by kernel_rfl) (Opn.int (k := .i64) Try.underlying3) OpnF.nil))) (fun p => ⟨p.1, p.2.1⟩) Novationref04Reader.r Novationref04Reader.ok (fun _ => rfl) (fun _ h => ⟨h.1, h.2.1⟩)
structure WideTotal where
  over : Int
  wide : WideWide
def WideTotal.r (x : WideTotal) : List R := [.val (.int .i64 x.over), .val (.int .i64 x.wide.hi), .val (.int .u64 x.wide.lo)]
def WideTotal.ok (x : WideTotal) : Prop := ((Lit.int .i64 x.over).wf = true) ∧ (x.wide.ok)
theorem opn_WideTotal : Opn Try.prog 249 WideTotal WideTotal.r WideTotal.ok :=
  Opn.map (Opn.struct Try.underlying249 (by kernel_rfl) (OpnF.cons rfl (k := 1) (by kernel_rfl) (Opn.int (k := .i64) Try.underlying2) (OpnF.cons rfl (k := 2) (by kernel_rfl) opn_WideWide OpnF.nil))) (fun p => ⟨p.1, p.2.1⟩) WideTotal.r WideTotal.ok (fun _ => rfl) (fun _ h => ⟨h.1, h.2.1⟩)
structure WideSize where
  hi : Int
  lo : Int
def WideSize.r (x : WideSize) : List R := [.val (.int .u64 x.hi), .val (.int .u64 x.lo)]
def WideSize.ok (x : WideSize) : Prop := ((Lit.int .u64 x.hi).wf = true) ∧ ((Lit.int .u64 x.lo).wf = true)
theorem opn_WideSize : Opn Try.prog 255 WideSize WideSize.r WideSize.ok :=
  Opn.map (Opn.struct Try.underlying255 (by kernel_rfl) (OpnF.cons rfl (k := 1) (by kernel_rfl) (Opn.int (k := .u64) Try.underlying92) (OpnF.cons rfl (k := 1) (by kernel_rfl) (Opn.int (k := .u64) Try.underlying92) OpnF.nil))) (fun p => ⟨p.1, p.2.1⟩) WideSize.r WideSize.ok (fun _ => rfl) (fun _ h => ⟨h.1, h.2.1⟩)
theorem elemOk24 : ElemOk Try.prog 24 3 1 8 := elemOk_of Try.underlying24 (by kernel_rfl) (by decide)
theorem elemOk38 : ElemOk Try.prog 38 44 6 72 := elemOk_of Try.underlying38 (by kernel_rfl) (by decide)
def rNovationlaw04Dos (l : List Novationlaw04Do) : R := .sl 6 (l.map Novationlaw04Do.r)
theorem opn_Novationlaw04Dos : Opn Try.prog 38 (List Novationlaw04Do) (fun l => [rNovationlaw04Dos l]) (fun l => (∀ y ∈ l, y.ok) ∧ l.length ≤ maxLen) := Opn.slice Try.underlying38 (by kernel_rfl) opn_Novationlaw04Do
theorem elemOk41 : ElemOk Try.prog 41 5 1 1 := elemOk_of Try.underlying41 (by kernel_rfl) (by decide)
theorem elemOk42 : ElemOk Try.prog 42 2 1 8 := elemOk_of Try.underlying42 (by kernel_rfl) (by decide)
theorem elemOk67 : ElemOk Try.prog 67 23 4 32 := elemOk_of Try.underlying67 (by kernel_rfl) (by decide)
def rAMembers (l : List AMember) : R := .sl 4 (l.map AMember.r)
theorem opn_AMembers : Opn Try.prog 67 (List AMember) (fun l => [rAMembers l]) (fun l => (∀ y ∈ l, y.ok) ∧ l.length ≤ maxLen) := Opn.slice Try.underlying67 (by kernel_rfl) opn_AMember
theorem elemOk68 : ElemOk Try.prog 68 152 5 56 := elemOk_of Try.underlying68 (by kernel_rfl) (by decide)
def rAInsts (l : List AInst) : R := .sl 5 (l.map AInst.r)
theorem opn_AInsts : Opn Try.prog 68 (List AInst) (fun l => [rAInsts l]) (fun l => (∀ y ∈ l, y.ok) ∧ l.length ≤ maxLen) := Opn.slice Try.underlying68 (by kernel_rfl) opn_AInst
theorem elemOk69 : ElemOk Try.prog 69 147 3 24 := elemOk_of Try.underlying69 (by kernel_rfl) (by decide)
def rAAssets (l : List AAsset) : R := .sl 3 (l.map AAsset.r)
theorem opn_AAssets : Opn Try.prog 69 (List AAsset) (fun l => [rAAssets l]) (fun l => (∀ y ∈ l, y.ok) ∧ l.length ≤ maxLen) := Opn.slice Try.underlying69 (by kernel_rfl) opn_AAsset
theorem elemOk70 : ElemOk Try.prog 70 149 4 48 := elemOk_of Try.underlying70 (by kernel_rfl) (by decide)
def rAAccounts (l : List AAccount) : R := .sl 4 (l.map AAccount.r)
theorem opn_AAccounts : Opn Try.prog 70 (List AAccount) (fun l => [rAAccounts l]) (fun l => (∀ y ∈ l, y.ok) ∧ l.length ≤ maxLen) := Opn.slice Try.underlying70 (by kernel_rfl) opn_AAccount
theorem elemOk71 : ElemOk Try.prog 71 188 5 40 := elemOk_of Try.underlying71 (by kernel_rfl) (by decide)
def rAChoices (l : List AChoice) : R := .sl 5 (l.map AChoice.r)
theorem opn_AChoices : Opn Try.prog 71 (List AChoice) (fun l => [rAChoices l]) (fun l => (∀ y ∈ l, y.ok) ∧ l.length ≤ maxLen) := Opn.slice Try.underlying71 (by kernel_rfl) opn_AChoice
theorem elemOk72 : ElemOk Try.prog 72 154 6 48 := elemOk_of Try.underlying72 (by kernel_rfl) (by decide)
def rAGroups (l : List AGroup) : R := .sl 6 (l.map AGroup.r)
theorem opn_AGroups : Opn Try.prog 72 (List AGroup) (fun l => [rAGroups l]) (fun l => (∀ y ∈ l, y.ok) ∧ l.length ≤ maxLen) := Opn.slice Try.underlying72 (by kernel_rfl) opn_AGroup
theorem elemOk73 : ElemOk Try.prog 73 158 11 88 := elemOk_of Try.underlying73 (by kernel_rfl) (by decide)
def rAGives (l : List AGive) : R := .sl 11 (l.map AGive.r)
theorem opn_AGives : Opn Try.prog 73 (List AGive) (fun l => [rAGives l]) (fun l => (∀ y ∈ l, y.ok) ∧ l.length ≤ maxLen) := Opn.slice Try.underlying73 (by kernel_rfl) opn_AGive
theorem elemOk74 : ElemOk Try.prog 74 221 3 40 := elemOk_of Try.underlying74 (by kernel_rfl) (by decide)
def rAPoss (l : List APos) : R := .sl 3 (l.map APos.r)
theorem opn_APoss : Opn Try.prog 74 (List APos) (fun l => [rAPoss l]) (fun l => (∀ y ∈ l, y.ok) ∧ l.length ≤ maxLen) := Opn.slice Try.underlying74 (by kernel_rfl) opn_APos
theorem elemOk75 : ElemOk Try.prog 75 131 3 24 := elemOk_of Try.underlying75 (by kernel_rfl) (by decide)
def rAFlows (l : List AFlow) : R := .sl 3 (l.map AFlow.r)
theorem opn_AFlows : Opn Try.prog 75 (List AFlow) (fun l => [rAFlows l]) (fun l => (∀ y ∈ l, y.ok) ∧ l.length ≤ maxLen) := Opn.slice Try.underlying75 (by kernel_rfl) opn_AFlow
theorem elemOk76 : ElemOk Try.prog 76 224 3 40 := elemOk_of Try.underlying76 (by kernel_rfl) (by decide)
def rAHolds (l : List AHold) : R := .sl 3 (l.map AHold.r)
theorem opn_AHolds : Opn Try.prog 76 (List AHold) (fun l => [rAHolds l]) (fun l => (∀ y ∈ l, y.ok) ∧ l.length ≤ maxLen) := Opn.slice Try.underlying76 (by kernel_rfl) opn_AHold
theorem elemOk79 : ElemOk Try.prog 79 160 18 208 := elemOk_of Try.underlying79 (by kernel_rfl) (by decide)
def rADones (l : List ADone) : R := .sl 18 (l.map ADone.r)
theorem opn_ADones : Opn Try.prog 79 (List ADone) (fun l => [rADones l]) (fun l => (∀ y ∈ l, y.ok) ∧ l.length ≤ maxLen) := Opn.slice Try.underlying79 (by kernel_rfl) opn_ADone
theorem elemOk99 : ElemOk Try.prog 99 174 5 40 := elemOk_of Try.underlying99 (by kernel_rfl) (by decide)
def rADebits (l : List ADebit) : R := .sl 5 (l.map ADebit.r)
theorem opn_ADebits : Opn Try.prog 99 (List ADebit) (fun l => [rADebits l]) (fun l => (∀ y ∈ l, y.ok) ∧ l.length ≤ maxLen) := Opn.slice Try.underlying99 (by kernel_rfl) opn_ADebit
theorem elemOk120 : ElemOk Try.prog 120 163 4 48 := elemOk_of Try.underlying120 (by kernel_rfl) (by decide)
def rAReturns (l : List AReturn) : R := .sl 4 (l.map AReturn.r)
theorem opn_AReturns : Opn Try.prog 120 (List AReturn) (fun l => [rAReturns l]) (fun l => (∀ y ∈ l, y.ok) ∧ l.length ≤ maxLen) := Opn.slice Try.underlying120 (by kernel_rfl) opn_AReturn
theorem elemOk161 : ElemOk Try.prog 161 200 3 24 := elemOk_of Try.underlying161 (by kernel_rfl) (by decide)
def rALots (l : List ALot) : R := .sl 3 (l.map ALot.r)
theorem opn_ALots : Opn Try.prog 161 (List ALot) (fun l => [rALots l]) (fun l => (∀ y ∈ l, y.ok) ∧ l.length ≤ maxLen) := Opn.slice Try.underlying161 (by kernel_rfl) opn_ALot
theorem elemOk177 : ElemOk Try.prog 177 94 2 16 := elemOk_of Try.underlying177 (by kernel_rfl) (by decide)
def rWideWides (l : List WideWide) : R := .sl 2 (l.map WideWide.r)
theorem opn_WideWides : Opn Try.prog 177 (List WideWide) (fun l => [rWideWides l]) (fun l => (∀ y ∈ l, y.ok) ∧ l.length ≤ maxLen) := Opn.slice Try.underlying177 (by kernel_rfl) opn_WideWide
theorem elemOk209 : ElemOk Try.prog 209 85 2 16 := elemOk_of Try.underlying209 (by kernel_rfl) (by decide)
def rAUnits (l : List AUnit) : R := .sl 2 (l.map AUnit.r)
theorem opn_AUnits : Opn Try.prog 209 (List AUnit) (fun l => [rAUnits l]) (fun l => (∀ y ∈ l, y.ok) ∧ l.length ≤ maxLen) := Opn.slice Try.underlying209 (by kernel_rfl) opn_AUnit
theorem elemOk219 : ElemOk Try.prog 219 156 2 16 := elemOk_of Try.underlying219 (by kernel_rfl) (by decide)
def rALegs (l : List ALeg) : R := .sl 2 (l.map ALeg.r)
theorem opn_ALegs : Opn Try.prog 219 (List ALeg) (fun l => [rALegs l]) (fun l => (∀ y ∈ l, y.ok) ∧ l.length ≤ maxLen) := Opn.slice Try.underlying219 (by kernel_rfl) opn_ALeg
theorem elemOk241 : ElemOk Try.prog 241 75 1 24 := elemOk_of Try.underlying241 (by kernel_rfl) (by decide)
end Go.Proofs.Ytnldhkhnfodplaa

namespace Go.Proofs.Ytnldhkhnfodplaa
open Go Go.Vc Go.RowKit
set_option maxRecDepth 100000 in
theorem few16_ct (l : List AChoice)  : Ct Try.prog 91 [.sl 5 (l.map AChoice.r)] (.sl 5 ((l.take 20).map AChoice.r)) := by
  refine ct_startT [] [] Try.func91 rfl (by decide +kernel) rfl ?_
  intro a1 n2 c3 h4 h4l h4c U w H
  simp only [List.length_map] at h4
  apply And.intro <;> intro q5
  · have q5' := of_decide_eq_true q5
    refine ⟨by first | decide | omega, by omega, ?_⟩
    have H := H.pre (a := a1) (n := n2) (c := c3) (els := (l).map AChoice.r) (by repeat (first | exact List.Mem.head _ | apply List.Mem.tail)) (20) (by omega)
    rw [← List.map_take] at H
    intro w' t
    exact H.r t
  · have q5' := of_decide_eq_false q5
    rw [List.take_of_length_le (by omega)]
    intro w' t
    exact H.r t
set_option maxRecDepth 100000 in
theorem few11_ct (l : List ALeg)  : Ct Try.prog 143 [.sl 2 (l.map ALeg.r)] (.sl 2 ((l.take 12).map ALeg.r)) := by
  refine ct_startT [] [] Try.func143 rfl (by decide +kernel) rfl ?_
  intro a1 n2 c3 h4 h4l h4c U w H
  simp only [List.length_map] at h4
  apply And.intro <;> intro q5
  · have q5' := of_decide_eq_true q5
    refine ⟨by first | decide | omega, by omega, ?_⟩
    have H := H.pre (a := a1) (n := n2) (c := c3) (els := (l).map ALeg.r) (by repeat (first | exact List.Mem.head _ | apply List.Mem.tail)) (12) (by omega)
    rw [← List.map_take] at H
    intro w' t
    exact H.r t
  · have q5' := of_decide_eq_false q5
    rw [List.take_of_length_le (by omega)]
    intro w' t
    exact H.r t
set_option maxRecDepth 100000 in
theorem few17_ct (l : List AFlow)  : Ct Try.prog 76 [.sl 3 (l.map AFlow.r)] (.sl 3 ((l.take 20).map AFlow.r)) := by
  refine ct_startT [] [] Try.func76 rfl (by decide +kernel) rfl ?_
  intro a1 n2 c3 h4 h4l h4c U w H
  simp only [List.length_map] at h4
  apply And.intro <;> intro q5
  · have q5' := of_decide_eq_true q5
    refine ⟨by first | decide | omega, by omega, ?_⟩
    have H := H.pre (a := a1) (n := n2) (c := c3) (els := (l).map AFlow.r) (by repeat (first | exact List.Mem.head _ | apply List.Mem.tail)) (20) (by omega)
    rw [← List.map_take] at H
    intro w' t
    exact H.r t
  · have q5' := of_decide_eq_false q5
    rw [List.take_of_length_le (by omega)]
    intro w' t
    exact H.r t
set_option maxRecDepth 100000 in
theorem few18_ct (l : List ALot)  : Ct Try.prog 95 [.sl 3 (l.map ALot.r)] (.sl 3 ((l.take 20).map ALot.r)) := by
  refine ct_startT [] [] Try.func95 rfl (by decide +kernel) rfl ?_
  intro a1 n2 c3 h4 h4l h4c U w H
  simp only [List.length_map] at h4
  apply And.intro <;> intro q5
  · have q5' := of_decide_eq_true q5
    refine ⟨by first | decide | omega, by omega, ?_⟩
    have H := H.pre (a := a1) (n := n2) (c := c3) (els := (l).map ALot.r) (by repeat (first | exact List.Mem.head _ | apply List.Mem.tail)) (20) (by omega)
    rw [← List.map_take] at H
    intro w' t
    exact H.r t
  · have q5' := of_decide_eq_false q5
    rw [List.take_of_length_le (by omega)]
    intro w' t
    exact H.r t
def few19 (l : List APos) : List APos := (l.take 12).map fun p => { p with legs := p.legs.take 12 }
def few26 (l : List AHold) : List AHold := (l.take 10).map fun p => { p with lots := p.lots.take 20 }
theorem take_map_succ {α β : Type} (f : α → β) (l : List α) (i : Nat) (h : i < l.length) : (l.take (i + 1)).map f = (l.take i).map f ++ [f l[i]] := by
  rw [List.take_succ_eq_append_getElem h, List.map_append]; rfl
set_option maxRecDepth 100000 in
theorem few19_ct (l : List APos)  : Ct Try.prog 92 [.sl 3 (l.map APos.r)] (.sl 3 ((few19 l).map APos.r)) := by
  refine ct_startT [] [(5, ofL [(0, true), (1, true), (2, true), (3, true), (4, true), (5, true), (6, true), (7, true), (8, true), (9, true), (10, true), (11, false), (12, true), (13, false), (14, false), (15, true)])] Try.func92 rfl (by decide +kernel) rfl ?_
  intro a1 n2 c3 h4 h4l h4c U w H
  simp only [List.length_map] at h4
  refine ⟨[3, 4, 5, 6, 7, 8, 9, 10, 11, 12, 13, 14, 15, 16, 17, 18, 19, 20, 21, 22, 23, 24, 25, 26, 27, 28, 29],
    { X := (Nat) × (List APos) × (Option Addr) × (Nat), slots := [3, 4], vals := fun (i, xs, ra, rc) => [.slc ra xs.length rc, .int .i64 ((i : Int))], boxes := [], cells := fun (i, xs, ra, rc) => [],
      inv := fun (i, xs, ra, rc) w' => Ctx w U [] [] [Own.row 221 3 ra rc ((xs).map APos.r)] [(.slice a1 n2 c3, .sl 3 ((l).map APos.r))] w' ∧ (i ≤ l.length ∧ i ≤ 12 ∧ xs = few19 (l.take i)), μ := fun (i, xs, ra, rc) => 12 - i }, by kernel_rfl, ?_, ?_, ?_⟩
  · rintro ⟨i, xs, ra, rc⟩; exact ⟨⟨trivial, trivial, trivial⟩, trivial⟩
  · intro w' t
    have H := H.newRow 221 3
    refine ⟨⟨0, [], none, 0⟩, rfl, rfl, H.fin t 0 _, ?_⟩
    exact ⟨by omega, by omega, rfl⟩
  · rintro ⟨i, xs, ra, rc⟩ w' ⟨H, hI⟩
    obtain ⟨hi1, hi2, hxs⟩ := hI
    have hlen : xs.length ≤ 12 := by rw [hxs]; unfold few19; simp; omega
    apply And.intro <;> intro q5
    · have q5' := of_decide_eq_true q5
      apply And.intro <;> intro q6
      · have q6' := of_decide_eq_true q6
        have hin : i < l.length := by omega
        refine ⟨by decide +kernel, oblk ra ++ ([] : List Nat), [], ?_⟩
        refine H.at (a := a1) (n := n2) (c := c3) (els := (l).map APos.r) (i := ((i : Int)).toNat) (cs := (APos.r ((l)[i]'hin))) (by simp [hin]) (Nat.succ_pos _) ?_
        intro ad7 hn8e hn8 a9 n10 c11 h12 h12l h12c H hat13l hat13
        simp only [List.length_map] at h12
        refine ⟨ad7, hn8e, (by first | exact Int.natCast_nonneg _ | omega), (by first | omega | (simp; omega)), ?_⟩
        refine ⟨fun hm => Us.own (Us.ad (Us.ad hn8)) (by simpa [ownBl, Own.row, oblk, Own.obj] using hm), [.int .i64 (((l)[i]'hin).unit.account), .int .i64 (((l)[i]'hin).unit.client)], rfl, List.cons_ne_nil _ _, cellsAt_part hat13 0 2, Us.box (Us.ad (Us.ad hn8)), ?_⟩
        refine ⟨ad7, hn8e, (by first | exact Int.natCast_nonneg _ | omega), (by first | omega | (simp; omega)), ?_⟩
        refine ⟨fun hm => Us.own (Us.ad (Us.ad hn8)) (by simpa [ownBl, Own.row, oblk, Own.obj] using hm), .slice a9 n10 c11, hat13.2.2.1, Us.box (Us.ad (Us.ad hn8)), ?_⟩
        intro w' t
        refine H.cD t (ExtS.refl (oblk ra ++ ([] : List Nat)) [] _ _) (few11_ct (((l)[i]'hin).legs)) ?_
        intro a14 n15 c16 h17 h17l h17c w' H E
        simp only [List.length_map] at h17
        refine ⟨E, ?_⟩
        intro w' t
        refine Ctx.litD elemOk74 H t E (els := [[.val (.int .i64 (((l)[i]'hin).unit.account)), .val (.int .i64 (((l)[i]'hin).unit.client)), .sl 2 (((((l)[i]'hin).legs).take 12).map ALeg.r)]]) [.agg #[.int .i64 (((l)[i]'hin).unit.account), .int .i64 (((l)[i]'hin).unit.client), .slice a14 n15 c16]] rfl (⟨rfl, ⟨⟨rfl, rfl, by repeat (first | exact List.Mem.head _ | apply List.Mem.tail), trivial⟩, rfl⟩, trivial⟩) rfl (by decide) (by decide) ?_
        intro lb18 w' H E
        refine ⟨E, ?_⟩
        intro w' t
        refine H.apD (a2 := (some ⟨lb18, 0, none⟩)) (m := 1) (c2 := 1) (news := ([(APos.mk ((l)[i]'hin).unit ((((l)[i]'hin).legs).take 12))]).map APos.r) t E (by simp [oblk]) elemOk74 (by simp) (by first | (rw [maxLen_eq]; simp; omega) | (rw [maxLen_eq]; simp at *; omega)) (by first | (simp; omega) | (simp at *; omega)) ?_ (hm := by repeat (first | exact List.Mem.head _ | apply List.Mem.tail))
        intro a19 c20 w' H E hl21
        refine ⟨E, ?_⟩
        have H := H.rowEq (((xs ++ [(APos.mk ((l)[i]'hin).unit ((((l)[i]'hin).legs).take 12))])).map APos.r) (by simp)
        intro w' t
        refine ⟨⟨i + 1, (xs ++ [(APos.mk ((l)[i]'hin).unit ((((l)[i]'hin).legs).take 12))]), a19, c20⟩, (by first | rfl | exact xInc (by rw [maxLen_eq]; omega) | simp), (by first | rfl | exact xInc (by rw [maxLen_eq]; omega) | simp), ⟨H.fin t 0 _, ?_⟩, ?_⟩
        · refine ⟨by omega, by omega, ?_⟩
          rw [hxs]; unfold few19; rw [List.take_take, List.take_take, Nat.min_eq_right (by omega), Nat.min_eq_right (by omega), take_map_succ _ _ _ hin]
        · show 12 - (i + 1) < 12 - i; omega
      · have q6' := of_decide_eq_false q6
        have he : few19 (l.take i) = few19 l := by unfold few19; rw [List.take_take]; congr 2; omega
        rw [he] at hxs; subst hxs
        have H := Ctx.view (A := []) H
        have hv : ∀ l : List APos, (l.map APos.r).length = l.length := fun l => by simp
        rw [hv] at H
        intro w' t
        exact H.r t
    · have q5' := of_decide_eq_false q5
      rw [List.take_of_length_le (by omega)] at hxs; subst hxs
      have H := Ctx.view (A := []) H
      have hv : ∀ l : List APos, (l.map APos.r).length = l.length := fun l => by simp
      rw [hv] at H
      intro w' t
      exact H.r t
set_option maxRecDepth 100000 in
theorem few26_ct (l : List AHold)  : Ct Try.prog 93 [.sl 3 (l.map AHold.r)] (.sl 3 ((few26 l).map AHold.r)) := by
  refine ct_startT [] [(5, ofL [(0, true), (1, true), (2, true), (3, true), (4, true), (5, true), (6, true), (7, true), (8, true), (9, true), (10, true), (11, false), (12, true), (13, false), (14, false), (15, true)])] Try.func93 rfl (by decide +kernel) rfl ?_
  intro a1 n2 c3 h4 h4l h4c U w H
  simp only [List.length_map] at h4
  refine ⟨[3, 4, 5, 6, 7, 8, 9, 10, 11, 12, 13, 14, 15, 16, 17, 18, 19, 20, 21, 22, 23, 24, 25, 26, 27, 28, 29],
    { X := (Nat) × (List AHold) × (Option Addr) × (Nat), slots := [3, 4], vals := fun (i, xs, ra, rc) => [.slc ra xs.length rc, .int .i64 ((i : Int))], boxes := [], cells := fun (i, xs, ra, rc) => [],
      inv := fun (i, xs, ra, rc) w' => Ctx w U [] [] [Own.row 224 3 ra rc ((xs).map AHold.r)] [(.slice a1 n2 c3, .sl 3 ((l).map AHold.r))] w' ∧ (i ≤ l.length ∧ i ≤ 10 ∧ xs = few26 (l.take i)), μ := fun (i, xs, ra, rc) => 10 - i }, by kernel_rfl, ?_, ?_, ?_⟩
  · rintro ⟨i, xs, ra, rc⟩; exact ⟨⟨trivial, trivial, trivial⟩, trivial⟩
  · intro w' t
    have H := H.newRow 224 3
    refine ⟨⟨0, [], none, 0⟩, rfl, rfl, H.fin t 0 _, ?_⟩
    exact ⟨by omega, by omega, rfl⟩
  · rintro ⟨i, xs, ra, rc⟩ w' ⟨H, hI⟩
    obtain ⟨hi1, hi2, hxs⟩ := hI
    have hlen : xs.length ≤ 12 := by rw [hxs]; unfold few26; simp; omega
    apply And.intro <;> intro q5
    · have q5' := of_decide_eq_true q5
      apply And.intro <;> intro q6
      · have q6' := of_decide_eq_true q6
        have hin : i < l.length := by omega
        refine ⟨by decide +kernel, oblk ra ++ ([] : List Nat), [], ?_⟩
        refine H.at (a := a1) (n := n2) (c := c3) (els := (l).map AHold.r) (i := ((i : Int)).toNat) (cs := (AHold.r ((l)[i]'hin))) (by simp [hin]) (Nat.succ_pos _) ?_
        intro ad7 hn8e hn8 a9 n10 c11 h12 h12l h12c H hat13l hat13
        simp only [List.length_map] at h12
        refine ⟨ad7, hn8e, (by first | exact Int.natCast_nonneg _ | omega), (by first | omega | (simp; omega)), ?_⟩
        refine ⟨fun hm => Us.own (Us.ad (Us.ad hn8)) (by simpa [ownBl, Own.row, oblk, Own.obj] using hm), [.int .i64 (((l)[i]'hin).unit.account), .int .i64 (((l)[i]'hin).unit.client)], rfl, List.cons_ne_nil _ _, cellsAt_part hat13 0 2, Us.box (Us.ad (Us.ad hn8)), ?_⟩
        refine ⟨ad7, hn8e, (by first | exact Int.natCast_nonneg _ | omega), (by first | omega | (simp; omega)), ?_⟩
        refine ⟨fun hm => Us.own (Us.ad (Us.ad hn8)) (by simpa [ownBl, Own.row, oblk, Own.obj] using hm), .slice a9 n10 c11, hat13.2.2.1, Us.box (Us.ad (Us.ad hn8)), ?_⟩
        intro w' t
        refine H.cD t (ExtS.refl (oblk ra ++ ([] : List Nat)) [] _ _) (few18_ct (((l)[i]'hin).lots)) ?_
        intro a14 n15 c16 h17 h17l h17c w' H E
        simp only [List.length_map] at h17
        refine ⟨E, ?_⟩
        intro w' t
        refine Ctx.litD elemOk76 H t E (els := [[.val (.int .i64 (((l)[i]'hin).unit.account)), .val (.int .i64 (((l)[i]'hin).unit.client)), .sl 3 (((((l)[i]'hin).lots).take 20).map ALot.r)]]) [.agg #[.int .i64 (((l)[i]'hin).unit.account), .int .i64 (((l)[i]'hin).unit.client), .slice a14 n15 c16]] rfl (⟨rfl, ⟨⟨rfl, rfl, by repeat (first | exact List.Mem.head _ | apply List.Mem.tail), trivial⟩, rfl⟩, trivial⟩) rfl (by decide) (by decide) ?_
        intro lb18 w' H E
        refine ⟨E, ?_⟩
        intro w' t
        refine H.apD (a2 := (some ⟨lb18, 0, none⟩)) (m := 1) (c2 := 1) (news := ([(AHold.mk ((l)[i]'hin).unit ((((l)[i]'hin).lots).take 20))]).map AHold.r) t E (by simp [oblk]) elemOk76 (by simp) (by first | (rw [maxLen_eq]; simp; omega) | (rw [maxLen_eq]; simp at *; omega)) (by first | (simp; omega) | (simp at *; omega)) ?_ (hm := by repeat (first | exact List.Mem.head _ | apply List.Mem.tail))
        intro a19 c20 w' H E hl21
        refine ⟨E, ?_⟩
        have H := H.rowEq (((xs ++ [(AHold.mk ((l)[i]'hin).unit ((((l)[i]'hin).lots).take 20))])).map AHold.r) (by simp)
        intro w' t
        refine ⟨⟨i + 1, (xs ++ [(AHold.mk ((l)[i]'hin).unit ((((l)[i]'hin).lots).take 20))]), a19, c20⟩, (by first | rfl | exact xInc (by rw [maxLen_eq]; omega) | simp), (by first | rfl | exact xInc (by rw [maxLen_eq]; omega) | simp), ⟨H.fin t 0 _, ?_⟩, ?_⟩
        · refine ⟨by omega, by omega, ?_⟩
          rw [hxs]; unfold few26; rw [List.take_take, List.take_take, Nat.min_eq_right (by omega), Nat.min_eq_right (by omega), take_map_succ _ _ _ hin]
        · show 10 - (i + 1) < 10 - i; omega
      · have q6' := of_decide_eq_false q6
        have he : few26 (l.take i) = few26 l := by unfold few26; rw [List.take_take]; congr 2; omega
        rw [he] at hxs; subst hxs
        have H := Ctx.view (A := []) H
        have hv : ∀ l : List AHold, (l.map AHold.r).length = l.length := fun l => by simp
        rw [hv] at H
        intro w' t
        exact H.r t
    · have q5' := of_decide_eq_false q5
      rw [List.take_of_length_le (by omega)] at hxs; subst hxs
      have H := Ctx.view (A := []) H
      have hv : ∀ l : List AHold, (l.map AHold.r).length = l.length := fun l => by simp
      rw [hv] at H
      intro w' t
      exact H.r t
end Go.Proofs.Ytnldhkhnfodplaa

namespace Go.Proofs.Ytnldhkhnfodplaa
open Go Go.Vc Go.RowKit
def short25 (a : AAccount) : AAccount := { a with clients := a.clients.take 20 }
def short34 (c : ACommand) : ACommand := { c with numbers := c.numbers.take 40 }
set_option maxRecDepth 100000 in
theorem short25_ct (a : AAccount)  : Ct Try.prog 94 [.agg (AAccount.r a)] (.agg (AAccount.r (short25 a))) := by
  refine ct_startT [] [] Try.func94 rfl (by decide +kernel) rfl ?_
  intro a1 n2 c3 h4 h4l h4c U w H
  simp only [List.length_map] at h4
  intro b5 hb5
  have H := H.box hb5
  intro b6 hb6
  have H := H.box hb6
  apply And.intro <;> intro q7
  · have q7' := of_decide_eq_true q7
    refine ⟨by first | decide | omega, by omega, ?_⟩
    have H := H.pre (a := a1) (n := n2) (c := c3) (els := (a.clients).map (fun x => [.val (.int .i64 x)])) (by repeat (first | exact List.Mem.head _ | apply List.Mem.tail)) (20) (by omega)
    rw [← List.map_take] at H
    first | rw [he] | skip
    intro w' t
    exact H.r t
  · have q7' := of_decide_eq_false q7
    have he : short25 a = a := by unfold short25; rw [List.take_of_length_le (by omega)]
    first | rw [he] | skip
    intro w' t
    exact H.r t
set_option maxRecDepth 100000 in
theorem short34_ct (c : ACommand)  : Ct Try.prog 60 [.agg (ACommand.r c)] (.agg (ACommand.r (short34 c))) := by
  refine ct_startT [] [] Try.func60 rfl (by decide +kernel) rfl ?_
  intro a1 n2 c3 h4 h4l h4c U w H
  simp only [List.length_map] at h4
  intro b5 hb5
  have H := H.box hb5
  intro b6 hb6
  have H := H.box hb6
  apply And.intro <;> intro q7
  · have q7' := of_decide_eq_true q7
    refine ⟨by first | decide | omega, by omega, ?_⟩
    have H := H.pre (a := a1) (n := n2) (c := c3) (els := (c.numbers).map (fun x => [.val (.int .i64 x)])) (by repeat (first | exact List.Mem.head _ | apply List.Mem.tail)) (40) (by omega)
    rw [← List.map_take] at H
    first | rw [he] | skip
    intro w' t
    exact H.r t
  · have q7' := of_decide_eq_false q7
    have he : short34 c = c := by unfold short34; rw [List.take_of_length_le (by omega)]
    first | rw [he] | skip
    intro w' t
    exact H.r t
end Go.Proofs.Ytnldhkhnfodplaa

namespace Go.Proofs.Ytnldhkhnfodplaa
open Go Go.Vc Go.RowKit
def short39 (y : AReturn) : AReturn := { y with lots := y.lots.take 20 }
def few39one (x : ADone) : ADone := ⟨short34 x.command, x.reply.err, x.reply.numbers.take 20, x.reply.debits.take 20, (x.reply.returns.take 10).map short39⟩
def few39 (l : List ADone) : List ADone := (l.take 30).map few39one
set_option maxRecDepth 100000 in
theorem few39_ct (l : List ADone)  : Ct Try.prog 43 [.sl 18 (l.map ADone.r)] (.sl 18 ((few39 l).map ADone.r)) := by
  refine ct_startT [] [] Try.func43 rfl (by decide +kernel) rfl ?_
  intro a1 n2 c3 h4 h4l h4c U w H
  simp only [List.length_map] at h4
  refine ⟨[3, 4, 5, 6, 7, 8, 9, 10, 11, 12, 13, 14, 15, 16, 17, 18, 19, 20, 21, 22, 23, 24, 25, 26, 27, 28, 29, 30, 31, 32, 33, 34, 35, 36, 37, 38, 39, 40, 41, 42, 43, 44, 45, 46, 47, 48, 49, 50, 51, 52, 53, 54, 55, 56, 57, 58, 59, 60, 61, 62, 63, 64, 65, 66, 67, 68, 69, 70, 71, 72, 73, 74, 75, 76, 77, 78, 79, 80, 81],
    { X := (Nat) × (List ADone) × (Option Addr) × (Nat), slots := [3, 4], vals := fun (i, xs, ra, rc) => [.slc ra xs.length rc, .int .i64 ((i : Int))], boxes := [], cells := fun (i, xs, ra, rc) => [],
      inv := fun (i, xs, ra, rc) w' => Ctx w U [] [] [Own.row 160 18 ra rc ((xs).map ADone.r)] [(.slice a1 n2 c3, .sl 18 ((l).map ADone.r))] w' ∧ (i ≤ l.length ∧ i ≤ 30 ∧ xs = (l.take i).map few39one), μ := fun (i, xs, ra, rc) => 30 - i }, by kernel_rfl, ?_, ?_, ?_⟩
  · rintro ⟨i, xs, ra, rc⟩; exact ⟨⟨trivial, trivial, trivial⟩, trivial⟩
  · intro w' t
    have H := H.newRow 160 18
    refine ⟨⟨0, [], none, 0⟩, rfl, rfl, H.fin t 0 _, ?_⟩
    exact ⟨by omega, by omega, by simp⟩
  · rintro ⟨i, xs, ra, rc⟩ w' ⟨H, hI⟩
    obtain ⟨hi1, hi2, hxs⟩ := hI
    have hlen : xs.length ≤ 30 := by rw [hxs]; simp; omega
    apply And.intro <;> intro q5
    · have q5' := of_decide_eq_true q5
      apply And.intro <;> intro q6
      · have q6' := of_decide_eq_true q6
        have hin : i < l.length := by omega
        refine H.at (a := a1) (n := n2) (c := c3) (els := (l).map ADone.r) (i := ((i : Int)).toNat) (cs := (ADone.r ((l)[i]'hin))) (by simp [hin]) (Nat.succ_pos _) ?_
        intro ad7 hn8e hn8 a9 n10 c11 h12 h12l h12c a13 n14 c15 h16 h16l h16c a17 n18 c19 h20 h20l h20c a21 n22 c23 h24 h24l h24c H hat25l hat25
        simp only [List.length_map] at h12
        simp only [List.length_map] at h16
        simp only [List.length_map] at h20
        simp only [List.length_map] at h24
        refine ⟨ad7, hn8e, (by first | exact Int.natCast_nonneg _ | omega), (by first | omega | (simp; omega)), ?_⟩
        refine ⟨[.int .i64 (((l)[i]'hin).command.op), .int .i64 (((l)[i]'hin).command.by_), .int .i64 (((l)[i]'hin).command.member), .int .i64 (((l)[i]'hin).command.unit.account), .int .i64 (((l)[i]'hin).command.unit.client), .int .i64 (((l)[i]'hin).command.other.account), .int .i64 (((l)[i]'hin).command.other.client), .int .i64 (((l)[i]'hin).command.inst), .int .i64 (((l)[i]'hin).command.asset), .int .i64 (((l)[i]'hin).command.tag), .int .i64 (((l)[i]'hin).command.id), .int .i64 (((l)[i]'hin).command.qty), .int .i64 (((l)[i]'hin).command.price), .slice a9 n10 c11, .int .i64 (((l)[i]'hin).reply.err), .slice a13 n14 c15, .slice a17 n18 c19, .slice a21 n22 c23], rfl, List.cons_ne_nil _ _, hat25, Us.box (Us.ad hn8), ?_⟩
        intro b26 hb26
        have H := H.box hb26
        intro w' t
        refine H.c t (short34_ct (((l)[i]'hin).command)) ?_
        intro a27 n28 c29 h30 h30l h30c w' H
        simp only [List.length_map] at h30
        apply And.intro <;> intro q31
        · have q31' := of_decide_eq_true q31
          refine ⟨by first | decide | omega, by omega, ?_⟩
          have H := H.pre (a := a13) (n := n14) (c := c15) (els := (((l)[i]'hin).reply.numbers).map (fun x => [.val (.int .i64 x)])) (by repeat (first | exact List.Mem.head _ | apply List.Mem.tail)) (20) (by omega)
          rw [← List.map_take] at H
          apply And.intro <;> intro q32
          · have q32' := of_decide_eq_true q32
            refine ⟨by first | decide | omega, by omega, ?_⟩
            have H := H.pre (a := a17) (n := n18) (c := c19) (els := (((l)[i]'hin).reply.debits).map ADebit.r) (by repeat (first | exact List.Mem.head _ | apply List.Mem.tail)) (20) (by omega)
            rw [← List.map_take] at H
            refine ⟨[6, 7, 8, 49, 50, 51, 52, 53, 54, 55, 56, 57, 58, 59, 60, 61, 62, 63, 64, 65, 66, 67, 68, 69, 70, 71, 72, 73, 74],
              { X := (Nat) × (List AReturn) × (Option Addr) × (Nat), slots := [6, 7], vals := fun (j, ys, sa, sc) => [.slc sa ys.length sc, .int .i64 ((j : Int))], boxes := [], cells := fun (j, ys, sa, sc) => [],
                inv := fun (j, ys, sa, sc) w' => Ctx w U [] [b26] [Own.row 163 4 sa sc ((ys).map AReturn.r), Own.row 160 18 ra rc ((xs).map ADone.r)] [(.slice a1 n2 c3, .sl 18 ((l).map ADone.r)), (.slice a9 n10 c11, .sl 1 ((((l)[i]'hin).command.numbers).map (fun x => [.val (.int .i64 x)]))), (.slice a13 n14 c15, .sl 1 ((((l)[i]'hin).reply.numbers).map (fun x => [.val (.int .i64 x)]))), (.slice a17 n18 c19, .sl 5 ((((l)[i]'hin).reply.debits).map ADebit.r)), (.slice a21 n22 c23, .sl 4 ((((l)[i]'hin).reply.returns).map AReturn.r)), (.slice a27 n28 c29, .sl 1 (((short34 (((l)[i]'hin).command)).numbers).map (fun x => [.val (.int .i64 x)]))), (.slice a13 20 c15, .sl 1 (((((l)[i]'hin).reply.numbers).take (20)).map (fun x => [.val (.int .i64 x)]))), (.slice a17 20 c19, .sl 5 (((((l)[i]'hin).reply.debits).take (20)).map ADebit.r))] w' ∧ (j ≤ ((l)[i]'hin).reply.returns.length ∧ j ≤ 10 ∧ ys = ((((l)[i]'hin).reply.returns).take j).map short39), μ := fun (j, ys, sa, sc) => 10 - j }, by kernel_rfl, ?_, ?_, ?_⟩
            · rintro ⟨j, ys, sa, sc⟩; exact ⟨⟨trivial, trivial, trivial⟩, trivial⟩
            · intro w' t
              have H := H.newRow 163 4
              refine ⟨⟨0, [], none, 0⟩, rfl, rfl, rfl, H.fin t 1 _, ?_⟩
              exact ⟨by omega, by omega, by simp⟩
            · rintro ⟨j, ys, sa, sc⟩ w' ⟨H, hI⟩
              obtain ⟨hj1, hj2, hys⟩ := hI
              have hlen2 : ys.length ≤ 10 := by rw [hys]; simp; omega
              apply And.intro <;> intro q33
              · have q33' := of_decide_eq_true q33
                apply And.intro <;> intro q34
                · have q34' := of_decide_eq_true q34
                  have hjn : j < ((l)[i]'hin).reply.returns.length := by omega
                  refine H.at (a := a21) (n := n22) (c := c23) (els := (((l)[i]'hin).reply.returns).map AReturn.r) (i := ((j : Int)).toNat) (cs := (AReturn.r ((((l)[i]'hin).reply.returns)[j]'hjn))) (by simp [hjn]) (Nat.succ_pos _) ?_
                  intro ad35 hn36e hn36 a37 n38 c39 h40 h40l h40c H hat41l hat41
                  simp only [List.length_map] at h40
                  refine ⟨ad35, hn36e, (by first | exact Int.natCast_nonneg _ | omega), (by first | omega | (simp; omega)), ?_⟩
                  refine ⟨[.int .i64 (((((l)[i]'hin).reply.returns)[j]'hjn).unit.account), .int .i64 (((((l)[i]'hin).reply.returns)[j]'hjn).unit.client), .int .i64 (((((l)[i]'hin).reply.returns)[j]'hjn).cash), .slice a37 n38 c39], rfl, List.cons_ne_nil _ _, hat41, Us.box (Us.ad hn36), ?_⟩
                  intro b42 hb42
                  have H := H.box hb42
                  intro w' t
                  refine H.c t (few18_ct (((((l)[i]'hin).reply.returns)[j]'hjn).lots)) ?_
                  intro a43 n44 c45 h46 h46l h46c w' H
                  simp only [List.length_map] at h46
                  intro w' t
                  refine Ctx.lit elemOk120 H t (els := [[.val (.int .i64 (((((l)[i]'hin).reply.returns)[j]'hjn).unit.account)), .val (.int .i64 (((((l)[i]'hin).reply.returns)[j]'hjn).unit.client)), .val (.int .i64 (((((l)[i]'hin).reply.returns)[j]'hjn).cash)), .sl 3 ((((((((l)[i]'hin).reply.returns)[j]'hjn).lots).take 20)).map ALot.r)]]) [.agg #[.int .i64 (((((l)[i]'hin).reply.returns)[j]'hjn).unit.account), .int .i64 (((((l)[i]'hin).reply.returns)[j]'hjn).unit.client), .int .i64 (((((l)[i]'hin).reply.returns)[j]'hjn).cash), .slice a43 n44 c45]] rfl (⟨rfl, ⟨⟨rfl, rfl, rfl, by repeat (first | exact List.Mem.head _ | apply List.Mem.tail), trivial⟩, rfl⟩, trivial⟩) rfl (by decide) (by decide) ?_
                  intro lb47 w' H
                  intro w' t
                  refine H.ap (a2 := (some ⟨lb47, 0, none⟩)) (m := 1) (c2 := 1) (news := ([(AReturn.mk (((((l)[i]'hin).reply.returns)[j]'hjn).unit) (((((l)[i]'hin).reply.returns)[j]'hjn).cash) (((((((l)[i]'hin).reply.returns)[j]'hjn).lots).take 20)))]).map AReturn.r) t elemOk120 (by simp) (by first | (rw [maxLen_eq]; simp; omega) | (rw [maxLen_eq]; simp at *; omega)) (by first | (simp; omega) | (simp at *; omega)) ?_ (hm := by repeat (first | exact List.Mem.head _ | apply List.Mem.tail))
                  intro a48 c49 w' H hl50
                  have H := H.rowEq (((ys ++ [(AReturn.mk (((((l)[i]'hin).reply.returns)[j]'hjn).unit) (((((l)[i]'hin).reply.returns)[j]'hjn).cash) (((((((l)[i]'hin).reply.returns)[j]'hjn).lots).take 20)))])).map AReturn.r) (by simp)
                  intro w' t
                  refine ⟨⟨j + 1, (ys ++ [(AReturn.mk (((((l)[i]'hin).reply.returns)[j]'hjn).unit) (((((l)[i]'hin).reply.returns)[j]'hjn).cash) (((((((l)[i]'hin).reply.returns)[j]'hjn).lots).take 20)))]), a48, c49⟩, (by first | rfl | exact xInc (by rw [maxLen_eq]; omega) | simp), (by first | rfl | exact xInc (by rw [maxLen_eq]; omega) | simp), rfl, ⟨H.fin t 1 _, ?_⟩, ?_⟩
                  · refine ⟨by omega, by omega, ?_⟩
                    rw [hys, take_map_succ _ _ _ hjn]; rfl
                  · show 10 - (j + 1) < 10 - j; omega
                · have q34' := of_decide_eq_false q34
                  have hex : ys = ((((l)[i]'hin).reply.returns).take 10).map short39 := by rw [hys]; congr 2; omega
                  have H := Ctx.view (A := []) H
                  have hv : ∀ l : List AReturn, (l.map AReturn.r).length = l.length := fun l => by simp
                  rw [hv] at H
                  intro w' t
                  refine Ctx.lit elemOk79 H t (els := [[.val (.int .i64 ((short34 (((l)[i]'hin).command)).op)), .val (.int .i64 ((short34 (((l)[i]'hin).command)).by_)), .val (.int .i64 ((short34 (((l)[i]'hin).command)).member)), .val (.int .i64 ((short34 (((l)[i]'hin).command)).unit.account)), .val (.int .i64 ((short34 (((l)[i]'hin).command)).unit.client)), .val (.int .i64 ((short34 (((l)[i]'hin).command)).other.account)), .val (.int .i64 ((short34 (((l)[i]'hin).command)).other.client)), .val (.int .i64 ((short34 (((l)[i]'hin).command)).inst)), .val (.int .i64 ((short34 (((l)[i]'hin).command)).asset)), .val (.int .i64 ((short34 (((l)[i]'hin).command)).tag)), .val (.int .i64 ((short34 (((l)[i]'hin).command)).id)), .val (.int .i64 ((short34 (((l)[i]'hin).command)).qty)), .val (.int .i64 ((short34 (((l)[i]'hin).command)).price)), .sl 1 (((short34 (((l)[i]'hin).command)).numbers).map (fun x => [.val (.int .i64 x)])), .val (.int .i64 (((l)[i]'hin).reply.err)), .sl 1 (((((l)[i]'hin).reply.numbers).take (20)).map (fun x => [.val (.int .i64 x)])), .sl 5 (((((l)[i]'hin).reply.debits).take (20)).map ADebit.r), .sl 4 ((ys).map AReturn.r)]]) [.agg #[.int .i64 ((short34 (((l)[i]'hin).command)).op), .int .i64 ((short34 (((l)[i]'hin).command)).by_), .int .i64 ((short34 (((l)[i]'hin).command)).member), .int .i64 ((short34 (((l)[i]'hin).command)).unit.account), .int .i64 ((short34 (((l)[i]'hin).command)).unit.client), .int .i64 ((short34 (((l)[i]'hin).command)).other.account), .int .i64 ((short34 (((l)[i]'hin).command)).other.client), .int .i64 ((short34 (((l)[i]'hin).command)).inst), .int .i64 ((short34 (((l)[i]'hin).command)).asset), .int .i64 ((short34 (((l)[i]'hin).command)).tag), .int .i64 ((short34 (((l)[i]'hin).command)).id), .int .i64 ((short34 (((l)[i]'hin).command)).qty), .int .i64 ((short34 (((l)[i]'hin).command)).price), .slice a27 n28 c29, .int .i64 (((l)[i]'hin).reply.err), .slice a13 20 c15, .slice a17 20 c19, .slice sa ys.length sc]] rfl (⟨rfl, ⟨⟨rfl, rfl, rfl, rfl, rfl, rfl, rfl, rfl, rfl, rfl, rfl, rfl, rfl, by repeat (first | exact List.Mem.head _ | apply List.Mem.tail), rfl, by repeat (first | exact List.Mem.head _ | apply List.Mem.tail), by repeat (first | exact List.Mem.head _ | apply List.Mem.tail), by repeat (first | exact List.Mem.head _ | apply List.Mem.tail), trivial⟩, rfl⟩, trivial⟩) rfl (by decide) (by decide) ?_
                  intro lb51 w' H
                  intro w' t
                  refine H.ap (a2 := (some ⟨lb51, 0, none⟩)) (m := 1) (c2 := 1) (news := ([(ADone.mk ((short34 (((l)[i]'hin).command))) (AReply.mk (((l)[i]'hin).reply.err) ((((l)[i]'hin).reply.numbers).take (20)) ((((l)[i]'hin).reply.debits).take (20)) (ys)))]).map ADone.r) t elemOk79 (by simp) (by first | (rw [maxLen_eq]; simp; omega) | (rw [maxLen_eq]; simp at *; omega)) (by first | (simp; omega) | (simp at *; omega)) ?_ (hm := by repeat (first | exact List.Mem.head _ | apply List.Mem.tail))
                  intro a52 c53 w' H hl54
                  have H := H.rowEq (((xs ++ [(ADone.mk ((short34 (((l)[i]'hin).command))) (AReply.mk (((l)[i]'hin).reply.err) ((((l)[i]'hin).reply.numbers).take (20)) ((((l)[i]'hin).reply.debits).take (20)) (ys)))])).map ADone.r) (by simp)
                  intro w' t
                  refine ⟨⟨i + 1, (xs ++ [(ADone.mk ((short34 (((l)[i]'hin).command))) (AReply.mk (((l)[i]'hin).reply.err) ((((l)[i]'hin).reply.numbers).take (20)) ((((l)[i]'hin).reply.debits).take (20)) (ys)))]), a52, c53⟩, (by first | rfl | exact xInc (by rw [maxLen_eq]; omega) | simp), (by first | rfl | exact xInc (by rw [maxLen_eq]; omega) | simp), ⟨H.fin t 0 _, ?_⟩, ?_⟩
                  · refine ⟨by omega, by omega, ?_⟩
                    rw [hxs, take_map_succ _ _ _ hin, few39one, ← hex]
                    first | done | rw [he1, he2] | rw [he1] | rw [he2]
                  · show 30 - (i + 1) < 30 - i; omega
              · have q33' := of_decide_eq_false q33
                have hex : ys = ((((l)[i]'hin).reply.returns).take 10).map short39 := by rw [hys, List.take_of_length_le (by omega), List.take_of_length_le (by omega)]
                have H := Ctx.view (A := []) H
                have hv : ∀ l : List AReturn, (l.map AReturn.r).length = l.length := fun l => by simp
                rw [hv] at H
                intro w' t
                refine Ctx.lit elemOk79 H t (els := [[.val (.int .i64 ((short34 (((l)[i]'hin).command)).op)), .val (.int .i64 ((short34 (((l)[i]'hin).command)).by_)), .val (.int .i64 ((short34 (((l)[i]'hin).command)).member)), .val (.int .i64 ((short34 (((l)[i]'hin).command)).unit.account)), .val (.int .i64 ((short34 (((l)[i]'hin).command)).unit.client)), .val (.int .i64 ((short34 (((l)[i]'hin).command)).other.account)), .val (.int .i64 ((short34 (((l)[i]'hin).command)).other.client)), .val (.int .i64 ((short34 (((l)[i]'hin).command)).inst)), .val (.int .i64 ((short34 (((l)[i]'hin).command)).asset)), .val (.int .i64 ((short34 (((l)[i]'hin).command)).tag)), .val (.int .i64 ((short34 (((l)[i]'hin).command)).id)), .val (.int .i64 ((short34 (((l)[i]'hin).command)).qty)), .val (.int .i64 ((short34 (((l)[i]'hin).command)).price)), .sl 1 (((short34 (((l)[i]'hin).command)).numbers).map (fun x => [.val (.int .i64 x)])), .val (.int .i64 (((l)[i]'hin).reply.err)), .sl 1 (((((l)[i]'hin).reply.numbers).take (20)).map (fun x => [.val (.int .i64 x)])), .sl 5 (((((l)[i]'hin).reply.debits).take (20)).map ADebit.r), .sl 4 ((ys).map AReturn.r)]]) [.agg #[.int .i64 ((short34 (((l)[i]'hin).command)).op), .int .i64 ((short34 (((l)[i]'hin).command)).by_), .int .i64 ((short34 (((l)[i]'hin).command)).member), .int .i64 ((short34 (((l)[i]'hin).command)).unit.account), .int .i64 ((short34 (((l)[i]'hin).command)).unit.client), .int .i64 ((short34 (((l)[i]'hin).command)).other.account), .int .i64 ((short34 (((l)[i]'hin).command)).other.client), .int .i64 ((short34 (((l)[i]'hin).command)).inst), .int .i64 ((short34 (((l)[i]'hin).command)).asset), .int .i64 ((short34 (((l)[i]'hin).command)).tag), .int .i64 ((short34 (((l)[i]'hin).command)).id), .int .i64 ((short34 (((l)[i]'hin).command)).qty), .int .i64 ((short34 (((l)[i]'hin).command)).price), .slice a27 n28 c29, .int .i64 (((l)[i]'hin).reply.err), .slice a13 20 c15, .slice a17 20 c19, .slice sa ys.length sc]] rfl (⟨rfl, ⟨⟨rfl, rfl, rfl, rfl, rfl, rfl, rfl, rfl, rfl, rfl, rfl, rfl, rfl, by repeat (first | exact List.Mem.head _ | apply List.Mem.tail), rfl, by repeat (first | exact List.Mem.head _ | apply List.Mem.tail), by repeat (first | exact List.Mem.head _ | apply List.Mem.tail), by repeat (first | exact List.Mem.head _ | apply List.Mem.tail), trivial⟩, rfl⟩, trivial⟩) rfl (by decide) (by decide) ?_
                intro lb55 w' H
                intro w' t
                refine H.ap (a2 := (some ⟨lb55, 0, none⟩)) (m := 1) (c2 := 1) (news := ([(ADone.mk ((short34 (((l)[i]'hin).command))) (AReply.mk (((l)[i]'hin).reply.err) ((((l)[i]'hin).reply.numbers).take (20)) ((((l)[i]'hin).reply.debits).take (20)) (ys)))]).map ADone.r) t elemOk79 (by simp) (by first | (rw [maxLen_eq]; simp; omega) | (rw [maxLen_eq]; simp at *; omega)) (by first | (simp; omega) | (simp at *; omega)) ?_ (hm := by repeat (first | exact List.Mem.head _ | apply List.Mem.tail))
                intro a56 c57 w' H hl58
                have H := H.rowEq (((xs ++ [(ADone.mk ((short34 (((l)[i]'hin).command))) (AReply.mk (((l)[i]'hin).reply.err) ((((l)[i]'hin).reply.numbers).take (20)) ((((l)[i]'hin).reply.debits).take (20)) (ys)))])).map ADone.r) (by simp)
                intro w' t
                refine ⟨⟨i + 1, (xs ++ [(ADone.mk ((short34 (((l)[i]'hin).command))) (AReply.mk (((l)[i]'hin).reply.err) ((((l)[i]'hin).reply.numbers).take (20)) ((((l)[i]'hin).reply.debits).take (20)) (ys)))]), a56, c57⟩, (by first | rfl | exact xInc (by rw [maxLen_eq]; omega) | simp), (by first | rfl | exact xInc (by rw [maxLen_eq]; omega) | simp), ⟨H.fin t 0 _, ?_⟩, ?_⟩
                · refine ⟨by omega, by omega, ?_⟩
                  rw [hxs, take_map_succ _ _ _ hin, few39one, ← hex]
                  first | done | rw [he1, he2] | rw [he1] | rw [he2]
                · show 30 - (i + 1) < 30 - i; omega
          · have q32' := of_decide_eq_false q32
            have he2 : ((l)[i]'hin).reply.debits.take 20 = ((l)[i]'hin).reply.debits := List.take_of_length_le (by omega)
            refine ⟨[6, 7, 8, 49, 50, 51, 52, 53, 54, 55, 56, 57, 58, 59, 60, 61, 62, 63, 64, 65, 66, 67, 68, 69, 70, 71, 72, 73, 74],
              { X := (Nat) × (List AReturn) × (Option Addr) × (Nat), slots := [6, 7], vals := fun (j, ys, sa, sc) => [.slc sa ys.length sc, .int .i64 ((j : Int))], boxes := [], cells := fun (j, ys, sa, sc) => [],
                inv := fun (j, ys, sa, sc) w' => Ctx w U [] [b26] [Own.row 163 4 sa sc ((ys).map AReturn.r), Own.row 160 18 ra rc ((xs).map ADone.r)] [(.slice a1 n2 c3, .sl 18 ((l).map ADone.r)), (.slice a9 n10 c11, .sl 1 ((((l)[i]'hin).command.numbers).map (fun x => [.val (.int .i64 x)]))), (.slice a13 n14 c15, .sl 1 ((((l)[i]'hin).reply.numbers).map (fun x => [.val (.int .i64 x)]))), (.slice a17 n18 c19, .sl 5 ((((l)[i]'hin).reply.debits).map ADebit.r)), (.slice a21 n22 c23, .sl 4 ((((l)[i]'hin).reply.returns).map AReturn.r)), (.slice a27 n28 c29, .sl 1 (((short34 (((l)[i]'hin).command)).numbers).map (fun x => [.val (.int .i64 x)]))), (.slice a13 20 c15, .sl 1 (((((l)[i]'hin).reply.numbers).take (20)).map (fun x => [.val (.int .i64 x)])))] w' ∧ (j ≤ ((l)[i]'hin).reply.returns.length ∧ j ≤ 10 ∧ ys = ((((l)[i]'hin).reply.returns).take j).map short39), μ := fun (j, ys, sa, sc) => 10 - j }, by kernel_rfl, ?_, ?_, ?_⟩
            · rintro ⟨j, ys, sa, sc⟩; exact ⟨⟨trivial, trivial, trivial⟩, trivial⟩
            · intro w' t
              have H := H.newRow 163 4
              refine ⟨⟨0, [], none, 0⟩, rfl, rfl, rfl, H.fin t 1 _, ?_⟩
              exact ⟨by omega, by omega, by simp⟩
            · rintro ⟨j, ys, sa, sc⟩ w' ⟨H, hI⟩
              obtain ⟨hj1, hj2, hys⟩ := hI
              have hlen2 : ys.length ≤ 10 := by rw [hys]; simp; omega
              apply And.intro <;> intro q59
              · have q59' := of_decide_eq_true q59
                apply And.intro <;> intro q60
                · have q60' := of_decide_eq_true q60
                  have hjn : j < ((l)[i]'hin).reply.returns.length := by omega
                  refine H.at (a := a21) (n := n22) (c := c23) (els := (((l)[i]'hin).reply.returns).map AReturn.r) (i := ((j : Int)).toNat) (cs := (AReturn.r ((((l)[i]'hin).reply.returns)[j]'hjn))) (by simp [hjn]) (Nat.succ_pos _) ?_
                  intro ad61 hn62e hn62 a63 n64 c65 h66 h66l h66c H hat67l hat67
                  simp only [List.length_map] at h66
                  refine ⟨ad61, hn62e, (by first | exact Int.natCast_nonneg _ | omega), (by first | omega | (simp; omega)), ?_⟩
                  refine ⟨[.int .i64 (((((l)[i]'hin).reply.returns)[j]'hjn).unit.account), .int .i64 (((((l)[i]'hin).reply.returns)[j]'hjn).unit.client), .int .i64 (((((l)[i]'hin).reply.returns)[j]'hjn).cash), .slice a63 n64 c65], rfl, List.cons_ne_nil _ _, hat67, Us.box (Us.ad hn62), ?_⟩
                  intro b68 hb68
                  have H := H.box hb68
                  intro w' t
                  refine H.c t (few18_ct (((((l)[i]'hin).reply.returns)[j]'hjn).lots)) ?_
                  intro a69 n70 c71 h72 h72l h72c w' H
                  simp only [List.length_map] at h72
                  intro w' t
                  refine Ctx.lit elemOk120 H t (els := [[.val (.int .i64 (((((l)[i]'hin).reply.returns)[j]'hjn).unit.account)), .val (.int .i64 (((((l)[i]'hin).reply.returns)[j]'hjn).unit.client)), .val (.int .i64 (((((l)[i]'hin).reply.returns)[j]'hjn).cash)), .sl 3 ((((((((l)[i]'hin).reply.returns)[j]'hjn).lots).take 20)).map ALot.r)]]) [.agg #[.int .i64 (((((l)[i]'hin).reply.returns)[j]'hjn).unit.account), .int .i64 (((((l)[i]'hin).reply.returns)[j]'hjn).unit.client), .int .i64 (((((l)[i]'hin).reply.returns)[j]'hjn).cash), .slice a69 n70 c71]] rfl (⟨rfl, ⟨⟨rfl, rfl, rfl, by repeat (first | exact List.Mem.head _ | apply List.Mem.tail), trivial⟩, rfl⟩, trivial⟩) rfl (by decide) (by decide) ?_
                  intro lb73 w' H
                  intro w' t
                  refine H.ap (a2 := (some ⟨lb73, 0, none⟩)) (m := 1) (c2 := 1) (news := ([(AReturn.mk (((((l)[i]'hin).reply.returns)[j]'hjn).unit) (((((l)[i]'hin).reply.returns)[j]'hjn).cash) (((((((l)[i]'hin).reply.returns)[j]'hjn).lots).take 20)))]).map AReturn.r) t elemOk120 (by simp) (by first | (rw [maxLen_eq]; simp; omega) | (rw [maxLen_eq]; simp at *; omega)) (by first | (simp; omega) | (simp at *; omega)) ?_ (hm := by repeat (first | exact List.Mem.head _ | apply List.Mem.tail))
                  intro a74 c75 w' H hl76
                  have H := H.rowEq (((ys ++ [(AReturn.mk (((((l)[i]'hin).reply.returns)[j]'hjn).unit) (((((l)[i]'hin).reply.returns)[j]'hjn).cash) (((((((l)[i]'hin).reply.returns)[j]'hjn).lots).take 20)))])).map AReturn.r) (by simp)
                  intro w' t
                  refine ⟨⟨j + 1, (ys ++ [(AReturn.mk (((((l)[i]'hin).reply.returns)[j]'hjn).unit) (((((l)[i]'hin).reply.returns)[j]'hjn).cash) (((((((l)[i]'hin).reply.returns)[j]'hjn).lots).take 20)))]), a74, c75⟩, (by first | rfl | exact xInc (by rw [maxLen_eq]; omega) | simp), (by first | rfl | exact xInc (by rw [maxLen_eq]; omega) | simp), rfl, ⟨H.fin t 1 _, ?_⟩, ?_⟩
                  · refine ⟨by omega, by omega, ?_⟩
                    rw [hys, take_map_succ _ _ _ hjn]; rfl
                  · show 10 - (j + 1) < 10 - j; omega
                · have q60' := of_decide_eq_false q60
                  have hex : ys = ((((l)[i]'hin).reply.returns).take 10).map short39 := by rw [hys]; congr 2; omega
                  have H := Ctx.view (A := []) H
                  have hv : ∀ l : List AReturn, (l.map AReturn.r).length = l.length := fun l => by simp
                  rw [hv] at H
                  intro w' t
                  refine Ctx.lit elemOk79 H t (els := [[.val (.int .i64 ((short34 (((l)[i]'hin).command)).op)), .val (.int .i64 ((short34 (((l)[i]'hin).command)).by_)), .val (.int .i64 ((short34 (((l)[i]'hin).command)).member)), .val (.int .i64 ((short34 (((l)[i]'hin).command)).unit.account)), .val (.int .i64 ((short34 (((l)[i]'hin).command)).unit.client)), .val (.int .i64 ((short34 (((l)[i]'hin).command)).other.account)), .val (.int .i64 ((short34 (((l)[i]'hin).command)).other.client)), .val (.int .i64 ((short34 (((l)[i]'hin).command)).inst)), .val (.int .i64 ((short34 (((l)[i]'hin).command)).asset)), .val (.int .i64 ((short34 (((l)[i]'hin).command)).tag)), .val (.int .i64 ((short34 (((l)[i]'hin).command)).id)), .val (.int .i64 ((short34 (((l)[i]'hin).command)).qty)), .val (.int .i64 ((short34 (((l)[i]'hin).command)).price)), .sl 1 (((short34 (((l)[i]'hin).command)).numbers).map (fun x => [.val (.int .i64 x)])), .val (.int .i64 (((l)[i]'hin).reply.err)), .sl 1 (((((l)[i]'hin).reply.numbers).take (20)).map (fun x => [.val (.int .i64 x)])), .sl 5 ((((l)[i]'hin).reply.debits).map ADebit.r), .sl 4 ((ys).map AReturn.r)]]) [.agg #[.int .i64 ((short34 (((l)[i]'hin).command)).op), .int .i64 ((short34 (((l)[i]'hin).command)).by_), .int .i64 ((short34 (((l)[i]'hin).command)).member), .int .i64 ((short34 (((l)[i]'hin).command)).unit.account), .int .i64 ((short34 (((l)[i]'hin).command)).unit.client), .int .i64 ((short34 (((l)[i]'hin).command)).other.account), .int .i64 ((short34 (((l)[i]'hin).command)).other.client), .int .i64 ((short34 (((l)[i]'hin).command)).inst), .int .i64 ((short34 (((l)[i]'hin).command)).asset), .int .i64 ((short34 (((l)[i]'hin).command)).tag), .int .i64 ((short34 (((l)[i]'hin).command)).id), .int .i64 ((short34 (((l)[i]'hin).command)).qty), .int .i64 ((short34 (((l)[i]'hin).command)).price), .slice a27 n28 c29, .int .i64 (((l)[i]'hin).reply.err), .slice a13 20 c15, .slice a17 n18 c19, .slice sa ys.length sc]] rfl (⟨rfl, ⟨⟨rfl, rfl, rfl, rfl, rfl, rfl, rfl, rfl, rfl, rfl, rfl, rfl, rfl, by repeat (first | exact List.Mem.head _ | apply List.Mem.tail), rfl, by repeat (first | exact List.Mem.head _ | apply List.Mem.tail), by repeat (first | exact List.Mem.head _ | apply List.Mem.tail), by repeat (first | exact List.Mem.head _ | apply List.Mem.tail), trivial⟩, rfl⟩, trivial⟩) rfl (by decide) (by decide) ?_
                  intro lb77 w' H
                  intro w' t
                  refine H.ap (a2 := (some ⟨lb77, 0, none⟩)) (m := 1) (c2 := 1) (news := ([(ADone.mk ((short34 (((l)[i]'hin).command))) (AReply.mk (((l)[i]'hin).reply.err) ((((l)[i]'hin).reply.numbers).take (20)) (((l)[i]'hin).reply.debits) (ys)))]).map ADone.r) t elemOk79 (by simp) (by first | (rw [maxLen_eq]; simp; omega) | (rw [maxLen_eq]; simp at *; omega)) (by first | (simp; omega) | (simp at *; omega)) ?_ (hm := by repeat (first | exact List.Mem.head _ | apply List.Mem.tail))
                  intro a78 c79 w' H hl80
                  have H := H.rowEq (((xs ++ [(ADone.mk ((short34 (((l)[i]'hin).command))) (AReply.mk (((l)[i]'hin).reply.err) ((((l)[i]'hin).reply.numbers).take (20)) (((l)[i]'hin).reply.debits) (ys)))])).map ADone.r) (by simp)
                  intro w' t
                  refine ⟨⟨i + 1, (xs ++ [(ADone.mk ((short34 (((l)[i]'hin).command))) (AReply.mk (((l)[i]'hin).reply.err) ((((l)[i]'hin).reply.numbers).take (20)) (((l)[i]'hin).reply.debits) (ys)))]), a78, c79⟩, (by first | rfl | exact xInc (by rw [maxLen_eq]; omega) | simp), (by first | rfl | exact xInc (by rw [maxLen_eq]; omega) | simp), ⟨H.fin t 0 _, ?_⟩, ?_⟩
                  · refine ⟨by omega, by omega, ?_⟩
                    rw [hxs, take_map_succ _ _ _ hin, few39one, ← hex]
                    first | done | rw [he1, he2] | rw [he1] | rw [he2]
                  · show 30 - (i + 1) < 30 - i; omega
              · have q59' := of_decide_eq_false q59
                have hex : ys = ((((l)[i]'hin).reply.returns).take 10).map short39 := by rw [hys, List.take_of_length_le (by omega), List.take_of_length_le (by omega)]
                have H := Ctx.view (A := []) H
                have hv : ∀ l : List AReturn, (l.map AReturn.r).length = l.length := fun l => by simp
                rw [hv] at H
                intro w' t
                refine Ctx.lit elemOk79 H t (els := [[.val (.int .i64 ((short34 (((l)[i]'hin).command)).op)), .val (.int .i64 ((short34 (((l)[i]'hin).command)).by_)), .val (.int .i64 ((short34 (((l)[i]'hin).command)).member)), .val (.int .i64 ((short34 (((l)[i]'hin).command)).unit.account)), .val (.int .i64 ((short34 (((l)[i]'hin).command)).unit.client)), .val (.int .i64 ((short34 (((l)[i]'hin).command)).other.account)), .val (.int .i64 ((short34 (((l)[i]'hin).command)).other.client)), .val (.int .i64 ((short34 (((l)[i]'hin).command)).inst)), .val (.int .i64 ((short34 (((l)[i]'hin).command)).asset)), .val (.int .i64 ((short34 (((l)[i]'hin).command)).tag)), .val (.int .i64 ((short34 (((l)[i]'hin).command)).id)), .val (.int .i64 ((short34 (((l)[i]'hin).command)).qty)), .val (.int .i64 ((short34 (((l)[i]'hin).command)).price)), .sl 1 (((short34 (((l)[i]'hin).command)).numbers).map (fun x => [.val (.int .i64 x)])), .val (.int .i64 (((l)[i]'hin).reply.err)), .sl 1 (((((l)[i]'hin).reply.numbers).take (20)).map (fun x => [.val (.int .i64 x)])), .sl 5 ((((l)[i]'hin).reply.debits).map ADebit.r), .sl 4 ((ys).map AReturn.r)]]) [.agg #[.int .i64 ((short34 (((l)[i]'hin).command)).op), .int .i64 ((short34 (((l)[i]'hin).command)).by_), .int .i64 ((short34 (((l)[i]'hin).command)).member), .int .i64 ((short34 (((l)[i]'hin).command)).unit.account), .int .i64 ((short34 (((l)[i]'hin).command)).unit.client), .int .i64 ((short34 (((l)[i]'hin).command)).other.account), .int .i64 ((short34 (((l)[i]'hin).command)).other.client), .int .i64 ((short34 (((l)[i]'hin).command)).inst), .int .i64 ((short34 (((l)[i]'hin).command)).asset), .int .i64 ((short34 (((l)[i]'hin).command)).tag), .int .i64 ((short34 (((l)[i]'hin).command)).id), .int .i64 ((short34 (((l)[i]'hin).command)).qty), .int .i64 ((short34 (((l)[i]'hin).command)).price), .slice a27 n28 c29, .int .i64 (((l)[i]'hin).reply.err), .slice a13 20 c15, .slice a17 n18 c19, .slice sa ys.length sc]] rfl (⟨rfl, ⟨⟨rfl, rfl, rfl, rfl, rfl, rfl, rfl, rfl, rfl, rfl, rfl, rfl, rfl, by repeat (first | exact List.Mem.head _ | apply List.Mem.tail), rfl, by repeat (first | exact List.Mem.head _ | apply List.Mem.tail), by repeat (first | exact List.Mem.head _ | apply List.Mem.tail), by repeat (first | exact List.Mem.head _ | apply List.Mem.tail), trivial⟩, rfl⟩, trivial⟩) rfl (by decide) (by decide) ?_
                intro lb81 w' H
                intro w' t
                refine H.ap (a2 := (some ⟨lb81, 0, none⟩)) (m := 1) (c2 := 1) (news := ([(ADone.mk ((short34 (((l)[i]'hin).command))) (AReply.mk (((l)[i]'hin).reply.err) ((((l)[i]'hin).reply.numbers).take (20)) (((l)[i]'hin).reply.debits) (ys)))]).map ADone.r) t elemOk79 (by simp) (by first | (rw [maxLen_eq]; simp; omega) | (rw [maxLen_eq]; simp at *; omega)) (by first | (simp; omega) | (simp at *; omega)) ?_ (hm := by repeat (first | exact List.Mem.head _ | apply List.Mem.tail))
                intro a82 c83 w' H hl84
                have H := H.rowEq (((xs ++ [(ADone.mk ((short34 (((l)[i]'hin).command))) (AReply.mk (((l)[i]'hin).reply.err) ((((l)[i]'hin).reply.numbers).take (20)) (((l)[i]'hin).reply.debits) (ys)))])).map ADone.r) (by simp)
                intro w' t
                refine ⟨⟨i + 1, (xs ++ [(ADone.mk ((short34 (((l)[i]'hin).command))) (AReply.mk (((l)[i]'hin).reply.err) ((((l)[i]'hin).reply.numbers).take (20)) (((l)[i]'hin).reply.debits) (ys)))]), a82, c83⟩, (by first | rfl | exact xInc (by rw [maxLen_eq]; omega) | simp), (by first | rfl | exact xInc (by rw [maxLen_eq]; omega) | simp), ⟨H.fin t 0 _, ?_⟩, ?_⟩
                · refine ⟨by omega, by omega, ?_⟩
                  rw [hxs, take_map_succ _ _ _ hin, few39one, ← hex]
                  first | done | rw [he1, he2] | rw [he1] | rw [he2]
                · show 30 - (i + 1) < 30 - i; omega
        · have q31' := of_decide_eq_false q31
          have he1 : ((l)[i]'hin).reply.numbers.take 20 = ((l)[i]'hin).reply.numbers := List.take_of_length_le (by omega)
          apply And.intro <;> intro q85
          · have q85' := of_decide_eq_true q85
            refine ⟨by first | decide | omega, by omega, ?_⟩
            have H := H.pre (a := a17) (n := n18) (c := c19) (els := (((l)[i]'hin).reply.debits).map ADebit.r) (by repeat (first | exact List.Mem.head _ | apply List.Mem.tail)) (20) (by omega)
            rw [← List.map_take] at H
            refine ⟨[6, 7, 8, 49, 50, 51, 52, 53, 54, 55, 56, 57, 58, 59, 60, 61, 62, 63, 64, 65, 66, 67, 68, 69, 70, 71, 72, 73, 74],
              { X := (Nat) × (List AReturn) × (Option Addr) × (Nat), slots := [6, 7], vals := fun (j, ys, sa, sc) => [.slc sa ys.length sc, .int .i64 ((j : Int))], boxes := [], cells := fun (j, ys, sa, sc) => [],
                inv := fun (j, ys, sa, sc) w' => Ctx w U [] [b26] [Own.row 163 4 sa sc ((ys).map AReturn.r), Own.row 160 18 ra rc ((xs).map ADone.r)] [(.slice a1 n2 c3, .sl 18 ((l).map ADone.r)), (.slice a9 n10 c11, .sl 1 ((((l)[i]'hin).command.numbers).map (fun x => [.val (.int .i64 x)]))), (.slice a13 n14 c15, .sl 1 ((((l)[i]'hin).reply.numbers).map (fun x => [.val (.int .i64 x)]))), (.slice a17 n18 c19, .sl 5 ((((l)[i]'hin).reply.debits).map ADebit.r)), (.slice a21 n22 c23, .sl 4 ((((l)[i]'hin).reply.returns).map AReturn.r)), (.slice a27 n28 c29, .sl 1 (((short34 (((l)[i]'hin).command)).numbers).map (fun x => [.val (.int .i64 x)]))), (.slice a17 20 c19, .sl 5 (((((l)[i]'hin).reply.debits).take (20)).map ADebit.r))] w' ∧ (j ≤ ((l)[i]'hin).reply.returns.length ∧ j ≤ 10 ∧ ys = ((((l)[i]'hin).reply.returns).take j).map short39), μ := fun (j, ys, sa, sc) => 10 - j }, by kernel_rfl, ?_, ?_, ?_⟩
            · rintro ⟨j, ys, sa, sc⟩; exact ⟨⟨trivial, trivial, trivial⟩, trivial⟩
            · intro w' t
              have H := H.newRow 163 4
              refine ⟨⟨0, [], none, 0⟩, rfl, rfl, rfl, H.fin t 1 _, ?_⟩
              exact ⟨by omega, by omega, by simp⟩
            · rintro ⟨j, ys, sa, sc⟩ w' ⟨H, hI⟩
              obtain ⟨hj1, hj2, hys⟩ := hI
              have hlen2 : ys.length ≤ 10 := by rw [hys]; simp; omega
              apply And.intro <;> intro q86
              · have q86' := of_decide_eq_true q86
                apply And.intro <;> intro q87
                · have q87' := of_decide_eq_true q87
                  have hjn : j < ((l)[i]'hin).reply.returns.length := by omega
                  refine H.at (a := a21) (n := n22) (c := c23) (els := (((l)[i]'hin).reply.returns).map AReturn.r) (i := ((j : Int)).toNat) (cs := (AReturn.r ((((l)[i]'hin).reply.returns)[j]'hjn))) (by simp [hjn]) (Nat.succ_pos _) ?_
                  intro ad88 hn89e hn89 a90 n91 c92 h93 h93l h93c H hat94l hat94
                  simp only [List.length_map] at h93
                  refine ⟨ad88, hn89e, (by first | exact Int.natCast_nonneg _ | omega), (by first | omega | (simp; omega)), ?_⟩
                  refine ⟨[.int .i64 (((((l)[i]'hin).reply.returns)[j]'hjn).unit.account), .int .i64 (((((l)[i]'hin).reply.returns)[j]'hjn).unit.client), .int .i64 (((((l)[i]'hin).reply.returns)[j]'hjn).cash), .slice a90 n91 c92], rfl, List.cons_ne_nil _ _, hat94, Us.box (Us.ad hn89), ?_⟩
                  intro b95 hb95
                  have H := H.box hb95
                  intro w' t
                  refine H.c t (few18_ct (((((l)[i]'hin).reply.returns)[j]'hjn).lots)) ?_
                  intro a96 n97 c98 h99 h99l h99c w' H
                  simp only [List.length_map] at h99
                  intro w' t
                  refine Ctx.lit elemOk120 H t (els := [[.val (.int .i64 (((((l)[i]'hin).reply.returns)[j]'hjn).unit.account)), .val (.int .i64 (((((l)[i]'hin).reply.returns)[j]'hjn).unit.client)), .val (.int .i64 (((((l)[i]'hin).reply.returns)[j]'hjn).cash)), .sl 3 ((((((((l)[i]'hin).reply.returns)[j]'hjn).lots).take 20)).map ALot.r)]]) [.agg #[.int .i64 (((((l)[i]'hin).reply.returns)[j]'hjn).unit.account), .int .i64 (((((l)[i]'hin).reply.returns)[j]'hjn).unit.client), .int .i64 (((((l)[i]'hin).reply.returns)[j]'hjn).cash), .slice a96 n97 c98]] rfl (⟨rfl, ⟨⟨rfl, rfl, rfl, by repeat (first | exact List.Mem.head _ | apply List.Mem.tail), trivial⟩, rfl⟩, trivial⟩) rfl (by decide) (by decide) ?_
                  intro lb100 w' H
                  intro w' t
                  refine H.ap (a2 := (some ⟨lb100, 0, none⟩)) (m := 1) (c2 := 1) (news := ([(AReturn.mk (((((l)[i]'hin).reply.returns)[j]'hjn).unit) (((((l)[i]'hin).reply.returns)[j]'hjn).cash) (((((((l)[i]'hin).reply.returns)[j]'hjn).lots).take 20)))]).map AReturn.r) t elemOk120 (by simp) (by first | (rw [maxLen_eq]; simp; omega) | (rw [maxLen_eq]; simp at *; omega)) (by first | (simp; omega) | (simp at *; omega)) ?_ (hm := by repeat (first | exact List.Mem.head _ | apply List.Mem.tail))
                  intro a101 c102 w' H hl103
                  have H := H.rowEq (((ys ++ [(AReturn.mk (((((l)[i]'hin).reply.returns)[j]'hjn).unit) (((((l)[i]'hin).reply.returns)[j]'hjn).cash) (((((((l)[i]'hin).reply.returns)[j]'hjn).lots).take 20)))])).map AReturn.r) (by simp)
                  intro w' t
                  refine ⟨⟨j + 1, (ys ++ [(AReturn.mk (((((l)[i]'hin).reply.returns)[j]'hjn).unit) (((((l)[i]'hin).reply.returns)[j]'hjn).cash) (((((((l)[i]'hin).reply.returns)[j]'hjn).lots).take 20)))]), a101, c102⟩, (by first | rfl | exact xInc (by rw [maxLen_eq]; omega) | simp), (by first | rfl | exact xInc (by rw [maxLen_eq]; omega) | simp), rfl, ⟨H.fin t 1 _, ?_⟩, ?_⟩
                  · refine ⟨by omega, by omega, ?_⟩
                    rw [hys, take_map_succ _ _ _ hjn]; rfl
                  · show 10 - (j + 1) < 10 - j; omega
                · have q87' := of_decide_eq_false q87
                  have hex : ys = ((((l)[i]'hin).reply.returns).take 10).map short39 := by rw [hys]; congr 2; omega
                  have H := Ctx.view (A := []) H
                  have hv : ∀ l : List AReturn, (l.map AReturn.r).length = l.length := fun l => by simp
                  rw [hv] at H
                  intro w' t
                  refine Ctx.lit elemOk79 H t (els := [[.val (.int .i64 ((short34 (((l)[i]'hin).command)).op)), .val (.int .i64 ((short34 (((l)[i]'hin).command)).by_)), .val (.int .i64 ((short34 (((l)[i]'hin).command)).member)), .val (.int .i64 ((short34 (((l)[i]'hin).command)).unit.account)), .val (.int .i64 ((short34 (((l)[i]'hin).command)).unit.client)), .val (.int .i64 ((short34 (((l)[i]'hin).command)).other.account)), .val (.int .i64 ((short34 (((l)[i]'hin).command)).other.client)), .val (.int .i64 ((short34 (((l)[i]'hin).command)).inst)), .val (.int .i64 ((short34 (((l)[i]'hin).command)).asset)), .val (.int .i64 ((short34 (((l)[i]'hin).command)).tag)), .val (.int .i64 ((short34 (((l)[i]'hin).command)).id)), .val (.int .i64 ((short34 (((l)[i]'hin).command)).qty)), .val (.int .i64 ((short34 (((l)[i]'hin).command)).price)), .sl 1 (((short34 (((l)[i]'hin).command)).numbers).map (fun x => [.val (.int .i64 x)])), .val (.int .i64 (((l)[i]'hin).reply.err)), .sl 1 ((((l)[i]'hin).reply.numbers).map (fun x => [.val (.int .i64 x)])), .sl 5 (((((l)[i]'hin).reply.debits).take (20)).map ADebit.r), .sl 4 ((ys).map AReturn.r)]]) [.agg #[.int .i64 ((short34 (((l)[i]'hin).command)).op), .int .i64 ((short34 (((l)[i]'hin).command)).by_), .int .i64 ((short34 (((l)[i]'hin).command)).member), .int .i64 ((short34 (((l)[i]'hin).command)).unit.account), .int .i64 ((short34 (((l)[i]'hin).command)).unit.client), .int .i64 ((short34 (((l)[i]'hin).command)).other.account), .int .i64 ((short34 (((l)[i]'hin).command)).other.client), .int .i64 ((short34 (((l)[i]'hin).command)).inst), .int .i64 ((short34 (((l)[i]'hin).command)).asset), .int .i64 ((short34 (((l)[i]'hin).command)).tag), .int .i64 ((short34 (((l)[i]'hin).command)).id), .int .i64 ((short34 (((l)[i]'hin).command)).qty), .int .i64 ((short34 (((l)[i]'hin).command)).price), .slice a27 n28 c29, .int .i64 (((l)[i]'hin).reply.err), .slice a13 n14 c15, .slice a17 20 c19, .slice sa ys.length sc]] rfl (⟨rfl, ⟨⟨rfl, rfl, rfl, rfl, rfl, rfl, rfl, rfl, rfl, rfl, rfl, rfl, rfl, by repeat (first | exact List.Mem.head _ | apply List.Mem.tail), rfl, by repeat (first | exact List.Mem.head _ | apply List.Mem.tail), by repeat (first | exact List.Mem.head _ | apply List.Mem.tail), by repeat (first | exact List.Mem.head _ | apply List.Mem.tail), trivial⟩, rfl⟩, trivial⟩) rfl (by decide) (by decide) ?_
                  intro lb104 w' H
                  intro w' t
                  refine H.ap (a2 := (some ⟨lb104, 0, none⟩)) (m := 1) (c2 := 1) (news := ([(ADone.mk ((short34 (((l)[i]'hin).command))) (AReply.mk (((l)[i]'hin).reply.err) (((l)[i]'hin).reply.numbers) ((((l)[i]'hin).reply.debits).take (20)) (ys)))]).map ADone.r) t elemOk79 (by simp) (by first | (rw [maxLen_eq]; simp; omega) | (rw [maxLen_eq]; simp at *; omega)) (by first | (simp; omega) | (simp at *; omega)) ?_ (hm := by repeat (first | exact List.Mem.head _ | apply List.Mem.tail))
                  intro a105 c106 w' H hl107
                  have H := H.rowEq (((xs ++ [(ADone.mk ((short34 (((l)[i]'hin).command))) (AReply.mk (((l)[i]'hin).reply.err) (((l)[i]'hin).reply.numbers) ((((l)[i]'hin).reply.debits).take (20)) (ys)))])).map ADone.r) (by simp)
                  intro w' t
                  refine ⟨⟨i + 1, (xs ++ [(ADone.mk ((short34 (((l)[i]'hin).command))) (AReply.mk (((l)[i]'hin).reply.err) (((l)[i]'hin).reply.numbers) ((((l)[i]'hin).reply.debits).take (20)) (ys)))]), a105, c106⟩, (by first | rfl | exact xInc (by rw [maxLen_eq]; omega) | simp), (by first | rfl | exact xInc (by rw [maxLen_eq]; omega) | simp), ⟨H.fin t 0 _, ?_⟩, ?_⟩
                  · refine ⟨by omega, by omega, ?_⟩
                    rw [hxs, take_map_succ _ _ _ hin, few39one, ← hex]
                    first | done | rw [he1, he2] | rw [he1] | rw [he2]
                  · show 30 - (i + 1) < 30 - i; omega
              · have q86' := of_decide_eq_false q86
                have hex : ys = ((((l)[i]'hin).reply.returns).take 10).map short39 := by rw [hys, List.take_of_length_le (by omega), List.take_of_length_le (by omega)]
                have H := Ctx.view (A := []) H
                have hv : ∀ l : List AReturn, (l.map AReturn.r).length = l.length := fun l => by simp
                rw [hv] at H
                intro w' t
                refine Ctx.lit elemOk79 H t (els := [[.val (.int .i64 ((short34 (((l)[i]'hin).command)).op)), .val (.int .i64 ((short34 (((l)[i]'hin).command)).by_)), .val (.int .i64 ((short34 (((l)[i]'hin).command)).member)), .val (.int .i64 ((short34 (((l)[i]'hin).command)).unit.account)), .val (.int .i64 ((short34 (((l)[i]'hin).command)).unit.client)), .val (.int .i64 ((short34 (((l)[i]'hin).command)).other.account)), .val (.int .i64 ((short34 (((l)[i]'hin).command)).other.client)), .val (.int .i64 ((short34 (((l)[i]'hin).command)).inst)), .val (.int .i64 ((short34 (((l)[i]'hin).command)).asset)), .val (.int .i64 ((short34 (((l)[i]'hin).command)).tag)), .val (.int .i64 ((short34 (((l)[i]'hin).command)).id)), .val (.int .i64 ((short34 (((l)[i]'hin).command)).qty)), .val (.int .i64 ((short34 (((l)[i]'hin).command)).price)), .sl 1 (((short34 (((l)[i]'hin).command)).numbers).map (fun x => [.val (.int .i64 x)])), .val (.int .i64 (((l)[i]'hin).reply.err)), .sl 1 ((((l)[i]'hin).reply.numbers).map (fun x => [.val (.int .i64 x)])), .sl 5 (((((l)[i]'hin).reply.debits).take (20)).map ADebit.r), .sl 4 ((ys).map AReturn.r)]]) [.agg #[.int .i64 ((short34 (((l)[i]'hin).command)).op), .int .i64 ((short34 (((l)[i]'hin).command)).by_), .int .i64 ((short34 (((l)[i]'hin).command)).member), .int .i64 ((short34 (((l)[i]'hin).command)).unit.account), .int .i64 ((short34 (((l)[i]'hin).command)).unit.client), .int .i64 ((short34 (((l)[i]'hin).command)).other.account), .int .i64 ((short34 (((l)[i]'hin).command)).other.client), .int .i64 ((short34 (((l)[i]'hin).command)).inst), .int .i64 ((short34 (((l)[i]'hin).command)).asset), .int .i64 ((short34 (((l)[i]'hin).command)).tag), .int .i64 ((short34 (((l)[i]'hin).command)).id), .int .i64 ((short34 (((l)[i]'hin).command)).qty), .int .i64 ((short34 (((l)[i]'hin).command)).price), .slice a27 n28 c29, .int .i64 (((l)[i]'hin).reply.err), .slice a13 n14 c15, .slice a17 20 c19, .slice sa ys.length sc]] rfl (⟨rfl, ⟨⟨rfl, rfl, rfl, rfl, rfl, rfl, rfl, rfl, rfl, rfl, rfl, rfl, rfl, by repeat (first | exact List.Mem.head _ | apply List.Mem.tail), rfl, by repeat (first | exact List.Mem.head _ | apply List.Mem.tail), by repeat (first | exact List.Mem.head _ | apply List.Mem.tail), by repeat (first | exact List.Mem.head _ | apply List.Mem.tail), trivial⟩, rfl⟩, trivial⟩) rfl (by decide) (by decide) ?_
                intro lb108 w' H
                intro w' t
                refine H.ap (a2 := (some ⟨lb108, 0, none⟩)) (m := 1) (c2 := 1) (news := ([(ADone.mk ((short34 (((l)[i]'hin).command))) (AReply.mk (((l)[i]'hin).reply.err) (((l)[i]'hin).reply.numbers) ((((l)[i]'hin).reply.debits).take (20)) (ys)))]).map ADone.r) t elemOk79 (by simp) (by first | (rw [maxLen_eq]; simp; omega) | (rw [maxLen_eq]; simp at *; omega)) (by first | (simp; omega) | (simp at *; omega)) ?_ (hm := by repeat (first | exact List.Mem.head _ | apply List.Mem.tail))
                intro a109 c110 w' H hl111
                have H := H.rowEq (((xs ++ [(ADone.mk ((short34 (((l)[i]'hin).command))) (AReply.mk (((l)[i]'hin).reply.err) (((l)[i]'hin).reply.numbers) ((((l)[i]'hin).reply.debits).take (20)) (ys)))])).map ADone.r) (by simp)
                intro w' t
                refine ⟨⟨i + 1, (xs ++ [(ADone.mk ((short34 (((l)[i]'hin).command))) (AReply.mk (((l)[i]'hin).reply.err) (((l)[i]'hin).reply.numbers) ((((l)[i]'hin).reply.debits).take (20)) (ys)))]), a109, c110⟩, (by first | rfl | exact xInc (by rw [maxLen_eq]; omega) | simp), (by first | rfl | exact xInc (by rw [maxLen_eq]; omega) | simp), ⟨H.fin t 0 _, ?_⟩, ?_⟩
                · refine ⟨by omega, by omega, ?_⟩
                  rw [hxs, take_map_succ _ _ _ hin, few39one, ← hex]
                  first | done | rw [he1, he2] | rw [he1] | rw [he2]
                · show 30 - (i + 1) < 30 - i; omega
          · have q85' := of_decide_eq_false q85
            have he2 : ((l)[i]'hin).reply.debits.take 20 = ((l)[i]'hin).reply.debits := List.take_of_length_le (by omega)
            refine ⟨[6, 7, 8, 49, 50, 51, 52, 53, 54, 55, 56, 57, 58, 59, 60, 61, 62, 63, 64, 65, 66, 67, 68, 69, 70, 71, 72, 73, 74],
              { X := (Nat) × (List AReturn) × (Option Addr) × (Nat), slots := [6, 7], vals := fun (j, ys, sa, sc) => [.slc sa ys.length sc, .int .i64 ((j : Int))], boxes := [], cells := fun (j, ys, sa, sc) => [],
                inv := fun (j, ys, sa, sc) w' => Ctx w U [] [b26] [Own.row 163 4 sa sc ((ys).map AReturn.r), Own.row 160 18 ra rc ((xs).map ADone.r)] [(.slice a1 n2 c3, .sl 18 ((l).map ADone.r)), (.slice a9 n10 c11, .sl 1 ((((l)[i]'hin).command.numbers).map (fun x => [.val (.int .i64 x)]))), (.slice a13 n14 c15, .sl 1 ((((l)[i]'hin).reply.numbers).map (fun x => [.val (.int .i64 x)]))), (.slice a17 n18 c19, .sl 5 ((((l)[i]'hin).reply.debits).map ADebit.r)), (.slice a21 n22 c23, .sl 4 ((((l)[i]'hin).reply.returns).map AReturn.r)), (.slice a27 n28 c29, .sl 1 (((short34 (((l)[i]'hin).command)).numbers).map (fun x => [.val (.int .i64 x)])))] w' ∧ (j ≤ ((l)[i]'hin).reply.returns.length ∧ j ≤ 10 ∧ ys = ((((l)[i]'hin).reply.returns).take j).map short39), μ := fun (j, ys, sa, sc) => 10 - j }, by kernel_rfl, ?_, ?_, ?_⟩
            · rintro ⟨j, ys, sa, sc⟩; exact ⟨⟨trivial, trivial, trivial⟩, trivial⟩
            · intro w' t
              have H := H.newRow 163 4
              refine ⟨⟨0, [], none, 0⟩, rfl, rfl, rfl, H.fin t 1 _, ?_⟩
              exact ⟨by omega, by omega, by simp⟩
            · rintro ⟨j, ys, sa, sc⟩ w' ⟨H, hI⟩
              obtain ⟨hj1, hj2, hys⟩ := hI
              have hlen2 : ys.length ≤ 10 := by rw [hys]; simp; omega
              apply And.intro <;> intro q112
              · have q112' := of_decide_eq_true q112
                apply And.intro <;> intro q113
                · have q113' := of_decide_eq_true q113
                  have hjn : j < ((l)[i]'hin).reply.returns.length := by omega
                  refine H.at (a := a21) (n := n22) (c := c23) (els := (((l)[i]'hin).reply.returns).map AReturn.r) (i := ((j : Int)).toNat) (cs := (AReturn.r ((((l)[i]'hin).reply.returns)[j]'hjn))) (by simp [hjn]) (Nat.succ_pos _) ?_
                  intro ad114 hn115e hn115 a116 n117 c118 h119 h119l h119c H hat120l hat120
                  simp only [List.length_map] at h119
                  refine ⟨ad114, hn115e, (by first | exact Int.natCast_nonneg _ | omega), (by first | omega | (simp; omega)), ?_⟩
                  refine ⟨[.int .i64 (((((l)[i]'hin).reply.returns)[j]'hjn).unit.account), .int .i64 (((((l)[i]'hin).reply.returns)[j]'hjn).unit.client), .int .i64 (((((l)[i]'hin).reply.returns)[j]'hjn).cash), .slice a116 n117 c118], rfl, List.cons_ne_nil _ _, hat120, Us.box (Us.ad hn115), ?_⟩
                  intro b121 hb121
                  have H := H.box hb121
                  intro w' t
                  refine H.c t (few18_ct (((((l)[i]'hin).reply.returns)[j]'hjn).lots)) ?_
                  intro a122 n123 c124 h125 h125l h125c w' H
                  simp only [List.length_map] at h125
                  intro w' t
                  refine Ctx.lit elemOk120 H t (els := [[.val (.int .i64 (((((l)[i]'hin).reply.returns)[j]'hjn).unit.account)), .val (.int .i64 (((((l)[i]'hin).reply.returns)[j]'hjn).unit.client)), .val (.int .i64 (((((l)[i]'hin).reply.returns)[j]'hjn).cash)), .sl 3 ((((((((l)[i]'hin).reply.returns)[j]'hjn).lots).take 20)).map ALot.r)]]) [.agg #[.int .i64 (((((l)[i]'hin).reply.returns)[j]'hjn).unit.account), .int .i64 (((((l)[i]'hin).reply.returns)[j]'hjn).unit.client), .int .i64 (((((l)[i]'hin).reply.returns)[j]'hjn).cash), .slice a122 n123 c124]] rfl (⟨rfl, ⟨⟨rfl, rfl, rfl, by repeat (first | exact List.Mem.head _ | apply List.Mem.tail), trivial⟩, rfl⟩, trivial⟩) rfl (by decide) (by decide) ?_
                  intro lb126 w' H
                  intro w' t
                  refine H.ap (a2 := (some ⟨lb126, 0, none⟩)) (m := 1) (c2 := 1) (news := ([(AReturn.mk (((((l)[i]'hin).reply.returns)[j]'hjn).unit) (((((l)[i]'hin).reply.returns)[j]'hjn).cash) (((((((l)[i]'hin).reply.returns)[j]'hjn).lots).take 20)))]).map AReturn.r) t elemOk120 (by simp) (by first | (rw [maxLen_eq]; simp; omega) | (rw [maxLen_eq]; simp at *; omega)) (by first | (simp; omega) | (simp at *; omega)) ?_ (hm := by repeat (first | exact List.Mem.head _ | apply List.Mem.tail))
                  intro a127 c128 w' H hl129
                  have H := H.rowEq (((ys ++ [(AReturn.mk (((((l)[i]'hin).reply.returns)[j]'hjn).unit) (((((l)[i]'hin).reply.returns)[j]'hjn).cash) (((((((l)[i]'hin).reply.returns)[j]'hjn).lots).take 20)))])).map AReturn.r) (by simp)
                  intro w' t
                  refine ⟨⟨j + 1, (ys ++ [(AReturn.mk (((((l)[i]'hin).reply.returns)[j]'hjn).unit) (((((l)[i]'hin).reply.returns)[j]'hjn).cash) (((((((l)[i]'hin).reply.returns)[j]'hjn).lots).take 20)))]), a127, c128⟩, (by first | rfl | exact xInc (by rw [maxLen_eq]; omega) | simp), (by first | rfl | exact xInc (by rw [maxLen_eq]; omega) | simp), rfl, ⟨H.fin t 1 _, ?_⟩, ?_⟩
                  · refine ⟨by omega, by omega, ?_⟩
                    rw [hys, take_map_succ _ _ _ hjn]; rfl
                  · show 10 - (j + 1) < 10 - j; omega
                · have q113' := of_decide_eq_false q113
                  have hex : ys = ((((l)[i]'hin).reply.returns).take 10).map short39 := by rw [hys]; congr 2; omega
                  have H := Ctx.view (A := []) H
                  have hv : ∀ l : List AReturn, (l.map AReturn.r).length = l.length := fun l => by simp
                  rw [hv] at H
                  intro w' t
                  refine Ctx.lit elemOk79 H t (els := [[.val (.int .i64 ((short34 (((l)[i]'hin).command)).op)), .val (.int .i64 ((short34 (((l)[i]'hin).command)).by_)), .val (.int .i64 ((short34 (((l)[i]'hin).command)).member)), .val (.int .i64 ((short34 (((l)[i]'hin).command)).unit.account)), .val (.int .i64 ((short34 (((l)[i]'hin).command)).unit.client)), .val (.int .i64 ((short34 (((l)[i]'hin).command)).other.account)), .val (.int .i64 ((short34 (((l)[i]'hin).command)).other.client)), .val (.int .i64 ((short34 (((l)[i]'hin).command)).inst)), .val (.int .i64 ((short34 (((l)[i]'hin).command)).asset)), .val (.int .i64 ((short34 (((l)[i]'hin).command)).tag)), .val (.int .i64 ((short34 (((l)[i]'hin).command)).id)), .val (.int .i64 ((short34 (((l)[i]'hin).command)).qty)), .val (.int .i64 ((short34 (((l)[i]'hin).command)).price)), .sl 1 (((short34 (((l)[i]'hin).command)).numbers).map (fun x => [.val (.int .i64 x)])), .val (.int .i64 (((l)[i]'hin).reply.err)), .sl 1 ((((l)[i]'hin).reply.numbers).map (fun x => [.val (.int .i64 x)])), .sl 5 ((((l)[i]'hin).reply.debits).map ADebit.r), .sl 4 ((ys).map AReturn.r)]]) [.agg #[.int .i64 ((short34 (((l)[i]'hin).command)).op), .int .i64 ((short34 (((l)[i]'hin).command)).by_), .int .i64 ((short34 (((l)[i]'hin).command)).member), .int .i64 ((short34 (((l)[i]'hin).command)).unit.account), .int .i64 ((short34 (((l)[i]'hin).command)).unit.client), .int .i64 ((short34 (((l)[i]'hin).command)).other.account), .int .i64 ((short34 (((l)[i]'hin).command)).other.client), .int .i64 ((short34 (((l)[i]'hin).command)).inst), .int .i64 ((short34 (((l)[i]'hin).command)).asset), .int .i64 ((short34 (((l)[i]'hin).command)).tag), .int .i64 ((short34 (((l)[i]'hin).command)).id), .int .i64 ((short34 (((l)[i]'hin).command)).qty), .int .i64 ((short34 (((l)[i]'hin).command)).price), .slice a27 n28 c29, .int .i64 (((l)[i]'hin).reply.err), .slice a13 n14 c15, .slice a17 n18 c19, .slice sa ys.length sc]] rfl (⟨rfl, ⟨⟨rfl, rfl, rfl, rfl, rfl, rfl, rfl, rfl, rfl, rfl, rfl, rfl, rfl, by repeat (first | exact List.Mem.head _ | apply List.Mem.tail), rfl, by repeat (first | exact List.Mem.head _ | apply List.Mem.tail), by repeat (first | exact List.Mem.head _ | apply List.Mem.tail), by repeat (first | exact List.Mem.head _ | apply List.Mem.tail), trivial⟩, rfl⟩, trivial⟩) rfl (by decide) (by decide) ?_
                  intro lb130 w' H
                  intro w' t
                  refine H.ap (a2 := (some ⟨lb130, 0, none⟩)) (m := 1) (c2 := 1) (news := ([(ADone.mk ((short34 (((l)[i]'hin).command))) (AReply.mk (((l)[i]'hin).reply.err) (((l)[i]'hin).reply.numbers) (((l)[i]'hin).reply.debits) (ys)))]).map ADone.r) t elemOk79 (by simp) (by first | (rw [maxLen_eq]; simp; omega) | (rw [maxLen_eq]; simp at *; omega)) (by first | (simp; omega) | (simp at *; omega)) ?_ (hm := by repeat (first | exact List.Mem.head _ | apply List.Mem.tail))
                  intro a131 c132 w' H hl133
                  have H := H.rowEq (((xs ++ [(ADone.mk ((short34 (((l)[i]'hin).command))) (AReply.mk (((l)[i]'hin).reply.err) (((l)[i]'hin).reply.numbers) (((l)[i]'hin).reply.debits) (ys)))])).map ADone.r) (by simp)
                  intro w' t
                  refine ⟨⟨i + 1, (xs ++ [(ADone.mk ((short34 (((l)[i]'hin).command))) (AReply.mk (((l)[i]'hin).reply.err) (((l)[i]'hin).reply.numbers) (((l)[i]'hin).reply.debits) (ys)))]), a131, c132⟩, (by first | rfl | exact xInc (by rw [maxLen_eq]; omega) | simp), (by first | rfl | exact xInc (by rw [maxLen_eq]; omega) | simp), ⟨H.fin t 0 _, ?_⟩, ?_⟩
                  · refine ⟨by omega, by omega, ?_⟩
                    rw [hxs, take_map_succ _ _ _ hin, few39one, ← hex]
                    first | done | rw [he1, he2] | rw [he1] | rw [he2]
                  · show 30 - (i + 1) < 30 - i; omega
              · have q112' := of_decide_eq_false q112
                have hex : ys = ((((l)[i]'hin).reply.returns).take 10).map short39 := by rw [hys, List.take_of_length_le (by omega), List.take_of_length_le (by omega)]
                have H := Ctx.view (A := []) H
                have hv : ∀ l : List AReturn, (l.map AReturn.r).length = l.length := fun l => by simp
                rw [hv] at H
                intro w' t
                refine Ctx.lit elemOk79 H t (els := [[.val (.int .i64 ((short34 (((l)[i]'hin).command)).op)), .val (.int .i64 ((short34 (((l)[i]'hin).command)).by_)), .val (.int .i64 ((short34 (((l)[i]'hin).command)).member)), .val (.int .i64 ((short34 (((l)[i]'hin).command)).unit.account)), .val (.int .i64 ((short34 (((l)[i]'hin).command)).unit.client)), .val (.int .i64 ((short34 (((l)[i]'hin).command)).other.account)), .val (.int .i64 ((short34 (((l)[i]'hin).command)).other.client)), .val (.int .i64 ((short34 (((l)[i]'hin).command)).inst)), .val (.int .i64 ((short34 (((l)[i]'hin).command)).asset)), .val (.int .i64 ((short34 (((l)[i]'hin).command)).tag)), .val (.int .i64 ((short34 (((l)[i]'hin).command)).id)), .val (.int .i64 ((short34 (((l)[i]'hin).command)).qty)), .val (.int .i64 ((short34 (((l)[i]'hin).command)).price)), .sl 1 (((short34 (((l)[i]'hin).command)).numbers).map (fun x => [.val (.int .i64 x)])), .val (.int .i64 (((l)[i]'hin).reply.err)), .sl 1 ((((l)[i]'hin).reply.numbers).map (fun x => [.val (.int .i64 x)])), .sl 5 ((((l)[i]'hin).reply.debits).map ADebit.r), .sl 4 ((ys).map AReturn.r)]]) [.agg #[.int .i64 ((short34 (((l)[i]'hin).command)).op), .int .i64 ((short34 (((l)[i]'hin).command)).by_), .int .i64 ((short34 (((l)[i]'hin).command)).member), .int .i64 ((short34 (((l)[i]'hin).command)).unit.account), .int .i64 ((short34 (((l)[i]'hin).command)).unit.client), .int .i64 ((short34 (((l)[i]'hin).command)).other.account), .int .i64 ((short34 (((l)[i]'hin).command)).other.client), .int .i64 ((short34 (((l)[i]'hin).command)).inst), .int .i64 ((short34 (((l)[i]'hin).command)).asset), .int .i64 ((short34 (((l)[i]'hin).command)).tag), .int .i64 ((short34 (((l)[i]'hin).command)).id), .int .i64 ((short34 (((l)[i]'hin).command)).qty), .int .i64 ((short34 (((l)[i]'hin).command)).price), .slice a27 n28 c29, .int .i64 (((l)[i]'hin).reply.err), .slice a13 n14 c15, .slice a17 n18 c19, .slice sa ys.length sc]] rfl (⟨rfl, ⟨⟨rfl, rfl, rfl, rfl, rfl, rfl, rfl, rfl, rfl, rfl, rfl, rfl, rfl, by repeat (first | exact List.Mem.head _ | apply List.Mem.tail), rfl, by repeat (first | exact List.Mem.head _ | apply List.Mem.tail), by repeat (first | exact List.Mem.head _ | apply List.Mem.tail), by repeat (first | exact List.Mem.head _ | apply List.Mem.tail), trivial⟩, rfl⟩, trivial⟩) rfl (by decide) (by decide) ?_
                intro lb134 w' H
                intro w' t
                refine H.ap (a2 := (some ⟨lb134, 0, none⟩)) (m := 1) (c2 := 1) (news := ([(ADone.mk ((short34 (((l)[i]'hin).command))) (AReply.mk (((l)[i]'hin).reply.err) (((l)[i]'hin).reply.numbers) (((l)[i]'hin).reply.debits) (ys)))]).map ADone.r) t elemOk79 (by simp) (by first | (rw [maxLen_eq]; simp; omega) | (rw [maxLen_eq]; simp at *; omega)) (by first | (simp; omega) | (simp at *; omega)) ?_ (hm := by repeat (first | exact List.Mem.head _ | apply List.Mem.tail))
                intro a135 c136 w' H hl137
                have H := H.rowEq (((xs ++ [(ADone.mk ((short34 (((l)[i]'hin).command))) (AReply.mk (((l)[i]'hin).reply.err) (((l)[i]'hin).reply.numbers) (((l)[i]'hin).reply.debits) (ys)))])).map ADone.r) (by simp)
                intro w' t
                refine ⟨⟨i + 1, (xs ++ [(ADone.mk ((short34 (((l)[i]'hin).command))) (AReply.mk (((l)[i]'hin).reply.err) (((l)[i]'hin).reply.numbers) (((l)[i]'hin).reply.debits) (ys)))]), a135, c136⟩, (by first | rfl | exact xInc (by rw [maxLen_eq]; omega) | simp), (by first | rfl | exact xInc (by rw [maxLen_eq]; omega) | simp), ⟨H.fin t 0 _, ?_⟩, ?_⟩
                · refine ⟨by omega, by omega, ?_⟩
                  rw [hxs, take_map_succ _ _ _ hin, few39one, ← hex]
                  first | done | rw [he1, he2] | rw [he1] | rw [he2]
                · show 30 - (i + 1) < 30 - i; omega
      · have q6' := of_decide_eq_false q6
        have he : (l.take i).map few39one = few39 l := by unfold few39; congr 2; omega
        rw [he] at hxs; subst hxs
        have H := Ctx.view (A := []) H
        have hv : ∀ l : List ADone, (l.map ADone.r).length = l.length := fun l => by simp
        rw [hv] at H
        intro w' t
        exact H.r t
    · have q5' := of_decide_eq_false q5
      rw [List.take_of_length_le (by omega)] at hxs
      have he : l.map few39one = few39 l := by unfold few39; rw [List.take_of_length_le (by omega)]
      rw [he] at hxs; subst hxs
      have H := Ctx.view (A := []) H
      have hv : ∀ l : List ADone, (l.map ADone.r).length = l.length := fun l => by simp
      rw [hv] at H
      intro w' t
      exact H.r t
end Go.Proofs.Ytnldhkhnfodplaa
