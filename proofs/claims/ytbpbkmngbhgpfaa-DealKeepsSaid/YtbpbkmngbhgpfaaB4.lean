import Derived.Test.YtbpbkmngbhgpfaaB3
namespace Go.Vc
open Go Go.RowKit

/-! ### Types of data -/
inductive DT where
  | int (k : IntKind)
  | bool
  | str
  | slc (t : DT)
  | unit
  | pair (a b : DT)
@[reducible] def DT.den : DT → Type
  | .int _ => Int
  | .bool => Bool
  | .str => ByteArray
  | .slc t => List t.den
  | .unit => Unit
  | .pair a b => a.den × b.den
def DT.size : DT → Nat
  | .int _ => 1
  | .bool => 1
  | .str => 1
  | .slc _ => 1
  | .unit => 0
  | .pair a b => a.size + b.size
def DT.agg : DT → Bool
  | .unit => true
  | .pair _ _ => true
  | _ => false
/-- the cells that it stands in -/
def DT.enc : (t : DT) → t.den → List R
  | .int k, n => [.val (.int k n)]
  | .bool, b => [.val (.bool b)]
  | .str, s => [.val (.string s)]
  | .slc t, l => [.sl t.size (l.map fun x => t.enc x)]
  | .unit, _ => []
  | .pair a b, x => a.enc x.1 ++ b.enc x.2
/-- as an argument, a result -/
def DT.encA : (t : DT) → t.den → R
  | .int k, n => .val (.int k n)
  | .bool, b => .val (.bool b)
  | .str, s => .val (.string s)
  | .slc t, l => .sl t.size (l.map fun x => t.enc x)
  | .unit, _ => .agg []
  | .pair a b, x => .agg (a.enc x.1 ++ b.enc x.2)
def DT.same : (a b : DT) → Option (PLift (a = b))
  | .int k, .int k' => if h : eqk k k' = true then some ⟨by rw [eqk_eq h]⟩ else none
  | .bool, .bool => some ⟨rfl⟩
  | .str, .str => some ⟨rfl⟩
  | .unit, .unit => some ⟨rfl⟩
  | .slc a, .slc b => match a.same b with
    | some ⟨h⟩ => some ⟨by rw [h]⟩
    | none => none
  | .pair a b, .pair a' b' => match a.same a', b.same b' with
    | some ⟨h⟩, some ⟨h'⟩ => some ⟨by rw [h, h']⟩
    | _, _ => none
  | _, _ => none
def DT.castL {a b : DT} (h : a = b) (l : List a.den) : List b.den := h ▸ l
/-- of each cell: the size of its elements, where it is a slice -/
def DT.ks : DT → List Nat → List Nat
  | .slc t, r => t.size :: r
  | .unit, r => r
  | .pair a b, r => a.ks (b.ks r)
  | _, r => 0 :: r

inductive DV : Type where
  | x (y : XV)
  | sl (t : DT) (l : List t.den)
  | row (j : Nat)
  | el (t : DT) (x : t.den) (off : Nat)
  | re (j i off : Nat)
  | ob (j : Nat)
  | own (i off : Nat)
  | fn (f : FuncId) (caps : List DV)
  | agg (xs : List DV)
  | tup (xs : List DV)
  | junk
structure DB where
  ty : TypeId
  cells : List DV
  w : Bool
abbrev DBs := List (Option DB)
inductive DR where
  | own (e : TypeId) (t : DT) (l : List t.den)
  | itr (s : ByteArray) (p : Int)
  | dead

def DT.cells : (t : DT) → t.den → List DV → List DV
  | .int k, n, r => .x (.int k n) :: r
  | .bool, b, r => .x (.bool b) :: r
  | .str, s, r => .x (.str s) :: r
  | .slc t, l, r => .sl t l :: r
  | .unit, _, r => r
  | .pair a b, x, r => a.cells x.1 (b.cells x.2 r)
def DT.val : (t : DT) → t.den → DV
  | .int k, n => .x (.int k n)
  | .bool, b => .x (.bool b)
  | .str, s => .x (.str s)
  | .slc t, l => .sl t l
  | .unit, _ => .agg []
  | .pair a b, x => .agg (a.cells x.1 (b.cells x.2 []))
/-- data out of cells -/
def DT.of : (t : DT) → List DV → Option (t.den × List DV)
  | .int k, cs => match cs with
    | .x (.int k' n) :: r => match eqk k k' with | true => some (n, r) | false => none
    | _ => none
  | .bool, cs => match cs with
    | .x (.bool b) :: r => some (b, r)
    | .x (.lit b) :: r => some (b, r)
    | _ => none
  | .str, cs => match cs with
    | .x (.str s) :: r => some (s, r)
    | _ => none
  | .slc t, cs => match cs with
    | .sl t' l :: r => match t'.same t with | some ⟨h⟩ => some (DT.castL h l, r) | none => none
    | .x (.slc none 0 0) :: r => some ([], r)
    | _ => none
  | .unit, cs => some ((), cs)
  | .pair a b, cs => match a.of cs with
    | some (x, r) => match b.of r with
      | some (y, r) => some ((x, y), r)
      | none => none
    | none => none
def DT.ofV (t : DT) (v : DV) : Option t.den :=
  match t.agg with
  | true => match v with
    | .agg cs => match t.of cs with | some (x, r) => (match r with | [] => some x | _ => none) | none => none
    | _ => none
  | false => match t.of [v] with | some (x, r) => (match r with | [] => some x | _ => none) | none => none

/-! ### As the executor of pure data has it -/
mutual
def DV.p : DV → PV
  | .x y => .x y
  | .sl t l => .sl t.size (l.map fun x => t.enc x)
  | .row j => .row j
  | .el t x off => .el (t.enc x) off
  | .re j i off => .re j i off
  | .ob j => .ob j
  | .own i off => .own i off
  | .fn f cs => .fn f (pL cs)
  | .agg xs => .agg (pL xs)
  | .tup xs => .tup (pL xs)
  | .junk => .junk
def pL : List DV → List PV
  | [] => []
  | x :: xs => x.p :: pL xs
end
def bP : DBs → PBs
  | [] => []
  | some b :: bs => some ⟨b.ty, pL b.cells⟩ :: bP bs
  | none :: bs => none :: bP bs
def DR.p : DR → RS
  | .own e t l => .own e t.size (l.map fun x => t.enc x)
  | .itr s p => .ob (.stringIter s p.toNat)
  | .dead => .dead
def rP : List DR → List RS
  | [] => []
  | r :: rs => r.p :: rP rs

/-! ### The evaluator -/
variable {β : Type}
abbrev DK (β : Type) := List DV → DBs → List DR → Option β
def gtV : List DV → Nat → Option DV
  | [], _ => some (.x .und)
  | p :: _, 0 => match p with
    | .junk => none
    | .x y => match y with
      | .junk => none
      | y => some (.x y)
    | p => some p
  | _ :: ps, n + 1 => gtV ps n
def setE : List DV → Nat → DV → (List DV → Option β) → Option β
  | [], _, _, K => K []
  | _ :: ps, 0, y, K => K (y :: ps)
  | p :: ps, n + 1, y, K => setE ps n y fun l => K (p :: l)
def opV (ts : List DV) (o : Operand) : Option DV :=
  match o with
  | .tmp t => gtV ts t
  | .const c => some (.x (ofConst c))
  | .global g => some (.x (.ptr ⟨g, 0, none⟩))
  | .func f => some (.fn f [])
def opsV (ts : List DV) : List Operand → Option (List DV)
  | [] => some []
  | o :: os => match opV ts o with
    | some x => match opsV ts os with | some xs => some (x :: xs) | none => none
    | none => none
def subV : List DV → Nat → Nat → Option (List DV)
  | x :: xs, o + 1, n => subV xs o n
  | _, 0, 0 => some []
  | x :: xs, 0, n + 1 => match subV xs 0 n with | some l => some (x :: l) | none => none
  | [], _, _ => none
def wrE : List DV → Nat → List DV → (List DV → Option β) → Option β
  | xs, _, [], K => K xs
  | xs, off, v :: vs, K => setE xs off v fun l => wrE l (off + 1) vs K
def dbV : DBs → Nat → Option DB
  | [], _ => none
  | o :: _, 0 => o
  | _ :: xs, n + 1 => dbV xs n
def setDB : DBs → Nat → Option DB → (DBs → Option β) → Option β
  | [], _, _, K => K []
  | _ :: xs, 0, y, K => K (y :: xs)
  | x :: xs, n + 1, y, K => setDB xs n y fun l => K (x :: l)
def unbornV : DBs → Nat → Bool
  | [], _ => false
  | o :: _, 0 => match o with | some _ => false | none => true
  | _ :: xs, n + 1 => unbornV xs n
def drV : List DR → Nat → Option DR
  | [], _ => none
  | r :: _, 0 => some r
  | _ :: rs, n + 1 => drV rs n
def setDR : List DR → Nat → DR → (List DR → Option β) → Option β
  | [], _, _, K => K []
  | _ :: rs, 0, y, K => K (y :: rs)
  | r :: rs, n + 1, y, K => setDR rs n y fun l => K (r :: l)
def litE (n : Nat) (K : Nat → Option β) : Option β :=
  match n with
  | 0 => K 0
  | 1 => K 1
  | 2 => K 2
  | 3 => K 3
  | 4 => K 4
  | 5 => K 5
  | 6 => K 6
  | 7 => K 7
  | 8 => K 8
  | 9 => K 9
  | 10 => K 10
  | 11 => K 11
  | n => K n
def pushE {α : Type} : List α → α → (List α → Option β) → Option β
  | [], y, K => K [y]
  | x :: xs, y, K => pushE xs y fun l => K (x :: l)
mutual
def DV.subE (f : Nat → Option DV) : DV → (DV → Option β) → Option β
  | .row i, K => match f i with | some p => K p | none => K (.row i)
  | .re i a b, K => match f i with | some _ => K .junk | none => K (.re i a b)
  | .ob i, K => match f i with | some _ => K .junk | none => K (.ob i)
  | .fn g cs, K => subLE f cs fun cs => K (.fn g cs)
  | .agg xs, K => subLE f xs fun xs => K (.agg xs)
  | .tup xs, K => subLE f xs fun xs => K (.tup xs)
  | .x y, K => K (.x y)
  | .sl t l, K => K (.sl t l)
  | .el t x o, K => K (.el t x o)
  | .own i o, K => K (.own i o)
  | .junk, K => K .junk
def subLE (f : Nat → Option DV) : List DV → (List DV → Option β) → Option β
  | [], K => K []
  | p :: ps, K => p.subE f fun p => subLE f ps fun ps => K (p :: ps)
end
def subBE (f : Nat → Option DV) : DBs → (DBs → Option β) → Option β
  | [], K => K []
  | some ⟨t, cs, w⟩ :: ps, K => subLE f cs fun cs => subBE f ps fun ps => K (some ⟨t, cs, w⟩ :: ps)
  | none :: ps, K => subBE f ps fun ps => K (none :: ps)
def oneD (j : Nat) (p : DV) : Nat → Option DV := fun i => match Nat.beq i j with | true => some p | false => none
def norowD : Nat → Option DV := fun _ => some .junk

def flatV : List DV → Option (List XV)
  | [] => some []
  | p :: ps => match p with
    | .x y => match flatV ps with | some l => some (y :: l) | none => none
    | _ => none
def partsV (ts : List DV) : List (Nat × Operand) → Option (List (Nat × DV))
  | [] => some []
  | (i, o) :: ps => match opV ts o with
    | some x => match partsV ts ps with | some xs => some ((i, x) :: xs) | none => none
    | none => none
def oneX (y : XV) : Bool :=
  match y with
  | .v y => oneC y
  | .agg _ => false
  | .tup _ => false
  | .und => false
  | .junk => false
  | _ => true
/-- what stands in one cell -/
def oneD1 (p : DV) : Bool :=
  match p with
  | .x y => oneX y
  | .agg _ => false
  | .tup _ => false
  | .junk => false
  | _ => true
def cellsV (x : DV) : Option (List DV) :=
  match x with
  | .agg xs => some xs
  | x => match oneD1 x with | true => some [x] | false => none
def oneDL : List DV → Bool
  | [] => true
  | p :: ps => match oneD1 p with | true => oneDL ps | false => false
def tiV : List TI → Nat → Option TI
  | [], _ => none
  | ti :: _, 0 => match ti.ok with | true => some ti | false => none
  | _ :: T, n + 1 => tiV T n
def fldV : List (Nat × Nat × Nat) → Nat → Option (Nat × Nat × Nat)
  | [], _ => none
  | (off, ty, sz) :: _, 0 => match sz with | 0 => none | n + 1 => some (off, ty, n + 1)
  | _ :: fs, i + 1 => fldV fs i
def posV : List (Nat × Nat × Nat) → Bool
  | [] => true
  | (_, _, sz) :: fs => match sz with | 0 => false | _ + 1 => posV fs
def fillE (fs : List (Nat × Nat × Nat)) : List DV → List (Nat × DV) → (List DV → Option β) → Option β
  | cells, [], K => K cells
  | cells, (i, x) :: ps, K => match fldV fs i with
    | some (off, _, sz) => match cellsV x with
      | some cs => match Nat.beq cs.length sz, subV cells off sz with
        | true, some _ => wrE cells off cs fun cells => fillE fs cells ps K
        | _, _ => none
      | none => none
    | none => none
def constV : List Value → List DV
  | [] => []
  | x :: xs => .x (ofConst x) :: constV xs
def opOV (ts : List DV) (o : Option Operand) : Option (Option DV) :=
  match o with
  | none => some none
  | some o => match opV ts o with | some x => some (some x) | none => none

/-! words that stay in what is lifted -/
def idxF {α : Type} (l : List α) (i : Int) (K : α → Option β) : Option β :=
  match l[i.toNat]? with
  | some x => bif decide (0 ≤ i) then K x else none
  | none => none
def idxR {α : Type} (l : List α) (i : Nat) (K : α → Option β) : Option β :=
  match l[i]? with
  | some x => K x
  | none => none
def bndF (i : Int) (n : Nat) (K : Nat → Option β) : Option β := bif decide (0 ≤ i) && decide (i ≤ (n : Int)) then K i.toNat else none
def nzF (b : Int) (K : Option β) : Option β := bif decide (b = 0) then none else K
def nnF (b : Int) (K : Option β) : Option β := bif decide (0 ≤ b) then K else none
def roomF (n b : Nat) (K : Option β) : Option β := bif decide (n ≤ 281474976710656) && decide (n * b ≤ 140737488355328) then K else none
def strF (n : Int) (K : Option β) : Option β := bif decide (n ≤ 9223372036854775807) then K else none
/-- a string's byte -/
def sidxF (s : ByteArray) (i : Int) (K : Int → Option β) : Option β := bif decide (0 ≤ i) then (match s[i.toNat]? with | some b => K (b.toNat : Int) | none => none) else none
/-- the next letter of a string: which it is, where the one behind it begins -/
def nextF (s : ByteArray) (p : Int) (K : Int → Int → Option β) (N : Option β) : Option β := bif decide (p.toNat < s.size) then K ((Utf8.decode s p.toNat).1 : Int) ((p.toNat + (Utf8.decode s p.toNat).2 : Nat) : Int) else N
def joinF {X : Type} (k : X → Option β) (f : (X → Option β) → Option β) : Option β := f k
def loopF {X : Type} : Nat → (X → (X → Option β) → Option β) → X → Option β
  | 0, _, _ => none
  | n + 1, f, z => f z (loopF n f)
open Classical in
noncomputable def bothF (a b : Option β) : Option β := if a = b then a else none
/-- whether a slice is nil, of which is known whether it has elements -/
noncomputable def nilF (e : Bool) (f : Bool → Option β) : Option β := bif e then bothF (f true) (f false) else f false
theorem FU_ex : ∃ n : Nat, n = 18446744073709551616 := ⟨_, rfl⟩
/-- a number of rounds that no loop needs -/
noncomputable def FU : Nat := Classical.choose FU_ex
theorem FU_eq : FU = 18446744073709551616 := Classical.choose_spec FU_ex
/-- these words: for what is lifted they are whatever they may be -/
structure Wd : Type 1 where
  cnd : {β : Type} → Bool → Option β → Option β → Option β
  idx : {α β : Type} → List α → Int → (α → Option β) → Option β
  nth : {α β : Type} → List α → Nat → (α → Option β) → Option β
  bnd : {β : Type} → Int → Nat → (Nat → Option β) → Option β
  nz : {β : Type} → Int → Option β → Option β
  nn : {β : Type} → Int → Option β → Option β
  room : {β : Type} → Nat → Nat → Option β → Option β
  str : {β : Type} → Int → Option β → Option β
  join : {X β : Type} → (X → Option β) → ((X → Option β) → Option β) → Option β
  loop : {X β : Type} → (X → (X → Option β) → Option β) → X → Option β
  both : {β : Type} → Option β → Option β → Option β
  call : {α β : Type} → Option α → (α → Option β) → Option β
  nilq : {β : Type} → Bool → (Bool → Option β) → Option β
  sidx : {β : Type} → ByteArray → Int → (Int → Option β) → Option β
  next : {β : Type} → ByteArray → Int → (Int → Int → Option β) → Option β → Option β
@[reducible] noncomputable def stdW : Wd where
  cnd := fun c a b => bif c then a else b
  idx := idxF
  nth := idxR
  bnd := bndF
  nz := nzF
  nn := nnF
  room := roomF
  str := strF
  join := joinF
  loop := loopF FU
  both := bothF
  call := Option.bind
  nilq := nilF
  sidx := sidxF
  next := nextF

def bndD (W : Wd) (o : Option DV) (dflt bound : Nat) (K : Nat → Option β) : Option β :=
  match o with
  | none => K dflt
  | some (.x (.int _ i)) => W.bnd i bound K
  | _ => none

def intBinD (W : Wd) (op : BinOp) (k : IntKind) (a b : Int) (ret : XV → Option β) : Option β :=
  match op with
  | .add => ret (.int k (k.wrap (a + b)))
  | .sub => ret (.int k (k.wrap (a - b)))
  | .mul => ret (.int k (k.wrap (a * b)))
  | .quo => W.nz b (ret (.int k (k.wrap (a.tdiv b))))
  | .rem => W.nz b (ret (.int k (a.tmod b)))
  | .and => ret (.int k (bits .and k a b))
  | .or => ret (.int k (bits .or k a b))
  | .xor => ret (.int k (bits .xor k a b))
  | .eql => ret (.bool (a == b))
  | .neq => ret (.bool (a != b))
  | .lss => ret (.bool (decide (a < b)))
  | .leq => ret (.bool (decide (a ≤ b)))
  | .gtr => ret (.bool (decide (b < a)))
  | .geq => ret (.bool (decide (b ≤ a)))
  | _ => none
def leafV (l : LK) (x y : XV) : Option Bool :=
  match l, x, y with
  | .int _, .int k a, .int k' b => match eqk k k' with | true => some (a == b) | false => none
  | .bool, .bool a, .bool b => some (a == b)
  | .bool, .lit a, .bool b => some (a == b)
  | .bool, .bool a, .lit b => some (a == b)
  | .bool, .lit a, .lit b => some (a == b)
  | .str, .str a, .str b => some (a.toList == b.toList)
  | _, _, _ => none
def cmpXV : List LK → List XV → List XV → Option Bool
  | [l], [x], [y] => leafV l x y
  | l :: ls, x :: xs, y :: ys => match leafV l x y with
    | some r => match cmpXV ls xs ys with | some r' => some (r && r') | none => none
    | none => none
  | _, _, _ => none
def tdV (T : List TI) (t : TypeId) : Option TD := match tiV T t with | some ti => some ti.td | none => none
def eqXV (T : List TI) (neg : Bool) (t : TypeId) (a b : XV) : Option XV :=
  match a, b with
  | .str s, .str u => some (.bool (notIf neg (s.toList == u.toList)))
  | .agg xs, .agg ys => match tiV T t with
    | some ti => match ti.leaves, ti.td with
      | some ls, .struct _ => match cmpXV ls xs ys with | some r => some (.bool (notIf neg r)) | none => none
      | _, _ => none
    | none => none
  | .bool x, .bool y => match tdV T t with | some .bool => some (.bool (notIf neg (x == y))) | _ => none
  | .bool x, .lit y => match tdV T t with | some .bool => some (.bool (notIf neg (x == y))) | _ => none
  | .lit x, .bool y => match tdV T t with | some .bool => some (.bool (notIf neg (x == y))) | _ => none
  | .lit x, .lit y => match tdV T t with | some .bool => some (.bool (notIf neg (x == y))) | _ => none
  | .v (.pointer none), .v (.pointer none) => match tdV T t with | some (.ptr _) => some (.lit (!neg)) | _ => none
  | .slc x _ _, .slc none 0 0 => match tdV T t with | some (.slice _) => some (.bool (notIf neg x.isNone)) | _ => none
  | _, _ => none
def binXE (W : Wd) (T : List TI) (op : BinOp) (t : TypeId) (a b : XV) (ret : XV → Option β) : Option β :=
  match op, a, b with
  | .shl, .int k x, .int _ y => W.nn y (ret (.int k (k.wrap (x * 2 ^ (min y.toNat k.bits)))))
  | .shr, .int k x, .int _ y => W.nn y (ret (.int k (x.fdiv (2 ^ (min y.toNat k.bits)))))
  | op, .int k x, .int k' y => match eqk k k' with | true => intBinD W op k x y ret | false => none
  | .add, .str s, .str u => W.str ((s.size : Int) + u.size) (ret (.str (s ++ u)))
  | .eql, a, b => match eqXV T false t a b with | some y => ret y | none => none
  | .neq, a, b => match eqXV T true t a b with | some y => ret y | none => none
  | _, _, _ => none
def binE (W : Wd) (T : List TI) (op : BinOp) (t : TypeId) (a b : DV) (ret : DV → Option β) : Option β :=
  match a, b with
  | .x y, .x z => binXE W T op t y z fun r => ret (.x r)
  | .agg ps, .agg qs => match flatV ps, flatV qs with
    | some ys, some zs => binXE W T op t (.agg ys) (.agg zs) fun r => ret (.x r)
    | _, _ => none
  | .own _ _, .x (.v (.pointer none)) => match tdV T t, op with
    | some (.ptr _), .eql => ret (.x (.lit false))
    | some (.ptr _), .neq => ret (.x (.lit true))
    | _, _ => none
  | _, _ => none
def argTyV (T : List TI) (ats : Array TypeId) : Option TD :=
  match ats.toList with
  | [t] => tdV T t
  | _ => none
def lenV (xs : List DV) (rw : List DR) : Option Nat :=
  match xs with
  | [.sl _ l] => some l.length
  | [.row j] => match drV rw j with | some (.own _ _ l) => some l.length | _ => none
  | [.x (.slc none 0 0)] => some 0
  | _ => none
def builtinE (T : List TI) (b : Builtin) (ats : Array TypeId) (xs : List DV) (rw : List DR) (ret : DV → Option β) : Option β :=
  match b with
  | .len => match argTyV T ats with
    | some (.slice _) => match lenV xs rw with | some n => ret (.x (.int .i64 (n : Nat))) | none => none
    | some .string => match xs with | [.x (.str s)] => ret (.x (.int .i64 s.size)) | _ => none
    | _ => none
  | .max => match xs with | [.x (.int k x), .x (.int _ y)] => ret (.x (.int k (if y > x then y else x))) | _ => none
  | .min => match xs with | [.x (.int k x), .x (.int _ y)] => ret (.x (.int k (if y < x then y else x))) | _ => none
  | _ => none
def pickV (g : Bool) (a b : XV) : Option XV :=
  match a, b with
  | .lit true, .bool y => some (.bool (g || y))
  | .bool x, .lit false => some (.bool (g && x))
  | .lit true, .lit y => some (.bool (g || y))
  | .lit false, .lit y => some (.bool (!g && y))
  | .bool x, .lit y => some (.bool (bif g then x else y))
  | .lit x, .bool y => some (.bool (bif g then x else y))
  | .bool x, .bool y => some (.bool (bif g then x else y))
  | _, _ => none
def unV (op : UnOp) (a : XV) : Option XV :=
  match op, a with
  | .not, .bool b => some (.bool (!b))
  | .not, .lit b => some (.lit (!b))
  | .neg, .int k n => some (.int k (k.wrap (0 - n)))
  | .xor, .int k n => some (.int k (bits .xor k (if k.signed then -1 else k.max) n))
  | _, _ => none
def o1 (o : Option DV) (K : DV → Option β) : Option β := match o with | some x => K x | none => none
def purE (W : Wd) (T : List TI) (op : Op) (ts : List DV) (rw : List DR) (ret : DV → Option β) : Option β :=
  match op with
  | .move x => o1 (opV ts x) ret
  | .assign x => o1 (opV ts x) ret
  | .pick c a b => o1 (opV ts c) fun c => match c with
    | .x (.lit true) => o1 (opV ts a) ret
    | .x (.lit false) => o1 (opV ts b) ret
    | .x (.bool g) => o1 (opV ts a) fun a => o1 (opV ts b) fun b => match a, b with
      | .x a, .x b => match pickV g a b with | some r => ret (.x r) | none => none
      | _, _ => none
    | _ => none
  | .nilCheck x => o1 (opV ts x) fun p => match p with
    | .own i o => ret (.own i o)
    | .el t x o => ret (.el t x o)
    | .re j i o => ret (.re j i o)
    | .fn f cs => ret (.fn f cs)
    | _ => none
  | .binOp op t x y _ => o1 (opV ts x) fun a => o1 (opV ts y) fun b => binE W T op t a b ret
  | .unOp op _ x => o1 (opV ts x) fun a => match a with
    | .x a => match unV op a with | some r => ret (.x r) | none => none
    | _ => none
  | .convert src dst x => o1 (opV ts x) fun a => match tiV T src, tdV T dst, a with
    | some _, some (.int k), .x (.int _ n) => ret (.x (.int k (k.wrap n)))
    | some _, some .string, .x (.str s) => ret (.x (.str s))
    | _, _, _ => none
  | .fieldAddr s x f => o1 (opV ts x) fun a => match tdV T s with
    | some (.struct fs) => match fldV fs f with
      | some (off, _, _) => match a with
        | .own i o' => ret (.own i (o' + off))
        | .el t x o' => ret (.el t x (o' + off))
        | .re j i o' => ret (.re j i (o' + off))
        | _ => none
      | none => none
    | _ => none
  | .field s x f => o1 (opV ts x) fun a => match tdV T s, a with
    | some (.struct fs), .agg xs => match fldV fs f with
      | some (off, ty, sz) => match tiV T ty with
        | some tf => match tf.agg with
          | true => match subV xs off sz with | some l => ret (.agg l) | none => none
          | false => match subV xs off 1 with | some [x] => ret x | _ => none
        | none => none
      | none => none
    | _, _ => none
  | .indexAddr t x ix => o1 (opV ts x) fun a => o1 (opV ts ix) fun i => match tdV T t, a, i with
    | some (.slice e), .sl t' l, .x (.int _ i) => match tiV T e with
      | some te => match Nat.beq te.size t'.size, Nat.blt 0 t'.size with
        | true, true => W.idx l i fun x => ret (.el t' x 0)
        | _, _ => none
      | none => none
    | some (.slice e), .row j, .x (.int _ i) => match tiV T e, drV rw j with
      | some te, some (.own _ t' l) => match Nat.beq te.size t'.size, Nat.blt 0 t'.size with
        | true, true => W.idx l i fun _ => ret (.re j i.toNat 0)
        | _, _ => none
      | _, _ => none
    | _, _, _ => none
  | .extract t i => o1 (opV ts t) fun a => match a with
    | .tup xs => match subV xs i 1 with | some [x] => ret x | _ => none
    | _ => none
  | .slice t x lo hi mx => o1 (opV ts x) fun a => match opOV ts lo, opOV ts hi with
    | some lo, some hi => match tdV T t, a, mx with
      | some (.slice e), .sl t' l, none => match tiV T e with
        | some te => match Nat.beq te.size t'.size with
          | true => match lo with
            | none => bndD W hi l.length l.length fun h => ret (.sl t' (l.take h))
            | some lo => bndD W hi l.length l.length fun h => bndD W (some lo) 0 h fun k => ret (.sl t' ((l.take h).drop k))
          | false => none
        | none => none
      | some .string, .x (.str s), none => bndD W hi s.size s.size fun h => bndD W lo 0 h fun l => ret (.x (.str (s.extract l h)))
      | _, _, _ => none
    | _, _ => none
  | .build t parts => match partsV ts parts.toList with
    | some ps => match tiV T t with
      | some ti => match ti.td, ti.zero with
        | .struct fs, z :: zs => match posV fs with
          | true => fillE fs (constV (z :: zs)) ps fun cells => ret (.agg cells)
          | false => none
        | _, _ => none
      | none => none
    | none => none
  | .makeFunc fn first caps => match fn, first.toList with
    | .func f, [] => match opsV ts caps.toList with | some cs => ret (.fn f cs) | none => none
    | _, _ => none
  | .call c => match c.callee with
    | .builtin b => match opsV ts c.args.toList with | some xs => builtinE T b c.argTypes xs rw ret | none => none
    | _ => none
  | _ => none

def loadE (W : Wd) (T : List TI) (t : TypeId) (A : DV) (pb : DBs) (rw : List DR) (ret : DV → Option β) : Option β :=
  match tiV T t with
  | some ti => match A with
    | .own i off => match dbV pb i with
      | some b => match ti.agg with
        | true => match subV b.cells off ti.size with | some l => ret (.agg l) | none => none
        | false => match subV b.cells off 1 with | some [x] => ret x | _ => none
      | none => none
    | .el t' x off => match ti.agg, ti.size with
      | true, n + 1 => match subV (t'.cells x []) off (n + 1) with | some l => ret (.agg l) | none => none
      | false, _ => match subV (t'.cells x []) off 1 with | some [x] => ret x | _ => none
      | _, _ => none
    | .re j i off => match drV rw j with
      | some (.own _ t' l) => W.nth l i fun x => match ti.agg, ti.size with
        | true, n + 1 => match subV (t'.cells x []) off (n + 1) with | some l => ret (.agg l) | none => none
        | false, _ => match subV (t'.cells x []) off 1 with | some [x] => ret x | _ => none
        | _, _ => none
      | _ => none
    | _ => none
  | none => none

/-- a row's elements -/
def ofVs (t : DT) : List (Nat × DV) → Nat → Option (List t.den)
  | [], _ => some []
  | (i, p) :: ps, n => match Nat.beq i n, t.ofV p with
    | true, some x => match ofVs t ps (n + 1) with | some l => some (x :: l) | none => none
    | _, _ => none
mutual
def DV.rows : DV → List Nat → List Nat
  | .row j, acc => j :: acc
  | .fn _ cs, acc => rowsDL cs acc
  | .agg cs, acc => rowsDL cs acc
  | .tup cs, acc => rowsDL cs acc
  | _, acc => acc
def rowsDL : List DV → List Nat → List Nat
  | [], acc => acc
  | p :: ps, acc => p.rows (rowsDL ps acc)
end
def frzE (nl : Nat) : List Nat → List DV → DBs → List DR → List DV → (List DV → DBs → List DR → List DV → Option β) → Option β
  | [], ts, pb, rw, ps, K => K ts pb rw ps
  | j :: js, ts, pb, rw, ps, K => match drV rw j with
    | some (.own _ t l) => match Nat.ble nl j with
      | true => subLE (oneD j (.sl t l)) ts fun ts => subBE (oneD j (.sl t l)) pb fun pb => subLE (oneD j (.sl t l)) ps fun ps => setDR rw j .dead fun rw => frzE nl js ts pb rw ps K
      | false => none
    | _ => frzE nl js ts pb rw ps K
def retE (dst : Option Tmp) (x : DV) (ts : List DV) (pb : DBs) (rw : List DR) (K : DK β) : Option β :=
  match dst with
  | none => K ts pb rw
  | some d => setE ts d x fun l => K l pb rw
/-- results -/
inductive QT where
  | v (t : DT)
  | own (e : TypeId) (t : DT)
  | unit
  | pair (a b : QT)
@[reducible] def QT.den : QT → Type
  | .v t => t.den
  | .own _ t => List t.den
  | .unit => Unit
  | .pair a b => a.den × b.den
structure ES where
  P : DT
  Q : QT
  fn : P.den → Option Q.den
/-! functions that are lent boxes -/
inductive PK where
  | v (t : DT)
  | ptr
  | fn (g n : Nat)
  | row (e : TypeId) (t : DT)
inductive CK where
  | v (t : DT)
  | row (e : TypeId) (t : DT)
structure BK where
  ty : TypeId
  cells : List CK
def pkT : List PK → DT → DT
  | [], r => r
  | d :: l, r => match d with
    | .v t => .pair t (pkT l r)
    | .ptr => pkT l r
    | .fn _ _ => pkT l r
    | .row _ _ => pkT l r
/-- the rows that are handed over: their data stand behind those of the boxes -/
def rowC : List PK → List CK
  | [] => []
  | d :: l => match d with
    | .row e t => .row e t :: rowC l
    | .v _ => rowC l
    | .ptr => rowC l
    | .fn _ _ => rowC l
def ckT : List CK → DT → DT
  | [], r => r
  | d :: l, r => match d with
    | .v t => .pair t (ckT l r)
    | .row _ t => .pair (.slc t) (ckT l r)
def bkT : List BK → DT → DT
  | [], r => r
  | B :: l, r => ckT B.cells (bkT l r)
inductive LQT where
  | q (Q : QT)
  | ptr (k : Nat)
  | obj (B : BK)
@[reducible] def LQT.den : LQT → Type
  | .q Q => Q.den
  | .ptr _ => Unit
  | .obj B => (ckT B.cells .unit).den
structure LS where
  P : List PK
  B : List BK
  E : List BK
  Q : LQT
  fn : (pkT P (bkT B (ckT (rowC P) .unit))).den → Option (Q.den × (bkT E .unit).den)
def tysE : List BK → List BK → Bool
  | [], l => match l with | [] => true | _ => false
  | B :: l, l' => match l' with | E :: l' => Nat.beq B.ty E.ty && tysE l l' | [] => false
inductive EC where
  | es (s : ES)
  | ls (s : LS)
abbrev ESs := List (Nat × EC)
def esV : ESs → Nat → Option EC
  | [], _ => none
  | (n, s) :: ss, f => match Nat.beq n f with | true => some s | false => esV ss f
/-- which arguments are handed over -/
def takesE (n : Nat) : Nat → List PK → List Nat
  | _, [] => []
  | i, d :: l => match d with
    | .row _ _ => takesN n i :: takesE n (i + 1) l
    | .v _ => takesE n (i + 1) l
    | .ptr => takesE n (i + 1) l
    | .fn _ _ => takesE n (i + 1) l
def keysE : ESs → List Nat
  | [] => []
  | (n, s) :: ss => match s with
    | .es _ => keysE ss
    | .ls s => takesE n 0 s.P ++ keysE ss
def keysF : ESs → List Nat
  | [] => []
  | (n, _) :: ss => n :: keysF ss
def rowsAV (C : ESs) (g : Nat) : Nat → List DV → List Nat → List Nat
  | _, [], acc => acc
  | i, p :: ps, acc => match memN (takesN g i) (keysF C ++ keysE C) with | true => rowsAV C g (i + 1) ps acc | false => p.rows (rowsAV C g (i + 1) ps acc)
def ofA : (P : DT) → List DV → Option P.den
  | .unit, vs => match vs with | [] => some () | _ => none
  | .pair a b, vs => match vs with
    | v :: vs => match a.ofV v, ofA b vs with | some x, some y => some (x, y) | _, _ => none
    | _ => none
  | _, _ => none
def argVs : (P : DT) → P.den → List DV
  | .pair a b, x => a.val x.1 :: argVs b x.2
  | _, _ => []
def resQ : (Q : QT) → Q.den → List DR → (DV → List DR → Option β) → Option β
  | .v t, x, rw, K => K (t.val x) rw
  | .own e t, l, rw, K => pushE rw (.own e t l) fun rw' => litE rw.length fun n => K (.row n) rw'
  | _, _, _, _ => none
def resQs : (Q : QT) → Q.den → List DR → (List DV → List DR → Option β) → Option β
  | .unit, _, rw, K => K [] rw
  | .pair a b, x, rw, K => resQ a x.1 rw fun v rw => resQs b x.2 rw fun vs rw => K (v :: vs) rw
  | _, _, _, _ => none
def resT (Q : QT) (q : Q.den) (rw : List DR) (K : DV → List DR → Option β) : Option β :=
  match Q, q with
  | .v t, x => K (t.val x) rw
  | .own e t, l => resQ (.own e t) l rw K
  | .unit, q => K (.tup []) rw
  | .pair a b, q => resQs (.pair a b) q rw fun vs rw => K (.tup vs) rw
/-- what is lent -/
def capsOwnV : List DV → List DV
  | [] => []
  | p :: ps => match p with
    | .fn _ cs => cs ++ capsOwnV ps
    | p => p :: capsOwnV ps
def ownsOkV (al : Nat → Bool) : List DV → Bool
  | [] => true
  | .own i _ :: ps => al i && ownsOkV al ps
  | _ :: ps => ownsOkV al ps
def boxCs : DBs → Nat → List DV
  | [], _ => []
  | o :: _, 0 => match o with | some b => b.cells | none => []
  | _ :: pb, n + 1 => boxCs pb n
def lentRV (pb : DBs) : List DV → List Nat
  | [] => []
  | .own i _ :: ps => rowsDL (boxCs pb i) (lentRV pb ps)
  | p :: ps => p.rows (lentRV pb ps)
def lentFV (js : List Nat) : Nat → Option DV := fun j => match memN j js with | true => some .junk | false => none
def idsC : Nat → List DV → Option (List Nat)
  | 0, cs => match cs with | [] => some [] | _ => none
  | n + 1, cs => match cs with
    | .own i o :: cs => match o, idsC n cs with | 0, some ids => some (i :: ids) | _, _ => none
    | _ => none
def idsV : List PK → List DV → Option (List Nat)
  | [], vs => match vs with | [] => some [] | _ => none
  | .v _ :: l, vs => match vs with | _ :: vs => idsV l vs | _ => none
  | .ptr :: l, vs => match vs with
    | .own i o :: vs => match o, idsV l vs with | 0, some ids => some (i :: ids) | _, _ => none
    | _ => none
  | .fn g n :: l, vs => match vs with
    | .fn g' cs :: vs => match Nat.beq g' g, idsC n cs, idsV l vs with | true, some a, some b => some (a ++ b) | _, _, _ => none
    | _ => none
  | .row _ _ :: l, vs => match vs with | _ :: vs => idsV l vs | _ => none
def rowVs : List PK → List DV → List DV
  | [], _ => []
  | .row _ _ :: l, vs => match vs with | v :: vs => v :: rowVs l vs | [] => []
  | .v _ :: l, vs => match vs with | _ :: vs => rowVs l vs | [] => []
  | .ptr :: l, vs => match vs with | _ :: vs => rowVs l vs | [] => []
  | .fn _ _ :: l, vs => match vs with | _ :: vs => rowVs l vs | [] => []
def pkX : (l : List PK) → (r : DT) → List DV → r.den → Option (pkT l r).den
  | [], _, _, y => some y
  | .v t :: l, r, vs, y => match vs with
    | v :: vs => match t.ofV v, pkX l r vs y with | some x, some z => some (x, z) | _, _ => none
    | _ => none
  | .ptr :: l, r, vs, y => match vs with | _ :: vs => pkX l r vs y | _ => none
  | .fn _ _ :: l, r, vs, y => match vs with | _ :: vs => pkX l r vs y | _ => none
  | .row _ _ :: l, r, vs, y => match vs with | _ :: vs => pkX l r vs y | _ => none
def ckX : (l : List CK) → (r : DT) → List DV → List DR → (List DR → Option (r.den × List DR)) → Option ((ckT l r).den × List DR)
  | [], _, cs, rw, k => match cs with | [] => k rw | _ => none
  | .v t :: l, r, cs, rw, k => match cs with
    | c :: cs => match t.ofV c, ckX l r cs rw k with | some x, some (y, rw) => some ((x, y), rw) | _, _ => none
    | _ => none
  | .row e t :: l, r, cs, rw, k => match cs with
    | .row j :: cs => match drV rw j with
      | some (.own e' t' xs) => match Nat.beq e' e, t'.same t, ckX l r cs (rw.set j .dead) k with
        | true, some ⟨h⟩, some (y, rw) => some ((DT.castL h xs, y), rw)
        | _, _, _ => none
      | _ => none
    | .x (.slc none 0 0) :: cs => match ckX l r cs rw k with | some (y, rw) => some (([], y), rw) | none => none
    | _ => none
def bkX : (l : List BK) → (r : DT) → List DV → List DR → (List DR → Option (r.den × List DR)) → Option ((bkT l r).den × List DR)
  | [], _, olds, rw, k => match olds with | [] => k rw | _ => none
  | B :: l, r, olds, rw, k => match olds with
    | .agg cs :: olds => ckX B.cells (bkT l r) cs rw fun rw => bkX l r olds rw k
    | _ => none
def lgetV : List BK → List Nat → DBs → Option (List DV)
  | [], ids, _ => match ids with | [] => some [] | _ => none
  | B :: l, ids, pb => match ids with
    | i :: ids => match dbV pb i with
      | some b => match Nat.beq b.ty B.ty, lgetV l ids pb with | true, some vs => some (.agg b.cells :: vs) | _, _ => none
      | none => none
    | [] => none
def ckF : (l : List CK) → (r : DT) → (ckT l r).den → List DV → List DR → (List DV → r.den → List DR → Option β) → Option β
  | [], _, z, cs, rw, K => match cs with | [] => K [] z rw | _ => none
  | .v t :: l, r, z, cs, rw, K => match cs with
    | _ :: cs => match t.agg with | false => ckF l r z.2 cs rw fun vs y rw => K (t.val z.1 :: vs) y rw | true => none
    | _ => none
  | .row e t :: l, r, z, cs, rw, K => match cs with
    | c :: cs => match c with
      | .row j => match drV rw j with
        | some .dead => setDR rw j (.own e t z.1) fun rw => ckF l r z.2 cs rw fun vs y rw => K (.row j :: vs) y rw
        | _ => none
      | _ => pushE rw (.own e t z.1) fun rw' => litE rw.length fun n => ckF l r z.2 cs rw' fun vs y rw => K (.row n :: vs) y rw
    | _ => none
def bkF : (l : List BK) → (r : DT) → (bkT l r).den → List Nat → List DV → DBs → List DR → (r.den → DBs → List DR → Option β) → Option β
  | [], _, z, _, _, pb, rw, K => K z pb rw
  | B :: l, r, z, ids, olds, pb, rw, K => match ids, olds with
    | i :: ids, .agg cs :: olds => ckF B.cells (bkT l r) z cs rw fun vs y rw => match dbV pb i with
      | some b => setDB pb i (some ⟨b.ty, vs, true⟩) fun pb => bkF l r y ids olds pb rw K
      | none => none
    | _, _ => none
def ckS : (l : List CK) → (r : DT) → (ckT l r).den → List DR → (List DV → r.den → List DR → Option β) → Option β
  | [], _, z, rw, K => K [] z rw
  | .v t :: l, r, z, rw, K => match t.agg with
    | false => ckS l r z.2 rw fun vs y rw => K (t.val z.1 :: vs) y rw
    | true => none
  | .row e t :: l, r, z, rw, K => pushE rw (.own e t z.1) fun rw' => litE rw.length fun n => ckS l r z.2 rw' fun vs y rw => K (.row n :: vs) y rw
def ndV : List Nat → Bool
  | [] => true
  | n :: l => !memN n l && ndV l
/-- a row that a function was handed, and answers, stays where it was -/
def resF (rs : List DV) (Q : QT) (q : Q.den) (rw : List DR) (K : DV → List DR → Option β) : Option β :=
  match rs with
  | p :: _ => match p with
    | .row j => match Q, q with
      | .own e t, l => match drV rw j with
        | some .dead => setDR rw j (.own e t l) fun rw => K (.row j) rw
        | _ => none
      | Q, q => resT Q q rw K
    | _ => resT Q q rw K
  | [] => resT Q q rw K
def callLV (W : Wd) (s : LS) (nl : Nat) (xs : List DV) (pb : DBs) (rw : List DR) (K : DV → DBs → List DR → Option β) : Option β :=
  match nl, idsV s.P xs with
  | 0, some ids => match ndV ids, lgetV s.B ids pb with
    | true, some olds => match bkX s.B (ckT (rowC s.P) .unit) olds rw (fun rw => ckX (rowC s.P) .unit (rowVs s.P xs) rw fun rw => some ((), rw)) with
      | some (z, rw1) => match pkX s.P (bkT s.B (ckT (rowC s.P) .unit)) xs z with
        | some z => subBE (lentFV (lentRV pb (capsOwnV xs))) pb fun pb1 => W.call (s.fn z) fun o => bkF s.E .unit o.2 ids olds pb1 rw1 fun _ pb2 rw2 => match s.Q, o.1 with
          | .q Q, q => resF (rowVs s.P xs) Q q rw2 fun v rw3 => K v pb2 rw3
          | .ptr k, _ => match ids[k]? with | some i => K (.own i 0) pb2 rw2 | none => none
          | .obj B, x => ckS B.cells .unit x rw2 fun vs _ rw3 => pushE pb2 (some ⟨B.ty, vs, true⟩) fun pb3 => litE pb2.length fun n => K (.own n 0) pb3 rw3
        | none => none
      | none => none
    | _, _ => none
  | _, _ => none
def avV : List (Nat × Nat) → Nat → Option Nat
  | [], _ => none
  | (d, i) :: l, n => match Nat.beq d n with | true => some i | false => avV l n
def newDB (av : List (Nat × Nat)) (dst : Option Tmp) (ty : TypeId) (cs : List DV) (ts : List DV) (pb : DBs) (rw : List DR) (K : DK β) : Option β :=
  match dst with
  | none => none
  | some d => match avV av d with
    | some i => match unbornV pb i with
      | true => setDB pb i (some ⟨ty, cs, true⟩) fun pb' => retE (some d) (.own i 0) ts pb' rw K
      | false => none
    | none => pushE pb (some ⟨ty, cs, true⟩) fun pb' => litE pb.length fun n => retE (some d) (.own n 0) ts pb' rw K
def sndsD : List (Nat × DV) → List DV
  | [] => []
  | (_, p) :: ps => p :: sndsD ps
def rezipD : List (Nat × DV) → List DV → List (Nat × DV)
  | (i, _) :: ps, q :: qs => (i, q) :: rezipD ps qs
  | _, _ => []
/-- data of a type of the program -/
def tyOfs (f : TypeId → Option DT) : List (Nat × Nat × Nat) → Option DT
  | [] => some .unit
  | (_, ty, _) :: fs => match f ty, tyOfs f fs with
    | some a, some b => some (.pair a b)
    | _, _ => none
def tyOf (T : List TI) : Nat → TypeId → Option DT
  | 0, _ => none
  | n + 1, t => match tdV T t with
    | some (.int k) => some (.int k)
    | some .bool => some .bool
    | some .string => some .str
    | some (.slice e) => match tyOf T n e with | some a => some (.slc a) | none => none
    | some (.struct fs) => tyOfs (tyOf T n) fs
    | _ => none
/-- bytes as a string -/
def bytesQ (T : List TI) (o : Oper) (ts : List DV) : Option ByteArray :=
  match o.op with
  | .convert src dst x => match opV ts x with
    | some (.sl (.int .u8) l) => match tdV T src, tdV T dst with
      | some (.slice e), some .string => match tdV T e with | some (.int .u8) => some (strOf l) | _ => none
      | _, _ => none
    | _ => none
  | _ => none
def zeroO : Operand → Bool
  | .const (.int _ (.ofNat 0)) => true
  | _ => false
def evOp (W : Wd) (T : List TI) (C : ESs) (nl : Nat) (al : Nat → Bool) (av : List (Nat × Nat)) (o : Oper) (ts : List DV) (pb : DBs) (rw : List DR) (K : DK β) : Option β :=
  match o.op with
  | .alloc t => match tiV T t with
    | some ti => match ti.zero with
      | z :: zs => newDB av o.dst t (constV (z :: zs)) ts pb rw K
      | [] => none
    | none => none
  | .box t x => match opV ts x with
    | some a => match cellsV a with | some cs => newDB av o.dst t cs ts pb rw K | none => none
    | none => none
  | .load t a => match opV ts a with
    | some A => loadE W T t A pb rw fun x => retE o.dst x ts pb rw K
    | none => none
  | .store t a x => match opV ts a, opV ts x, tiV T t with
    | some a, some x, some ti => match cellsV x with
      | some cs => match Nat.beq cs.length ti.size, oneDL cs, a with
        | true, true, .own i off => match al i, dbV pb i with
          | true, some y => match subV y.cells off ti.size with
            | some _ => wrE y.cells off cs fun cells => setDB pb i (some ⟨y.ty, cells, true⟩) fun pb' => retE o.dst (.x .und) ts pb' rw K
            | none => none
          | _, _ => none
        | true, true, .re j i off => frzE nl (rowsDL cs []) ts pb rw (.re j i off :: cs) fun ts pb rw ps => match ps with
          | .re j i off :: cs => match drV rw j with
            | some (.own e t' l) => match Nat.ble (off + cs.length) t'.size with
              | true => W.nth l i fun y => wrE (t'.cells y []) off cs fun cells => match t'.of cells with
                | some (y', []) => setDR rw j (.own e t' (l.set i y')) fun rw => retE o.dst (.x .und) ts pb rw K
                | _ => none
              | false => none
            | _ => none
          | _ => none
        | _, _, _ => none
      | none => none
    | _, _, _ => none
  | .call c => match c.callee with
    | .value f => match opV ts f, opsV ts c.args.toList with
      | some (.fn g caps), some xs => frzE nl (rowsAV C g 0 xs (rowsDL caps [])) ts pb rw (xs ++ caps) fun ts pb rw xs => match ownsOkV al (capsOwnV xs) with
        | true => subLE (lentFV (lentRV pb (capsOwnV xs))) ts fun ts => match esV C g with
          | some (.es s) => match ofA s.P xs with
            | some x => W.call (s.fn x) fun q => resT s.Q q rw fun r rw => retE o.dst r ts pb rw K
            | none => none
          | some (.ls s) => callLV W s nl xs pb rw fun r pb rw => retE o.dst r ts pb rw K
          | none => none
        | false => none
      | _, _ => none
    | .builtin b => match opsV ts c.args.toList with
      | some xs => match b with
        | .append => match xs with
          | [a, b] => frzE nl (b.rows []) ts pb rw [a, b] fun ts pb rw xs => match xs, c.argTypes.toList with
            | [a, b], [t, t'] => match tdV T t with
              | some (.slice e) => match tiV T e with
                | some te => match Nat.beq t t', Nat.beq te.zero.length te.size, b with
                  | true, true, .sl t2 news => match Nat.blt 0 t2.size, a with
                    | true, .row j => match drV rw j with
                      | some (.own e2 t1 l) => match Nat.beq e e2, Nat.beq t1.size te.size, t2.same t1 with
                        | true, true, some ⟨h⟩ => W.room (l.length + news.length) te.bytes (subLE (oneD j .junk) ts fun ts => subBE (oneD j .junk) pb fun pb => setDR rw j (.own e t1 (l ++ DT.castL h news)) fun rw => retE o.dst (.row j) ts pb rw K)
                        | _, _, _ => none
                      | _ => none
                    | true, .x (.slc none 0 0) => match Nat.beq t2.size te.size with
                      | true => W.room news.length te.bytes (pushE rw (.own e t2 news) fun rw' => litE rw.length fun n => retE o.dst (.row n) ts pb rw' K)
                      | false => none
                    | _, _ => none
                  | _, _, _ => none
                | none => none
              | _ => none
            | _, _ => none
          | _ => none
        | b => builtinE T b c.argTypes xs rw fun x => retE o.dst x ts pb rw K
      | none => none
    | _ => none
  | .buildSlice t len parts => match partsV ts parts.toList with
    | some ps => frzE nl (rowsDL (sndsD ps) []) ts pb rw (sndsD ps) fun ts pb rw qs => match tdV T t with
      | some (.slice e) => match tiV T e, tyOf T 9 e with
        | some te, some te' => match ofVs te' (rezipD ps qs) 0 with
          | some l => match Nat.beq te'.size te.size, Nat.beq len l.length, Nat.ble 1 te.size, Nat.ble (len * te.size) 16777216, Nat.beq te.zero.length te.size with
            | true, true, true, true, true => pushE rw (.own e te' l) fun rw' => litE rw.length fun n => retE o.dst (.row n) ts pb rw' K
            | _, _, _, _, _ => none
          | none => none
        | _, _ => none
      | _ => none
    | none => none
  | .slice t x lo hi mx => match opV ts x with
    | some a => frzE nl (a.rows []) ts pb rw [] fun ts pb rw _ => purE W T (.slice t x lo hi mx) ts rw fun y => retE o.dst y ts pb rw K
    | none => none
  | .makeSlice t l c => match opV ts l, opV ts c, tdV T t with
    | some (.x (.int _ n)), some (.x (.int _ c)), some (.slice e) => match tiV T e, tyOf T 9 e with
      | some te, some te' => match Nat.beq te'.size te.size, Nat.ble 1 te.size, Nat.beq te.zero.length te.size, te'.of (constV te.zero) with
        | true, true, true, some (z, []) => match zeroO l with
          | true => match n with
            | .ofNat 0 => W.nn c (W.room c.toNat te.bytes (pushE rw (.own e te' []) fun rw' => litE rw.length fun n => retE o.dst (.row n) ts pb rw' K))
            | _ => none
          | false => W.nn c (W.room c.toNat te.bytes (W.bnd n c.toNat fun n => pushE rw (.own e te' (List.replicate n z)) fun rw' => litE rw.length fun n => retE o.dst (.row n) ts pb rw' K))
        | _, _, _, _ => none
      | _, _ => none
    | _, _, _ => none
  | .index t x ix => match opV ts x, opV ts ix, tdV T t with
    | some (.x (.str s)), some (.x (.int _ i)), some .string => W.sidx s i fun b => retE o.dst (.x (.int .u8 b)) ts pb rw K
    | _, _, _ => none
  | .range t x => match opV ts x, tdV T t with
    | some (.x (.str s)), some .string => pushE rw (.itr s 0) fun rw' => litE rw.length fun n => retE o.dst (.ob n) ts pb rw' K
    | _, _ => none
  | .next it b => match opV ts it, b with
    | some (.ob j), true => match drV rw j with
      | some (.itr s p) => W.next s p (fun c q => setDR rw j (.itr s q) fun rw' => retE o.dst (.tup [.x (.lit true), .x (.int .i64 (p.toNat : Int)), .x (.int .i32 c)]) ts pb rw' K) (retE o.dst (.tup [.x (.lit false)]) ts pb rw K)
      | _ => none
    | _, _ => none
  | .convert src dst x => match bytesQ T o ts with
    | some s => retE o.dst (.x (.str s)) ts pb rw K
    | none => purE W T (.convert src dst x) ts rw fun x => retE o.dst x ts pb rw K
  | op => purE W T op ts rw fun x => retE o.dst x ts pb rw K
def nilQ (T : List TI) (o : Oper) (ts : List DV) : Option (Bool × Bool) :=
  match o.op with
  | .binOp op t x y _ => match tdV T t, opV ts x, opV ts y with
    | some (.slice _), some (.sl d l), some (.x (.slc none 0 0)) => match Nat.blt 0 d.size with
      | true => match op with
        | .eql => some (List.isEmpty l, false)
        | .neq => some (List.isEmpty l, true)
        | _ => none
      | false => none
    | _, _, _ => none
  | _ => none
def evOpN (W : Wd) (T : List TI) (C : ESs) (nl : Nat) (al : Nat → Bool) (av : List (Nat × Nat)) (o : Oper) (ts : List DV) (pb : DBs) (rw : List DR) (K : DK β) : Option β :=
  match nilQ T o ts with
  | some (e, neg) => W.nilq e fun g => retE o.dst (.x (.bool (notIf neg g))) ts pb rw K
  | none => evOp W T C nl al av o ts pb rw K
end Go.Vc

namespace Go.Vc
open Go Go.RowKit
variable {β : Type} {r : β}

/-! ### Lists as the executor of pure data has them -/
theorem pL_map (l : List DV) : pL l = l.map DV.p := by induction l with | nil => rfl | cons x l ih => simp [pL, ih]
theorem bP_map (l : DBs) : bP l = l.map fun o => o.map fun b => ⟨b.ty, pL b.cells⟩ := by
  induction l with
  | nil => rfl
  | cons x l ih => cases x <;> simp [bP, ih]
theorem rP_map (l : List DR) : rP l = l.map DR.p := by induction l with | nil => rfl | cons x l ih => simp [rP, ih]
theorem pL_set (l : List DV) (n : Nat) (v : DV) : pL (l.set n v) = (pL l).set n v.p := by simp [pL_map, List.map_set]
theorem bP_set (l : DBs) (n : Nat) (b : DB) : bP (l.set n (some b)) = (bP l).set n (some ⟨b.ty, pL b.cells⟩) := by simp [bP_map, List.map_set]
theorem rP_set (l : List DR) (n : Nat) (v : DR) : rP (l.set n v) = (rP l).set n v.p := by simp [rP_map, List.map_set]
theorem pL_app (l m : List DV) : pL (l ++ m) = pL l ++ pL m := by simp [pL_map]
theorem bP_app (l m : DBs) : bP (l ++ m) = bP l ++ bP m := by simp [bP_map]
theorem rP_app (l m : List DR) : rP (l ++ m) = rP l ++ rP m := by simp [rP_map]
theorem pL_len (l : List DV) : (pL l).length = l.length := by simp [pL_map]
theorem bP_len (l : DBs) : (bP l).length = l.length := by simp [bP_map]
theorem rP_len (l : List DR) : (rP l).length = l.length := by simp [rP_map]

theorem setE_eq (l : List DV) (n : Nat) (v : DV) (K : List DV → Option β) : setE l n v K = K (l.set n v) := by
  induction l generalizing n K with
  | nil => simp [setE]
  | cons x l ih => cases n <;> simp [setE, ih]
theorem wrE_eq (vs : List DV) (l : List DV) (off : Nat) (K : List DV → Option β) : wrE l off vs K = K (wr l off vs) := by
  induction vs generalizing l off with
  | nil => simp [wrE, wr]
  | cons v vs ih => simp only [wrE, setE_eq, wr, ih]
theorem pL_wr (vs : List DV) (l : List DV) (off : Nat) : pL (wr l off vs) = wr (pL l) off (pL vs) := by
  induction vs generalizing l off with
  | nil => simp [wr, pL]
  | cons v vs ih => simp only [wr, pL, ih, pL_set]
theorem setDB_eq (l : DBs) (n : Nat) (v : Option DB) (K : DBs → Option β) : setDB l n v K = K (l.set n v) := by
  induction l generalizing n K with
  | nil => simp [setDB]
  | cons x l ih => cases n <;> simp [setDB, ih]
theorem setDR_eq (l : List DR) (n : Nat) (v : DR) (K : List DR → Option β) : setDR l n v K = K (l.set n v) := by
  induction l generalizing n K with
  | nil => simp [setDR]
  | cons x l ih => cases n <;> simp [setDR, ih]
theorem litE_eq (n : Nat) (K : Nat → Option β) : litE n K = K n := by unfold litE; split <;> rfl
theorem pushE_eq {α : Type} (l : List α) (y : α) (K : List α → Option β) : pushE l y K = K (l ++ [y]) := by
  induction l generalizing K with
  | nil => rfl
  | cons x l ih => simp [pushE, ih]
mutual
def DV.sub (f : Nat → Option DV) : DV → DV
  | .row i => match f i with | some p => p | none => .row i
  | .re i a b => match f i with | some _ => .junk | none => .re i a b
  | .ob i => match f i with | some _ => .junk | none => .ob i
  | .fn g cs => .fn g (subDL f cs)
  | .agg xs => .agg (subDL f xs)
  | .tup xs => .tup (subDL f xs)
  | .x y => .x y
  | .sl t l => .sl t l
  | .el t x o => .el t x o
  | .own i o => .own i o
  | .junk => .junk
def subDL (f : Nat → Option DV) : List DV → List DV
  | [] => []
  | p :: ps => p.sub f :: subDL f ps
end
def subDB (f : Nat → Option DV) : DBs → DBs
  | [] => []
  | some ⟨t, cs, w⟩ :: ps => some ⟨t, subDL f cs, w⟩ :: subDB f ps
  | none :: ps => none :: subDB f ps
mutual
theorem DV.subE_eq (f : Nat → Option DV) : (p : DV) → (K : DV → Option β) → p.subE f K = K (p.sub f)
  | .row i, K => by simp only [DV.subE, DV.sub]; cases f i <;> rfl
  | .re i a b, K => by simp only [DV.subE, DV.sub]; cases f i <;> rfl
  | .ob i, K => by simp only [DV.subE, DV.sub]; cases f i <;> rfl
  | .fn g cs, K => by simp only [DV.subE, DV.sub, subLE_eq f cs]
  | .agg xs, K => by simp only [DV.subE, DV.sub, subLE_eq f xs]
  | .tup xs, K => by simp only [DV.subE, DV.sub, subLE_eq f xs]
  | .x y, K => rfl
  | .sl t l, K => rfl
  | .el t x o, K => rfl
  | .own i o, K => rfl
  | .junk, K => rfl
theorem subLE_eq (f : Nat → Option DV) : (ps : List DV) → (K : List DV → Option β) → subLE f ps K = K (subDL f ps)
  | [], K => rfl
  | p :: ps, K => by simp only [subLE, subDL, DV.subE_eq f p, subLE_eq f ps]
end
theorem subBE_eq (f : Nat → Option DV) : (ps : DBs) → (K : DBs → Option β) → subBE f ps K = K (subDB f ps)
  | [], K => rfl
  | some ⟨t, cs, w⟩ :: ps, K => by simp only [subBE, subDB, subLE_eq, subBE_eq f ps]
  | none :: ps, K => by simp only [subBE, subDB, subBE_eq f ps]
def fP (f : Nat → Option DV) : Nat → Option PV := fun i => (f i).map DV.p
mutual
theorem DV.p_sub (f : Nat → Option DV) : (p : DV) → (p.sub f).p = p.p.sub (fP f)
  | .row i => by simp only [DV.sub, DV.p, PV.sub, fP]; cases h : f i <;> simp [DV.p]
  | .re i a b => by simp only [DV.sub, DV.p, PV.sub, fP]; cases h : f i <;> simp [DV.p]
  | .ob i => by simp only [DV.sub, DV.p, PV.sub, fP]; cases h : f i <;> simp [DV.p]
  | .fn g cs => by simp only [DV.sub, DV.p, PV.sub, pL_sub f cs]
  | .agg xs => by simp only [DV.sub, DV.p, PV.sub, pL_sub f xs]
  | .tup xs => by simp only [DV.sub, DV.p, PV.sub, pL_sub f xs]
  | .x y => rfl
  | .sl t l => rfl
  | .el t x o => rfl
  | .own i o => rfl
  | .junk => rfl
theorem pL_sub (f : Nat → Option DV) : (ps : List DV) → pL (subDL f ps) = subL (fP f) (pL ps)
  | [] => rfl
  | p :: ps => by simp only [subDL, pL, subL, DV.p_sub f p, pL_sub f ps]
end
theorem bP_sub (f : Nat → Option DV) : (ps : DBs) → bP (subDB f ps) = subB' (fP f) (bP ps)
  | [] => rfl
  | some ⟨t, cs, w⟩ :: ps => by simp only [subDB, bP, subB', pL_sub, bP_sub f ps]
  | none :: ps => by simp only [subDB, bP, subB', bP_sub f ps]
theorem fP_one (j : Nat) (v : DV) : fP (oneD j v) = oneF j v.p := by
  funext i; unfold fP oneD oneF; cases Nat.beq i j <;> rfl
theorem fP_norow : fP norowD = norowF := by funext i; rfl

/-! ### Reading -/
theorem gtV_p : ∀ {ts : List DV} {n : Nat} {v : DV} {K : RP}, gtV ts n = some v → K v.p → getP (pL ts) n K
  | [], n, v, K, h, k => by simp only [gtV, Option.some.injEq] at h; subst h; exact k
  | p :: ts, 0, v, K, h, k => by
    simp only [gtV] at h
    simp only [pL, getP]
    cases p with
    | junk => cases h
    | x y => cases y <;> first | (cases h; done) | (simp only [Option.some.injEq] at h; subst h; exact k)
    | _ => simp only [Option.some.injEq] at h; subst h; exact k
  | p :: ts, n + 1, v, K, h, k => by simp only [gtV] at h; simp only [pL, getP]; exact gtV_p h k
theorem opV_p {ts : List DV} {o : Operand} {v : DV} {K : RP} (h : opV ts o = some v) (k : K v.p) : opP (pL ts) o K := by
  cases o with
  | tmp t => exact gtV_p h k
  | _ => simp only [opV, Option.some.injEq] at h; subst h; exact k
theorem opsV_p : ∀ {os : List Operand} {ts vs : List DV} {K : List PV → Prop}, opsV ts os = some vs → K (pL vs) → opsP (pL ts) os K
  | [], ts, vs, K, h, k => by simp only [opsV, Option.some.injEq] at h; subst h; exact k
  | o :: os, ts, vs, K, h, k => by
    simp only [opsV] at h
    split at h
    · rename_i x hx
      split at h
      · rename_i xs hxs
        simp only [Option.some.injEq] at h; subst h
        exact opV_p hx (opsV_p hxs k)
      · cases h
    · cases h
theorem subV_p : ∀ {xs : List DV} {o n : Nat} {l : List DV} {K : List PV → Prop}, subV xs o n = some l → K (pL l) → subP (pL xs) o n K
  | x :: xs, o + 1, n, l, K, h, k => by simp only [subV] at h; simp only [pL, subP]; exact subV_p h k
  | [], o + 1, n, l, K, h, k => by simp [subV] at h
  | [], 0, 0, l, K, h, k => by simp only [subV, Option.some.injEq] at h; subst h; exact k
  | x :: xs, 0, 0, l, K, h, k => by simp only [subV, Option.some.injEq] at h; subst h; exact k
  | [], 0, n + 1, l, K, h, k => by simp [subV] at h
  | x :: xs, 0, n + 1, l, K, h, k => by
    simp only [subV] at h
    split at h
    · rename_i l' hl
      simp only [Option.some.injEq] at h; subst h
      simp only [pL, subP]
      exact subV_p hl k
    · cases h
theorem dbV_p : ∀ {pb : DBs} {i : Nat} {b : DB} {K : PBox → Prop}, dbV pb i = some b → K ⟨b.ty, pL b.cells⟩ → pbK (bP pb) i K
  | [], i, b, K, h, k => by cases h
  | o :: pb, 0, b, K, h, k => by simp only [dbV] at h; subst h; exact k
  | o :: pb, i + 1, b, K, h, k => by
    simp only [dbV] at h
    have := dbV_p h k
    cases o <;> simpa only [bP, pbK] using this
theorem dbV_get : ∀ {pb : DBs} {i : Nat} {b : DB}, dbV pb i = some b → pb[i]? = some (some b)
  | [], i, b, h => by cases h
  | o :: pb, 0, b, h => by simp only [dbV] at h; subst h; rfl
  | o :: pb, i + 1, b, h => by simpa using dbV_get (pb := pb) (i := i) h
theorem unbornV_p : ∀ {pb : DBs} {i : Nat} {K : Prop}, unbornV pb i = true → K → unbornK (bP pb) i K
  | [], i, K, h, k => by cases h
  | o :: pb, 0, K, h, k => by cases o with
    | none => exact k
    | some b => cases h
  | o :: pb, i + 1, K, h, k => by
    have := unbornV_p (pb := pb) (i := i) h k
    cases o <;> simpa only [bP, unbornK] using this
theorem unbornV_get : ∀ {pb : DBs} {i : Nat}, unbornV pb i = true → pb[i]? = some none
  | [], i, h => by cases h
  | o :: pb, 0, h => by cases o with
    | none => rfl
    | some b => cases h
  | o :: pb, i + 1, h => by simpa using unbornV_get (pb := pb) (i := i) h
theorem drV_p : ∀ {rw : List DR} {j : Nat} {e : TypeId} {t : DT} {l : List t.den} {K : Nat → Nat → List (List R) → Prop}, drV rw j = some (.own e t l) → K e t.size (l.map fun x => t.enc x) → rsK (rP rw) j K
  | [], j, e, t, l, K, h, k => by cases h
  | x :: rw, 0, e, t, l, K, h, k => by simp only [drV, Option.some.injEq] at h; subst h; exact k
  | x :: rw, j + 1, e, t, l, K, h, k => by simp only [drV] at h; simp only [rP, rsK]; exact drV_p h k
theorem drV_d : ∀ {rw : List DR} {j : Nat} {e : TypeId} {t : DT} {l : List t.den} {K : Nat → Nat → List (List R) → Prop} {N : Prop}, drV rw j = some (.own e t l) → K e t.size (l.map fun x => t.enc x) → rsD (rP rw) j K N
  | [], j, e, t, l, K, N, h, k => by cases h
  | x :: rw, 0, e, t, l, K, N, h, k => by simp only [drV, Option.some.injEq] at h; subst h; exact k
  | x :: rw, j + 1, e, t, l, K, N, h, k => by simp only [drV] at h; simp only [rP, rsD]; exact drV_d h k
theorem drV_n : ∀ {rw : List DR} {j : Nat} {K : Nat → Nat → List (List R) → Prop} {N : Prop}, (∀ e t l, drV rw j ≠ some (.own e t l)) → N → rsD (rP rw) j K N
  | [], j, K, N, h, k => k
  | x :: rw, 0, K, N, h, k => by
    cases x with
    | own e t l => exact absurd rfl (h e t l)
    | itr s p => exact k
    | dead => exact k
  | x :: rw, j + 1, K, N, h, k => by simp only [rP, rsD]; exact drV_n (rw := rw) (fun e t l => h e t l) k
theorem drV_o : ∀ {rw : List DR} {j : Nat} {s : ByteArray} {p : Int} {K : Obj → Prop}, drV rw j = some (.itr s p) → K (.stringIter s p.toNat) → obK (rP rw) j K
  | [], j, s, p, K, h, k => by cases h
  | x :: rw, 0, s, p, K, h, k => by simp only [drV, Option.some.injEq] at h; subst h; exact k
  | x :: rw, j + 1, s, p, K, h, k => by simp only [drV] at h; simp only [rP, obK]; exact drV_o h k
theorem flatV_p : ∀ {ps : List DV} {ys : List XV} {K : List XV → Prop}, flatV ps = some ys → K ys → flatK (pL ps) K
  | [], ys, K, h, k => by simp only [flatV, Option.some.injEq] at h; subst h; exact k
  | p :: ps, ys, K, h, k => by
    simp only [flatV] at h
    cases p with
    | x y =>
      simp only at h
      split at h
      · rename_i l hl
        simp only [Option.some.injEq] at h; subst h
        simp only [pL, DV.p, flatK]
        exact flatV_p hl k
      · cases h
    | _ => cases h
def ndP : List (Nat × DV) → List (Nat × PV)
  | [] => []
  | (i, v) :: l => (i, v.p) :: ndP l
theorem partsV_p : ∀ {l : List (Nat × Operand)} {ts : List DV} {ps : List (Nat × DV)} {K : List (Nat × PV) → Prop}, partsV ts l = some ps → K (ndP ps) → partsP (pL ts) l K
  | [], ts, ps, K, h, k => by simp only [partsV, Option.some.injEq] at h; subst h; exact k
  | (i, o) :: l, ts, ps, K, h, k => by
    simp only [partsV] at h
    split at h
    · rename_i x hx
      split at h
      · rename_i xs hxs
        simp only [Option.some.injEq] at h; subst h
        exact opV_p hx (partsV_p hxs k)
      · cases h
    · cases h
theorem cellsV_p {x : DV} {cs : List DV} {K : List PV → Prop} (h : cellsV x = some cs) (k : K (pL cs)) : cellsP x.p K := by
  unfold cellsV at h
  cases x with
  | agg xs => simp only [Option.some.injEq] at h; subst h; exact k
  | x y =>
    simp only [oneD1] at h
    split at h
    · rename_i ho
      simp only [Option.some.injEq] at h; subst h
      simp only [DV.p, cellsP]
      cases y <;> first | (cases ho; done) | exact k | exact ⟨ho, k⟩
    · cases h
  | tup xs => cases h
  | junk => cases h
  | _ => simp only [oneD1, Option.some.injEq] at h; subst h; exact k
theorem oneDL_p : ∀ {cs : List DV} {K : Prop}, oneDL cs = true → K → oneP (pL cs) K
  | [], K, _, k => k
  | c :: cs, K, h, k => by
    simp only [oneDL] at h
    split at h
    · rename_i ho
      have ih := oneDL_p h k
      cases c with
      | x y =>
        simp only [oneD1] at ho
        simp only [pL, DV.p, oneP]
        cases y <;> first | (cases ho; done) | exact ih | exact ⟨ho, ih⟩
      | agg _ => cases ho
      | tup _ => cases ho
      | junk => cases ho
      | _ => exact ih
    · cases h
theorem lenP_p : ∀ {cs : List DV} {n : Nat} {K : Prop}, Nat.beq cs.length n = true → K → lenP (pL cs) n K
  | [], 0, K, _, k => k
  | [], n + 1, K, h, k => by simp at h
  | c :: cs, 0, K, h, k => by simp at h
  | c :: cs, n + 1, K, h, k => by simp only [pL, lenP]; exact lenP_p (by simpa using h) k
theorem tiV_p : ∀ {T : List TI} {t : Nat} {ti : TI} {K : TI → Prop}, tiV T t = some ti → K ti → tiK T t K
  | [], t, ti, K, h, k => by cases h
  | x :: T, 0, ti, K, h, k => by
    simp only [tiV] at h
    split at h
    · rename_i ho; simp only [Option.some.injEq] at h; subst h; simp only [tiK, ho]; exact k
    · cases h
  | x :: T, t + 1, ti, K, h, k => tiV_p (T := T) (t := t) h k
theorem tdV_p {T : List TI} {t : Nat} {d : TD} {K : TI → Prop} (h : tdV T t = some d) (k : ∀ ti, ti.td = d → K ti) : tiK T t K := by
  unfold tdV at h
  split at h
  · rename_i ti hti; simp only [Option.some.injEq] at h; exact tiV_p hti (k ti h)
  · cases h
theorem fldV_p : ∀ {fs : List (Nat × Nat × Nat)} {i off ty sz : Nat} {K : Nat → Nat → Nat → Prop}, fldV fs i = some (off, ty, sz) → K off ty sz → fldK fs i K
  | [], i, off, ty, sz, K, h, k => by cases h
  | (a, b, c) :: fs, 0, off, ty, sz, K, h, k => by
    cases c with
    | zero => cases h
    | succ c => simp only [fldV, Option.some.injEq, Prod.mk.injEq] at h; obtain ⟨rfl, rfl, rfl⟩ := h; exact k
  | f :: fs, i + 1, off, ty, sz, K, h, k => fldV_p (fs := fs) (i := i) h k
theorem posV_p : ∀ {fs : List (Nat × Nat × Nat)} {K : Prop}, posV fs = true → K → posK fs K
  | [], K, _, k => k
  | (a, b, c) :: fs, K, h, k => by
    cases c with
    | zero => cases h
    | succ c => exact posV_p (fs := fs) h k
theorem constV_p (l : List Value) : pL (constV l) = constP l := by
  induction l with
  | nil => rfl
  | cons x l ih => simp only [constV, pL, constP, DV.p, ih]
theorem fillE_p {fs : List (Nat × Nat × Nat)} : ∀ {ps : List (Nat × DV)} {cells : List DV} {K : List DV → Option β}, fillE fs cells ps K = some r → ∃ out, K out = some r ∧ ∀ K' : List PV → Prop, K' (pL out) → fillP fs (pL cells) (ndP ps) K'
  | [], cells, K, h => ⟨cells, h, fun _ k => k⟩
  | (i, x) :: ps, cells, K, h => by
    simp only [fillE] at h
    split at h
    · rename_i off ty sz hf
      split at h
      · rename_i cs hcs
        split at h
        · rename_i l h1 h2
          rw [wrE_eq] at h
          obtain ⟨out, h3, h4⟩ := fillE_p h
          refine ⟨out, h3, fun K' k => ?_⟩
          simp only [ndP, fillP]
          refine fldV_p hf (cellsV_p hcs (lenP_p h1 (subV_p h2 ((wrP_iff _ _ _ _).2 ?_))))
          rw [← pL_wr]
          exact h4 K' k
        · cases h
      · cases h
    · cases h
theorem opOV_p {ts : List DV} {o : Option Operand} {v : Option DV} {K : Option PV → Prop} (h : opOV ts o = some v) (k : K (v.map DV.p)) : opOP (pL ts) o K := by
  cases o with
  | none => simp only [opOV, Option.some.injEq] at h; subst h; exact k
  | some o =>
    simp only [opOV] at h
    split at h
    · rename_i x hx; simp only [Option.some.injEq] at h; subst h; exact opV_p hx k
    · cases h
theorem cond_none {c : Bool} {a : Option β} (h : (bif c then a else none) = some r) : c = true ∧ a = some r := by cases c <;> simp_all
theorem bndF_p {i : Int} {n : Nat} {K : Nat → Option β} (h : bndF i n K = some r) : 0 ≤ i ∧ i ≤ (n : Int) ∧ K i.toNat = some r := by
  obtain ⟨h1, h2⟩ := cond_none h
  simp only [Bool.and_eq_true, decide_eq_true_eq] at h1
  exact ⟨h1.1, h1.2, h2⟩
theorem bndD_p {o : Option DV} {d b : Nat} {K : Nat → Option β} (h : bndD stdW o d b K = some r) : ∃ n, K n = some r ∧ ∀ K' : Nat → Prop, K' n → bndP (o.map DV.p) d b K' := by
  unfold bndD at h
  split at h
  · exact ⟨_, h, fun _ k => k⟩
  · obtain ⟨h1, h2, h3⟩ := bndF_p h
    exact ⟨_, h3, fun _ k => ⟨h1, h2, k⟩⟩
  · cases h
theorem idxF_p {α : Type} {l : List α} {i : Int} {K : α → Option β} (h : idxF l i K = some r) : ∃ x, 0 ≤ i ∧ i < (l.length : Int) ∧ l[i.toNat]? = some x ∧ K x = some r := by
  unfold idxF at h
  split at h
  · rename_i x hx
    obtain ⟨h1, h2⟩ := cond_none h
    have h1 := of_decide_eq_true h1
    have := (List.getElem?_eq_some_iff.1 hx).1
    exact ⟨x, h1, by omega, hx, h2⟩
  · cases h
theorem idxR_p {α : Type} {l : List α} {i : Nat} {K : α → Option β} (h : idxR l i K = some r) : ∃ x, l[i]? = some x ∧ K x = some r := by
  unfold idxR at h
  split at h
  · rename_i x hx; exact ⟨x, hx, h⟩
  · cases h
end Go.Vc

namespace Go.Vc
open Go Go.RowKit
variable {β : Type} {r : β}

/-! ### Cells -/
def relC : List R → List DV → Prop
  | [], vs => vs = []
  | q :: qs, vs => ∃ v vs', vs = v :: vs' ∧ (∀ K : RP, K v.p → r2pK q K) ∧ relC qs vs'
theorem relC_app : ∀ {qs qs' : List R} {vs vs' : List DV}, relC qs vs → relC qs' vs' → relC (qs ++ qs') (vs ++ vs')
  | [], qs', vs, vs', h, h' => by simp only [relC] at h; subst h; exact h'
  | q :: qs, qs', vs, vs', h, h' => by
    simp only [relC] at h
    obtain ⟨v, vs1, rfl, h1, h2⟩ := h
    exact ⟨v, _, rfl, h1, relC_app h2 h'⟩
theorem cells_acc (t : DT) (x : t.den) (l : List DV) : t.cells x l = t.cells x [] ++ l := by
  induction t generalizing l with
  | pair a b iha ihb => simp only [DT.cells]; rw [iha, ihb, iha x.1 (b.cells x.2 [])]; simp
  | _ => rfl
theorem relC_cells (t : DT) (x : t.den) : relC (t.enc x) (t.cells x []) := by
  induction t with
  | pair a b iha ihb => simp only [DT.enc, DT.cells]; rw [cells_acc]; exact relC_app (iha x.1) (ihb x.2)
  | unit => rfl
  | _ => exact ⟨_, _, rfl, fun K k => k, rfl⟩
theorem relC_K : ∀ {qs : List R} {vs : List DV} {K : List PV → Prop}, relC qs vs → K (pL vs) → r2pLK qs K
  | [], vs, K, h, k => by simp only [relC] at h; subst h; exact k
  | q :: qs, vs, K, h, k => by
    simp only [relC] at h
    obtain ⟨v, vs1, rfl, h1, h2⟩ := h
    exact h1 _ (relC_K h2 k)
theorem relC_sub : ∀ {qs : List R} {vs : List DV} {o n : Nat} {l : List DV}, relC qs vs → subV vs o n = some l → ∃ ls, relC ls l ∧ ∀ K : List R → Prop, K ls → subR qs o n K
  | q :: qs, vs, o + 1, n, l, h, hs => by
    simp only [relC] at h
    obtain ⟨v, vs1, rfl, h1, h2⟩ := h
    simp only [subV] at hs
    obtain ⟨ls, h3, h4⟩ := relC_sub h2 hs
    exact ⟨ls, h3, fun K k => by simp only [subR]; exact h4 K k⟩
  | [], vs, o, n, l, h, hs => by
    simp only [relC] at h; subst h
    cases o <;> cases n <;> simp [subV] at hs
    subst hs
    exact ⟨[], rfl, fun K k => k⟩
  | q :: qs, vs, 0, 0, l, h, hs => by
    simp only [relC] at h
    obtain ⟨v, vs1, rfl, h1, h2⟩ := h
    simp only [subV, Option.some.injEq] at hs; subst hs
    exact ⟨[], rfl, fun K k => k⟩
  | q :: qs, vs, 0, n + 1, l, h, hs => by
    simp only [relC] at h
    obtain ⟨v, vs1, rfl, h1, h2⟩ := h
    simp only [subV] at hs
    split at hs
    · rename_i l' hl
      simp only [Option.some.injEq] at hs; subst hs
      obtain ⟨ls, h3, h4⟩ := relC_sub h2 hl
      exact ⟨q :: ls, ⟨_, _, rfl, h1, h3⟩, fun K k => by simp only [subR]; exact h4 _ k⟩
    · cases hs
theorem enc_one (t : DT) (x : t.den) : (t.enc x).all oneR = true := by
  induction t with
  | pair a b iha ihb => simp only [DT.enc, List.all_append, iha, ihb, Bool.and_self]
  | _ => rfl
theorem cells_len (t : DT) (x : t.den) : (t.cells x []).length = t.size := by
  induction t with
  | pair a b iha ihb => simp only [DT.cells]; rw [cells_acc]; simp [DT.size, iha, ihb]
  | _ => rfl
theorem castL_enc {a b : DT} (h : a = b) (l : List a.den) : (DT.castL h l).map (fun x => b.enc x) = l.map fun x => a.enc x := by subst h; rfl
/-- data out of cells: what it stands for -/
theorem of_spec {t : DT} : ∀ {cs : List DV} {x : t.den} {rest : List DV}, t.of cs = some (x, rest) → ∃ hd, cs = hd ++ rest ∧ argsOk (pL hd) (t.enc x) ∧ rOkL (t.enc x) (pL hd) ∧ hd.length = t.size ∧ oneDL hd = true ∧
    (∀ (kr : List Nat) (rs : List R) (K : List R → Prop), (∀ K', K' rs → toRK kr (pL rest) K') → K (t.enc x ++ rs) → toRK (t.ks kr) (pL cs) K) := by
  induction t with
  | int k =>
    intro cs x rest h
    unfold DT.of at h
    split at h
    · rename_i k' n r'
      split at h
      · rename_i hk
        have := eqk_eq hk; subst this
        simp only [Option.some.injEq, Prod.mk.injEq] at h
        obtain ⟨rfl, rfl⟩ := h
        exact ⟨[_], rfl, ⟨rfl, trivial⟩, ⟨rfl, trivial⟩, rfl, rfl, fun kr rs K m k => m _ k⟩
      · cases h
    · cases h
  | bool =>
    intro cs x rest h
    unfold DT.of at h
    split at h
    · simp only [Option.some.injEq, Prod.mk.injEq] at h
      obtain ⟨rfl, rfl⟩ := h
      exact ⟨[_], rfl, ⟨rfl, trivial⟩, ⟨rfl, trivial⟩, rfl, rfl, fun kr rs K m k => m _ k⟩
    · simp only [Option.some.injEq, Prod.mk.injEq] at h
      obtain ⟨rfl, rfl⟩ := h
      exact ⟨[_], rfl, ⟨rfl, trivial⟩, ⟨rfl, trivial⟩, rfl, rfl, fun kr rs K m k => m _ k⟩
    · cases h
  | str =>
    intro cs x rest h
    unfold DT.of at h
    split at h
    · simp only [Option.some.injEq, Prod.mk.injEq] at h
      obtain ⟨rfl, rfl⟩ := h
      exact ⟨[_], rfl, ⟨rfl, trivial⟩, ⟨rfl, trivial⟩, rfl, rfl, fun kr rs K m k => m _ k⟩
    · cases h
  | slc t ih =>
    intro cs x rest h
    unfold DT.of at h
    split at h
    · rename_i t' l r'
      split at h
      · rename_i he _
        subst he
        simp only [Option.some.injEq, Prod.mk.injEq] at h
        obtain ⟨rfl, rfl⟩ := h
        exact ⟨[_], rfl, ⟨⟨rfl, rfl⟩, trivial⟩, ⟨⟨rfl, rfl⟩, trivial⟩, rfl, rfl, fun kr rs K m k => m _ k⟩
      · cases h
    · simp only [Option.some.injEq, Prod.mk.injEq] at h
      obtain ⟨rfl, rfl⟩ := h
      exact ⟨[_], rfl, ⟨⟨trivial, rfl⟩, trivial⟩, ⟨⟨trivial, rfl⟩, trivial⟩, rfl, rfl, fun kr rs K m k => m _ k⟩
    · cases h
  | unit =>
    intro cs x rest h
    simp only [DT.of, Option.some.injEq, Prod.mk.injEq] at h
    obtain ⟨_, rfl⟩ := h
    exact ⟨[], rfl, trivial, trivial, rfl, rfl, fun kr rs K m k => m K k⟩
  | pair a b iha ihb =>
    intro cs x rest h
    simp only [DT.of] at h
    split at h
    · rename_i x1 r1 h1
      split at h
      · rename_i x2 r2 h2
        simp only [Option.some.injEq, Prod.mk.injEq] at h
        obtain ⟨rfl, rfl⟩ := h
        obtain ⟨hd1, rfl, a1, a2, a3, a4, a5⟩ := iha h1
        obtain ⟨hd2, rfl, b1, b2, b3, b4, b5⟩ := ihb h2
        have A : ∀ {ps qs : List PV} {rs ss : List R}, argsOk ps rs → argsOk qs ss → argsOk (ps ++ qs) (rs ++ ss) := by
          intro ps
          induction ps with
          | nil => intro qs rs ss h h'; cases rs with | nil => exact h' | cons _ _ => exact h.elim
          | cons p ps ih => intro qs rs ss h h'; cases rs with | nil => exact h.elim | cons r rs => exact ⟨h.1, ih h.2 h'⟩
        have B : ∀ {rs ss : List R} {ps qs : List PV}, rOkL rs ps → rOkL ss qs → rOkL (rs ++ ss) (ps ++ qs) := by
          intro rs
          induction rs with
          | nil => intro ss ps qs h h'; cases ps with | nil => exact h' | cons _ _ => exact h.elim
          | cons r rs ih => intro ss ps qs h h'; cases ps with | nil => exact h.elim | cons p ps => exact ⟨h.1, ih h.2 h'⟩
        have D : ∀ {xs ys : List DV}, oneDL xs = true → oneDL ys = true → oneDL (xs ++ ys) = true := by
          intro xs
          induction xs with
          | nil => intro ys _ h; exact h
          | cons x xs ih =>
            intro ys h h'
            simp only [List.cons_append, oneDL] at h ⊢
            split at h
            · exact ih h h'
            · cases h
        refine ⟨hd1 ++ hd2, by simp, by rw [pL_app]; exact A a1 b1, by rw [pL_app]; exact B a2 b2, by simp [DT.size, a3, b3], D a4 b4, fun kr rs K m k => ?_⟩
        simp only [DT.ks]
        simp only [DT.enc, List.append_assoc] at k
        exact a5 _ _ K (fun K' k' => b5 kr rs K' m k') k
      · cases h
    · cases h
theorem ofV_spec {t : DT} {v : DV} {x : t.den} (h : t.ofV v = some x) : argOk v.p (t.encA x) ∧ rOk (t.encA x) v.p ∧ (∀ K : List PV → Prop, (∀ cs, cs.length = t.size → (∀ (K : List R → Prop), K (t.enc x) → toRK (t.ks []) cs K) → K cs) → cellsP v.p K) := by
  unfold DT.ofV at h
  have key : ∀ {cs : List DV} {y : t.den}, t.of cs = some (y, []) → argsOk (pL cs) (t.enc y) ∧ rOkL (t.enc y) (pL cs) ∧ cs.length = t.size ∧ oneDL cs = true ∧ ∀ (K : List R → Prop), K (t.enc y) → toRK (t.ks []) (pL cs) K := by
    intro cs y h
    obtain ⟨hd, rfl, h1, h2, h3, h3', h4⟩ := of_spec h
    simp only [List.append_nil] at *
    exact ⟨h1, h2, h3, h3', fun K k => h4 [] [] K (fun K' k' => k') (by simpa using k)⟩
  split at h
  · rename_i ha
    split at h
    · rename_i cs
      split at h
      · rename_i y rest hy
        split at h
        · simp only [Option.some.injEq] at h; subst h
          obtain ⟨h1, h2, h3, h3', h4⟩ := key hy
          have e : t.encA y = .agg (t.enc y) := by cases t <;> first | rfl | cases ha
          rw [e]
          exact ⟨h1, h2, fun K m => m _ (by rw [pL_len]; exact h3) h4⟩
        · cases h
      · cases h
    · cases h
  · rename_i ha
    split at h
    · rename_i y rest hy
      split at h
      · simp only [Option.some.injEq] at h; subst h
        obtain ⟨h1, h2, h3, h3', h4⟩ := key hy
        have e : t.enc y = [t.encA y] := by cases t <;> first | rfl | cases ha
        rw [e] at h1 h2
        refine ⟨h1.1, h2.1, fun K m => cellsV_p (cs := [v]) ?_ (m _ (by rw [pL_len]; exact h3) h4)⟩
        simp only [oneDL] at h3'
        split at h3'
        · rename_i ho; unfold cellsV; cases v <;> first | (cases ho; done) | simp [ho]
        · cases h3'
      · cases h
    · cases h

/-! ### Operators -/
theorem nzF_p {b : Int} {K : Option β} (h : nzF b K = some r) : b ≠ 0 ∧ K = some r := by
  unfold nzF at h
  by_cases hb : b = 0
  · simp [hb] at h
  · simp [hb] at h; exact ⟨hb, h⟩
theorem intBinD_p {op : BinOp} {k : IntKind} {a b : Int} {ret : XV → Option β} (h : intBinD stdW op k a b ret = some r) : ∃ y, ret y = some r ∧ ∀ R : XV → Prop, R y → intBin op k a b R := by
  unfold intBinD at h
  split at h
  case h_4 => replace h := nzF_p h; obtain ⟨h1, h2⟩ := h; exact ⟨_, h2, fun R k => ⟨h1, k⟩⟩
  case h_5 => replace h := nzF_p h; obtain ⟨h1, h2⟩ := h; exact ⟨_, h2, fun R k => ⟨h1, k⟩⟩
  all_goals first | (cases h; done) | exact ⟨_, h, fun R k => k⟩
theorem leafV_p {l : LK} {x y : XV} {b : Bool} (h : leafV l x y = some b) {K : Bool → Prop} (k : K b) : leafK l x y K := by
  unfold leafV at h
  split at h
  · rename_i k1 a k2 b'
    split at h
    · rename_i hk; simp only [Option.some.injEq] at h; subst h; simp only [leafK, hk]; exact k
    · cases h
  all_goals first | (cases h; done) | (simp only [Option.some.injEq] at h; subst h; exact k)
theorem cmpXV_p : ∀ {ls : List LK} {xs ys : List XV} {b : Bool}, cmpXV ls xs ys = some b → ∀ {K : Bool → Prop}, K b → cmpXK ls xs ys K
  | [], xs, ys, b, h, K, k => by simp [cmpXV] at h
  | l :: ls, xs, ys, b, h, K, k => by
    unfold cmpXV at h
    split at h
    · rename_i h1
      injection h1 with h1 h2
      subst h1; subst h2
      simp only [cmpXK]; exact leafV_p h k
    · rename_i l' ls' x xs' y ys' hne h1
      injection h1 with h1 h2
      subst h1; subst h2
      split at h
      · rename_i b1 hb1
        split at h
        · rename_i b2 hb2
          simp only [Option.some.injEq] at h; subst h
          unfold cmpXK
          split
          · rename_i he1 he2 he3
            injection he1 with _ he1; injection he2 with _ he2; injection he3 with _ he3
            subst he1; subst he2; subst he3
            exact (hne rfl rfl rfl).elim
          · rename_i he1 he2 he3
            injection he1 with e1 e2; injection he2 with e3 e4; injection he3 with e5 e6
            subst e1; subst e2; subst e3; subst e4; subst e5; subst e6
            exact leafV_p hb1 (cmpXV_p hb2 k)
          · rename_i hh; exact (hh _ _ _ _ _ _ rfl rfl rfl).elim
        · cases h
      · cases h
    · cases h
theorem eqXV_p {T : List TI} {neg : Bool} {t : TypeId} {a b c : XV} (h : eqXV T neg t a b = some c) {R : XV → Prop} (k : R c) : eqX T neg t a b R := by
  unfold eqXV at h
  split at h
  case h_1 => simp only [Option.some.injEq] at h; subst h; exact k
  case h_2 =>
    split at h
    · rename_i ti hti
      split at h
      · rename_i ls fs h1 h2
        split at h
        · rename_i b' hb
          simp only [Option.some.injEq] at h; subst h
          simp only [eqX]
          refine tiV_p hti ?_
          rw [h1, h2]
          exact cmpXV_p hb k
        · cases h
      · cases h
    · cases h
  case h_9 => cases h
  all_goals
    split at h
    · rename_i ht
      simp only [Option.some.injEq] at h; subst h
      simp only [eqX]
      refine tdV_p ht fun ti hti => ?_
      rw [hti]; exact k
    · cases h
theorem binXE_p {T : List TI} {op : BinOp} {t : TypeId} {a b : XV} {ret : XV → Option β} (h : binXE stdW T op t a b ret = some r) : ∃ y, ret y = some r ∧ ∀ R : XV → Prop, R y → binX T op t a b R := by
  unfold binXE at h
  split at h
  · replace h := cond_none h; obtain ⟨h1, h2⟩ := h; exact ⟨_, h2, fun R k => ⟨of_decide_eq_true h1, k⟩⟩
  · replace h := cond_none h; obtain ⟨h1, h2⟩ := h; exact ⟨_, h2, fun R k => ⟨of_decide_eq_true h1, k⟩⟩
  · rename_i k x k' y hn1 hn2
    split at h
    · rename_i hk
      replace h := intBinD_p h; obtain ⟨z, h1, h2⟩ := h
      refine ⟨z, h1, fun R hR => ?_⟩
      have h3 := h2 R hR
      cases op <;> first | (exact (hn1 rfl).elim) | (exact (hn2 rfl).elim) | (simp only [binX, hk]; exact h3)
    · cases h
  · replace h := cond_none h; obtain ⟨h1, h2⟩ := h; exact ⟨_, h2, fun R k => ⟨of_decide_eq_true h1, k⟩⟩
  · rename_i hn1
    split at h
    · rename_i y hy
      refine ⟨y, h, fun R k => ?_⟩
      have := eqXV_p hy k
      cases a <;> cases b <;> first | exact this | (simp [eqXV] at hy; done)
    · cases h
  · rename_i hn1
    split at h
    · rename_i y hy
      refine ⟨y, h, fun R k => ?_⟩
      have := eqXV_p hy k
      cases a <;> cases b <;> first | exact this | (simp [eqXV] at hy; done)
    · cases h
  · cases h
theorem binE_p {T : List TI} {op : BinOp} {t : TypeId} {a b : DV} {ret : DV → Option β} (h : binE stdW T op t a b ret = some r) : ∃ v, ret v = some r ∧ ∀ R : RP, R v.p → binP T op t a.p b.p R := by
  unfold binE at h
  split at h
  · replace h := binXE_p h; obtain ⟨y, h1, h2⟩ := h; exact ⟨_, h1, fun R k => by simp only [DV.p, binP]; exact h2 _ k⟩
  · split at h
    · rename_i h1 h2
      replace h := binXE_p h; obtain ⟨y, h3, h4⟩ := h
      exact ⟨_, h3, fun R k => by simp only [DV.p, binP]; exact flatV_p h1 (flatV_p h2 (h4 _ k))⟩
    · cases h
  · split at h
    · rename_i h1; exact ⟨_, h, fun R k => by simp only [DV.p, binP]; exact tdV_p h1 fun ti hti => by rw [hti]; exact k⟩
    · rename_i h1; exact ⟨_, h, fun R k => by simp only [DV.p, binP]; exact tdV_p h1 fun ti hti => by rw [hti]; exact k⟩
    · cases h
  · cases h
theorem argTyV_p {T : List TI} {ats : Array TypeId} {d : TD} (h : argTyV T ats = some d) {K : TI → Prop} (k : ∀ ti, ti.td = d → K ti) : argTy T ats K := by
  unfold argTyV at h
  unfold argTy
  split at h
  · rename_i he; rw [he]; exact tdV_p h k
  · cases h
theorem builtinE_p {T : List TI} {b : Builtin} {ats : Array TypeId} {xs : List DV} {rw : List DR} {ret : DV → Option β} (h : builtinE T b ats xs rw ret = some r) : ∃ v, ret v = some r ∧ ∀ R : RP, R v.p → builtinP T b ats (pL xs) (rP rw) R := by
  unfold builtinE at h
  split at h
  · split at h
    · rename_i e ht
      split at h
      · rename_i n hn
        refine ⟨_, h, fun R k => ?_⟩
        unfold lenV at hn
        split at hn
        · simp only [Option.some.injEq] at hn; subst hn
          simp only [pL, DV.p, builtinP]
          exact argTyV_p ht fun ti hti => by rw [hti, List.length_map]; exact k
        · rename_i j
          split at hn
          · rename_i hd
            simp only [Option.some.injEq] at hn; subst hn
            simp only [pL, DV.p, builtinP]
            exact drV_p hd (argTyV_p ht fun ti hti => by rw [hti, List.length_map]; exact k)
          · cases hn
        · simp only [Option.some.injEq] at hn; subst hn
          simp only [pL, DV.p, builtinP]
          exact argTyV_p ht fun ti hti => by rw [hti]; exact k
        · cases hn
      · cases h
    · rename_i ht
      split at h
      · exact ⟨_, h, fun R k => by simp only [pL, DV.p, builtinP]; exact argTyV_p ht fun ti hti => by rw [hti]; exact k⟩
      · cases h
    · cases h
  · split at h
    · exact ⟨_, h, fun R k => by simpa only [pL, DV.p, builtinP] using k⟩
    · cases h
  · split at h
    · exact ⟨_, h, fun R k => by simpa only [pL, DV.p, builtinP] using k⟩
    · cases h
  · cases h
theorem pickV_p {g : Bool} {a b c : XV} (h : pickV g a b = some c) {R : XV → Prop} (k : R c) : pickK g a b R := by
  unfold pickV at h
  split at h
  all_goals first | (cases h; done) | (simp only [Option.some.injEq] at h; subst h; exact k) | (simp only [Option.some.injEq] at h; subst h; unfold pickK; split <;> first | exact k | (simp_all; done))
theorem o1_p {o : Option DV} {K : DV → Option β} (h : o1 o K = some r) : ∃ v, o = some v ∧ K v = some r := by
  unfold o1 at h; cases o with
  | none => cases h
  | some v => exact ⟨v, rfl, h⟩
theorem purE_p {T : List TI} {op : Op} {ts : List DV} {rw : List DR} {ret : DV → Option β} (h : purE stdW T op ts rw ret = some r) : ∃ v, ret v = some r ∧ ∀ R : RP, R v.p → purP T op (pL ts) (rP rw) R := by
  unfold purE at h
  split at h
  · replace h := o1_p h; obtain ⟨v, h1, h2⟩ := h; exact ⟨v, h2, fun R k => opV_p h1 k⟩
  · replace h := o1_p h; obtain ⟨v, h1, h2⟩ := h; exact ⟨v, h2, fun R k => opV_p h1 k⟩
  · -- pick
    replace h := o1_p h; obtain ⟨c, h1, h⟩ := h
    split at h
    · replace h := o1_p h; obtain ⟨v, h2, h⟩ := h; exact ⟨v, h, fun R k => opV_p h1 (opV_p h2 k)⟩
    · replace h := o1_p h; obtain ⟨v, h2, h⟩ := h; exact ⟨v, h, fun R k => opV_p h1 (opV_p h2 k)⟩
    · replace h := o1_p h; obtain ⟨a, h2, h⟩ := h
      replace h := o1_p h; obtain ⟨b, h3, h⟩ := h
      split at h
      · split at h
        · rename_i hp
          exact ⟨_, h, fun R k => opV_p h1 (opV_p h2 (opV_p h3 (pickV_p (R := fun r => R (.x r)) hp k)))⟩
        · cases h
      · cases h
    · cases h
  · -- nilCheck
    replace h := o1_p h; obtain ⟨p, h1, h⟩ := h
    split at h
    all_goals first | (cases h; done) | exact ⟨_, h, fun R k => opV_p h1 k⟩
  · replace h := o1_p h; obtain ⟨a, h1, h⟩ := h
    replace h := o1_p h; obtain ⟨b, h2, h⟩ := h
    replace h := binE_p h; obtain ⟨v, h3, h4⟩ := h
    exact ⟨v, h3, fun R k => opV_p h1 (opV_p h2 (h4 R k))⟩
  · -- unOp
    replace h := o1_p h; obtain ⟨a, h1, h⟩ := h
    split at h
    · split at h
      · rename_i hu
        refine ⟨_, h, fun R k => opV_p h1 ?_⟩
        unfold unV at hu
        split at hu
        all_goals first | (cases hu; done) | (simp only [Option.some.injEq] at hu; subst hu; exact k)
      · cases h
    · cases h
  · -- convert
    replace h := o1_p h; obtain ⟨a, h1, h⟩ := h
    split at h
    · rename_i h2 h3
      exact ⟨_, h, fun R k => opV_p h1 (tiV_p h2 (tdV_p h3 fun ti hti => by rw [hti]; exact k))⟩
    · rename_i h2 h3
      exact ⟨_, h, fun R k => opV_p h1 (tiV_p h2 (tdV_p h3 fun ti hti => by rw [hti]; exact k))⟩
    · cases h
  · -- fieldAddr
    replace h := o1_p h; obtain ⟨a, h1, h⟩ := h
    split at h
    · rename_i h2
      split at h
      · rename_i h3
        split at h
        all_goals first | (cases h; done) | exact ⟨_, h, fun R k => opV_p h1 (tdV_p h2 fun ti hti => by rw [hti]; exact fldV_p h3 k)⟩
      · cases h
    · cases h
  · -- field
    replace h := o1_p h; obtain ⟨a, h1, h⟩ := h
    split at h
    · rename_i h2
      split at h
      · rename_i h3
        split at h
        · rename_i tf h4
          split at h
          · rename_i ha
            split at h
            · rename_i hs
              refine ⟨_, h, fun R k => opV_p h1 (tdV_p h2 fun ti hti => ?_)⟩
              rw [hti]
              refine fldV_p h3 (tiV_p h4 ?_)
              rw [ha]; exact subV_p hs k
            · cases h
          · rename_i ha
            split at h
            · rename_i hs
              refine ⟨_, h, fun R k => opV_p h1 (tdV_p h2 fun ti hti => ?_)⟩
              rw [hti]
              refine fldV_p h3 (tiV_p h4 ?_)
              rw [ha]; exact subV_p hs k
            · cases h
        · cases h
      · cases h
    · cases h
  · -- indexAddr
    replace h := o1_p h; obtain ⟨a, h1, h⟩ := h
    replace h := o1_p h; obtain ⟨i, h2, h⟩ := h
    split at h
    · rename_i e t' l k i h3
      split at h
      · rename_i te h4
        split at h
        · rename_i h5 h6
          replace h := idxF_p h; obtain ⟨x, h7, h8, h9, h⟩ := h
          refine ⟨_, h, fun R hR => opV_p h1 (opV_p h2 (tdV_p h3 fun ti hti => ?_))⟩
          rw [hti]
          have h5 := Nat.eq_of_beq_eq_true h5
          have h6 : 1 ≤ t'.size := by simpa [Nat.blt] using h6
          obtain ⟨n, hn⟩ : ∃ n, t'.size = n + 1 := ⟨t'.size - 1, by omega⟩
          simp only [DV.p, hn]
          exact tiV_p h4 ⟨by rw [h5, hn]; exact Nat.beq_refl _, h7, by simpa using h8, t'.enc x, by simp [h9], hR⟩
        · cases h
      · cases h
    · rename_i e j k i h3
      split at h
      · rename_i te e' t' l h4 h5
        split at h
        · rename_i h6 h6'
          replace h := idxF_p h; obtain ⟨x, h7, h8, h9, h⟩ := h
          refine ⟨_, h, fun R hR => opV_p h1 (opV_p h2 (tdV_p h3 fun ti hti => ?_))⟩
          rw [hti]
          exact tiV_p h4 (drV_p h5 ⟨h6, (show 1 ≤ t'.size by simpa [Nat.blt] using h6'), h7, by simpa using h8, hR⟩)
        · cases h
      · cases h
    · cases h
  · -- extract
    replace h := o1_p h; obtain ⟨a, h1, h⟩ := h
    split at h
    · split at h
      · rename_i hs; exact ⟨_, h, fun R k => opV_p h1 (subV_p hs k)⟩
      · cases h
    · cases h
  · -- slice
    replace h := o1_p h; obtain ⟨a, h1, h⟩ := h
    split at h
    · rename_i lo hi h2 h3
      split at h
      · rename_i e t' l h4
        split at h
        · rename_i te h5
          split at h
          · rename_i h6
            split at h
            · replace h := bndD_p h; obtain ⟨n, h, h7⟩ := h
              refine ⟨_, h, fun R k => opV_p h1 (opOV_p h2 (opOV_p h3 (tdV_p h4 fun ti hti => ?_)))⟩
              rw [hti]
              refine tiV_p h5 ⟨h6, ?_⟩
              simp only [Option.map_none, List.length_map]
              refine h7 _ ?_
              rw [← List.map_take]; exact k
            · replace h := bndD_p h; obtain ⟨n, h, h7⟩ := h
              replace h := bndD_p h; obtain ⟨m, h, h8⟩ := h
              refine ⟨_, h, fun R k => opV_p h1 (opOV_p h2 (opOV_p h3 (tdV_p h4 fun ti hti => ?_)))⟩
              rw [hti]
              refine tiV_p h5 ⟨h6, ?_⟩
              simp only [Option.map_some, List.length_map]
              refine h7 _ (h8 _ ?_)
              rw [← List.map_take, ← List.map_drop]; exact k
          · cases h
        · cases h
      · rename_i s h4
        replace h := bndD_p h; obtain ⟨n, h, h7⟩ := h
        replace h := bndD_p h; obtain ⟨m, h, h8⟩ := h
        refine ⟨_, h, fun R k => opV_p h1 (opOV_p h2 (opOV_p h3 (tdV_p h4 fun ti hti => ?_)))⟩
        rw [hti]
        exact h7 _ (h8 _ k)
      · cases h
    · cases h
  · -- build
    split at h
    · rename_i ps h1
      split at h
      · rename_i ti h2
        split at h
        · rename_i fs z zs h3 h4
          split at h
          · rename_i h5
            replace h := fillE_p h; obtain ⟨out, h, h6⟩ := h
            refine ⟨_, h, fun R k => ?_⟩
            refine partsV_p h1 (tiV_p h2 ?_)
            rw [h3, h4]
            refine posV_p h5 ?_
            have := h6 (fun cells => R (.agg cells)) k
            rwa [constV_p] at this
          · cases h
        · cases h
      · cases h
    · cases h
  · -- makeFunc
    split at h
    · rename_i f h1
      split at h
      · rename_i cs h2
        refine ⟨_, h, fun R k => ?_⟩
        simp only [purP]
        rw [h1]
        exact opsV_p h2 k
      · cases h
    · cases h
  · -- call
    rename_i c
    split at h
    · rename_i b hb
      split at h
      · rename_i xs hx
        replace h := builtinE_p h; obtain ⟨v, h, h1⟩ := h
        refine ⟨v, h, fun R k => ?_⟩
        simp only [purP]
        rw [hb]
        exact opsV_p hx (h1 R k)
      · cases h
    · cases h
  · cases h
theorem loadE_p {T : List TI} {t : TypeId} {A : DV} {pb : DBs} {rw : List DR} {ret : DV → Option β} (h : loadE stdW T t A pb rw ret = some r) : ∃ v, ret v = some r ∧ ∀ R : RP, R v.p → loadP T t A.p (bP pb) (rP rw) R := by
  unfold loadE at h
  have one : ∀ {t' : DT} {x : t'.den} {off : Nat} {v : DV}, subV (t'.cells x []) off 1 = some [v] → ∀ R : RP, R v.p → subR (t'.enc x) off 1 fun l => match l with | [r] => r2pK r R | _ => False := by
    intro t' x off v hs R k
    obtain ⟨ls, h1, h2⟩ := relC_sub (relC_cells t' x) hs
    refine h2 _ ?_
    cases ls with
    | nil => simp [relC] at h1
    | cons q ls =>
      obtain ⟨v', vs', he, h3, h4⟩ := h1
      simp only [List.cons.injEq] at he
      obtain ⟨rfl, rfl⟩ := he
      cases ls with
      | nil => exact h3 R k
      | cons q' ls => obtain ⟨_, _, he, _⟩ := h4; cases he
  have many : ∀ {t' : DT} {x : t'.den} {off n : Nat} {l : List DV}, subV (t'.cells x []) off (n + 1) = some l → ∀ R : RP, R (.agg (pL l)) → subR (t'.enc x) off (n + 1) fun l => r2pLK l fun l => R (.agg l) := by
    intro t' x off n l hs R k
    obtain ⟨ls, h1, h2⟩ := relC_sub (relC_cells t' x) hs
    exact h2 _ (relC_K h1 k)
  split at h
  · rename_i ti h1
    split at h
    · split at h
      · rename_i b hb
        split at h
        · rename_i ha
          split at h
          · rename_i hs
            refine ⟨_, h, fun R k => tiV_p h1 (dbV_p hb ?_)⟩
            rw [ha]; exact subV_p hs k
          · cases h
        · rename_i ha
          split at h
          · rename_i hs
            refine ⟨_, h, fun R k => tiV_p h1 (dbV_p hb ?_)⟩
            rw [ha]; exact subV_p hs k
          · cases h
      · cases h
    · split at h
      · rename_i n ha hn
        split at h
        · rename_i hs
          refine ⟨_, h, fun R k => tiV_p h1 ?_⟩
          simp only [DV.p, ha, hn]; exact many hs R k
        · cases h
      · rename_i ha
        split at h
        · rename_i hs
          refine ⟨_, h, fun R k => tiV_p h1 ?_⟩
          simp only [DV.p, ha]; exact one hs R k
        · cases h
      · cases h
    · split at h
      · rename_i hd
        replace h := idxR_p h; obtain ⟨x, hx, h⟩ := h
        split at h
        · rename_i n ha hn
          split at h
          · rename_i hs
            refine ⟨_, h, fun R k => tiV_p h1 (drV_p hd ⟨_, (by rw [List.getElem?_map, hx]; rfl), ?_⟩)⟩
            simp only [ha, hn]; exact many hs R k
          · cases h
        · rename_i ha
          split at h
          · rename_i hs
            refine ⟨_, h, fun R k => tiV_p h1 (drV_p hd ⟨_, (by rw [List.getElem?_map, hx]; rfl), ?_⟩)⟩
            simp only [ha]; exact one hs R k
          · cases h
        · cases h
      · cases h
    · cases h
  · cases h
end Go.Vc

namespace Go.Vc
open Go Go.RowKit
/-! ### cells as a row's cells, as a function -/
def selR (k : Nat) : PV → Option R
  | .x (.slc none 0 0) => some (.sl k [])
  | .x (.int k n) => some (.val (.int k n))
  | .x (.bool b) => some (.val (.bool b))
  | .x (.lit b) => some (.val (.bool b))
  | .x (.str s) => some (.val (.string s))
  | .sl k els => some (.sl k els)
  | _ => none
def selL : List Nat → List PV → Option (List R)
  | _, [] => some []
  | ks, p :: ps => match selR ks.head! p with
    | some r => match selL ks.tail ps with | some rs => some (r :: rs) | none => none
    | none => none
theorem toRK_iff : ∀ (ps : List PV) (ks : List Nat) (K : List R → Prop), toRK ks ps K ↔ ∃ rs, selL ks ps = some rs ∧ K rs
  | [], ks, K => by
    have : toRK ks [] K ↔ K [] := by cases ks <;> exact Iff.rfl
    rw [this]
    exact ⟨fun h => ⟨[], rfl, h⟩, fun ⟨rs, h, k⟩ => by simp only [selL, Option.some.injEq] at h; subst h; exact k⟩
  | p :: ps, ks, K => by
    have step : ∀ r, selR ks.head! p = some r → ((∃ rs, selL ks (p :: ps) = some rs ∧ K rs) ↔ toRK ks.tail ps fun l => K (r :: l)) := by
      intro r hr
      rw [toRK_iff ps]
      simp only [selL, hr]
      constructor
      · rintro ⟨rs, h, k⟩
        cases hs : selL ks.tail ps with
        | none => rw [hs] at h; cases h
        | some l => rw [hs] at h; simp only [Option.some.injEq] at h; subst h; exact ⟨l, rfl, k⟩
      · rintro ⟨l, h, k⟩
        rw [h]; exact ⟨_, rfl, k⟩
    have stop : selR ks.head! p = none → ((∃ rs, selL ks (p :: ps) = some rs ∧ K rs) ↔ False) := by
      intro hr
      simp only [selL, hr]
      exact ⟨(fun ⟨_, h, _⟩ => by cases h), fun h => h.elim⟩
    unfold toRK
    split
    · exact (step _ rfl).symm
    · split
      · exact (step _ rfl).symm
      · exact (step _ rfl).symm
      · exact (step _ rfl).symm
      · exact (step _ rfl).symm
      · rename_i y hne y2 h1 h2 h3 h4
        refine (stop ?_).symm
        unfold selR
        split
        · rename_i e; cases e; exact (hne rfl).elim
        · rename_i e; cases e; exact (h1 _ _ rfl).elim
        · rename_i e; cases e; exact (h2 _ rfl).elim
        · rename_i e; cases e; exact (h3 _ rfl).elim
        · rename_i e; cases e; exact (h4 _ rfl).elim
        · rename_i e; cases e
        · rfl
    · exact (step _ rfl).symm
    · rename_i h1 h2 h3
      refine (stop ?_).symm
      unfold selR
      split
      · exact (h1 rfl).elim
      · exact (h2 _ rfl).elim
      · exact (h2 _ rfl).elim
      · exact (h2 _ rfl).elim
      · exact (h2 _ rfl).elim
      · exact (h3 _ _ rfl).elim
      · rfl
theorem selL_len : ∀ {ps : List PV} {ks : List Nat} {rs : List R}, selL ks ps = some rs → rs.length = ps.length
  | [], ks, rs, h => by simp only [selL, Option.some.injEq] at h; subst h; rfl
  | p :: ps, ks, rs, h => by
    simp only [selL] at h
    split at h
    · split at h
      · rename_i l hl
        simp only [Option.some.injEq] at h; subst h
        simp [selL_len hl]
      · cases h
    · cases h
theorem selL_app : ∀ {a b : List PV} {ks : List Nat} {rs : List R}, selL ks (a ++ b) = some rs → ∃ ra rb, selL ks a = some ra ∧ selL (ks.drop a.length) b = some rb ∧ rs = ra ++ rb
  | [], b, ks, rs, h => ⟨[], rs, rfl, h, rfl⟩
  | p :: a, b, ks, rs, h => by
    simp only [List.cons_append, selL] at h
    split at h
    · rename_i r hr
      split at h
      · rename_i l hl
        simp only [Option.some.injEq] at h; subst h
        obtain ⟨ra, rb, h1, h2, rfl⟩ := selL_app hl
        refine ⟨r :: ra, rb, by simp only [selL, hr, h1], ?_, rfl⟩
        rw [List.length_cons, ← List.drop_tail]; exact h2
      · cases h
    · cases h
theorem sel_cells {t : DT} : ∀ (y : t.den) (r : List DV) (kr : List Nat) (rs : List R), selL kr (pL r) = some rs → selL (t.ks kr) (pL (t.cells y r)) = some (t.enc y ++ rs) := by
  induction t with
  | pair a b iha ihb =>
    intro y r kr rs h
    simp only [DT.ks, DT.cells, DT.enc, List.append_assoc]
    exact iha y.1 _ _ _ (ihb y.2 r kr rs h)
  | unit => intro y r kr rs h; exact h
  | int k => intro y r kr rs h; simp only [DT.ks, DT.cells, DT.enc, pL, DV.p, selL, List.tail_cons, h]; rfl
  | bool => intro y r kr rs h; simp only [DT.ks, DT.cells, DT.enc, pL, DV.p, selL, List.tail_cons, h]; rfl
  | str => intro y r kr rs h; simp only [DT.ks, DT.cells, DT.enc, pL, DV.p, selL, List.tail_cons, h]; rfl
  | slc t ih => intro y r kr rs h; simp only [DT.ks, DT.cells, DT.enc, pL, DV.p, selL, List.tail_cons, h]; rfl
theorem wr_split {α : Type} : ∀ (vs xs : List α) (off : Nat), off + vs.length ≤ xs.length → wr xs off vs = xs.take off ++ (vs ++ xs.drop (off + vs.length))
  | [], xs, off, h => by simp [wr]
  | v :: vs, xs, off, h => by
    simp only [List.length_cons] at h
    simp only [wr]
    rw [wr_split vs _ (off + 1) (by rw [List.length_set]; omega)]
    have e1 : (xs.set off v).take (off + 1) = xs.take off ++ [v] := by
      rw [List.set_eq_take_append_cons_drop, if_pos (by omega), List.take_append, List.take_of_length_le (by rw [List.length_take]; omega), List.length_take, Nat.min_eq_left (by omega), show off + 1 - off = 1 by omega]
      rfl
    have e2 : (xs.set off v).drop (off + 1 + vs.length) = xs.drop (off + (v :: vs).length) := by
      rw [List.drop_set_of_lt (by omega), List.length_cons]
      congr 1; omega
    rw [e1, e2, List.append_assoc]; rfl
theorem pL_ln (xs : List DV) : (pL xs).length = xs.length := by
  induction xs with
  | nil => rfl
  | cons x xs ih => simp [pL, ih]
/-- an element of which some cells are written -/
theorem of_part {t : DT} {y y' : t.den} {cs : List DV} {off : Nat} (h : t.of (wr (t.cells y []) off cs) = some (y', [])) (hk : off + cs.length ≤ t.size) :
    ∃ rs, (∀ K : List R → Prop, K rs → toRK ((t.ks []).drop off) (pL cs) K) ∧ rs.length = cs.length ∧ t.enc y' = (t.enc y).take off ++ rs ++ (t.enc y).drop (off + rs.length) := by
  obtain ⟨hd, e1, _, _, _, _, h6⟩ := of_spec h
  have h7 := h6 [] [] (fun l => l = t.enc y') (fun K' k => k) (by simp)
  obtain ⟨rs, h8, rfl⟩ := (toRK_iff _ _ _).1 h7
  have hcl := cells_len t y
  rw [wr_split _ _ _ (by omega), pL_app, pL_app] at h8
  obtain ⟨ra, rx, a1, a2, a3⟩ := selL_app h8
  obtain ⟨rc, rb, b1, b2, b3⟩ := selL_app a2
  have h9 := sel_cells (t := t) y [] [] [] rfl
  rw [List.append_nil] at h9
  have e2 : t.cells y [] = (t.cells y []).take off ++ (((t.cells y []).drop off).take cs.length ++ (t.cells y []).drop (off + cs.length)) := by
    conv => lhs; rw [← List.take_append_drop off (t.cells y [])]
    congr 1
    conv => lhs; rw [← List.take_append_drop cs.length ((t.cells y []).drop off)]
    rw [List.drop_drop]
  rw [e2, pL_app, pL_app] at h9
  obtain ⟨ra', rx', a1', a2', a3'⟩ := selL_app h9
  obtain ⟨rc', rb', b1', b2', b3'⟩ := selL_app a2'
  rw [a1] at a1'
  obtain rfl := Option.some.inj a1'
  have lra := selL_len a1
  have lrc := selL_len b1
  have lrc' := selL_len b1'
  rw [pL_ln, List.length_take, Nat.min_eq_left (by omega)] at lra
  rw [pL_ln] at lrc lrc'
  rw [List.length_take, List.length_drop, Nat.min_eq_left (by omega)] at lrc'
  have eb : rb = rb' := by
    have hl : (pL (((t.cells y []).drop off).take cs.length)).length = (pL cs).length := by rw [pL_ln, pL_ln, List.length_take, List.length_drop, Nat.min_eq_left (by omega)]
    rw [hl] at b2'
    rw [b2] at b2'
    exact Option.some.inj b2'
  refine ⟨rc, fun K k => (toRK_iff _ _ _).2 ⟨rc, ?_, k⟩, lrc, ?_⟩
  · rw [pL_ln, List.length_take, Nat.min_eq_left (by omega)] at b1
    exact b1
  · rw [a3, b3, a3', b3', ← eb, ← lra, List.take_left, List.append_assoc]
    congr 2
    rw [← lra] at *
    rw [List.drop_append, List.drop_eq_nil_of_le (by omega), List.nil_append, show ra.length + rc.length - ra.length = rc'.length by omega, List.drop_left]
end Go.Vc

namespace Go.Vc
open Go Go.RowKit
variable {β : Type}

/-! ### Regions -/
def guardD (W : Wd) (ops : List Oper) (ts : List DV) (j : Nat) (want : Bool) (yes no : List DV → Option β) : Option β :=
  match nthDst ops j with
  | none => none
  | some d => match gtV ts d with
    | some (.x (.lit true)) => match want with | true => yes ts | false => no ts
    | some (.x (.lit false)) => match want with | true => no ts | false => yes ts
    | some (.x (.bool b)) => W.cnd b
      (setE ts d (.x (.lit true)) fun ts => match want with | true => yes ts | false => no ts)
      (setE ts d (.x (.lit false)) fun ts => match want with | true => no ts | false => yes ts)
    | some (.x .und) => no ts
    | _ => none
def evList (W : Wd) (T : List TI) (C : ESs) (nl : Nat) (al : Nat → Bool) (av : List (Nat × Nat)) (ops : List Oper) : List Oper → List DV → DBs → List DR → DK β → Option β
  | [], ts, pb, rw, K => K ts pb rw
  | o :: rest, ts, pb, rw, K => match o.guard with
    | none => evOpN W T C nl al av o ts pb rw fun ts pb rw => evList W T C nl al av ops rest ts pb rw K
    | some (j, want) => guardD W ops ts j want
      (fun ts => evOpN W T C nl al av o ts pb rw fun ts pb rw => evList W T C nl al av ops rest ts pb rw K)
      (fun ts => retE o.dst (.x .und) ts pb rw fun ts pb rw => evList W T C nl al av ops rest ts pb rw K)
def stepD (W : Wd) (T : List TI) (C : ESs) (nl : Nat) (al : Nat → Bool) (av : List (Nat × Nat)) (ops : List Oper) (o : Oper) (ts : List DV) (pb : DBs) (rw : List DR) (K : DK β) : Option β :=
  match o.guard with
  | none => evOpN W T C nl al av o ts pb rw K
  | some (j, want) => guardD W ops ts j want (fun ts => evOpN W T C nl al av o ts pb rw K) (fun ts => retE o.dst (.x .und) ts pb rw K)
def awayV (Ia : List Nat) : DV → Bool
  | .own i _ => match memN i Ia with | false => true | true => false
  | .el _ _ _ => true
  | _ => false
def seenV (sn : Nat → Bool) : DV → Bool
  | .own i _ => sn i
  | _ => false
def rdE (W : Wd) (T : List TI) (Ia : List Nat) (sn : Nat → Bool) (ph : Bool) (o : Oper) (ts : List DV) (pb : DBs) (rw : List DR) (ret : DV → Option β) : Option β :=
  match o.op with
  | .load t a => match ph with
    | false => o1 (opV ts a) fun A => match awayV Ia A with | true => loadE W T t A pb rw ret | false => none
    | true => o1 (opV ts a) fun A => match seenV sn A with | true => loadE W T t A pb rw ret | false => none
  | op => purE W T op ts rw ret
def nthO : List Oper → Nat → Option Oper
  | [], _ => none
  | o :: _, 0 => some o
  | _ :: os, n + 1 => nthO os n
def evT (W : Wd) (T : List TI) (C : ESs) (nl : Nat) (al : Nat → Bool) (av : List (Nat × Nat)) (Ia : List Nat) (sn : Nat → Bool) (ops : List Oper) : Bool → OT → List DV → DBs → List DR → DK β → Option β
  | _, .nil, ts, pb, rw, K => K ts pb rw
  | ph, .rd i t, ts, pb, rw, K => match nthO ops i with
    | some o => match o.guard with
      | none => rdE W T Ia sn ph o ts pb rw fun x => retE o.dst x ts pb rw fun ts pb rw => evT W T C nl al av Ia sn ops ph t ts pb rw K
      | some (j, want) => guardD W ops ts j want
        (fun ts => rdE W T Ia sn ph o ts pb rw fun x => retE o.dst x ts pb rw fun ts pb rw => evT W T C nl al av Ia sn ops ph t ts pb rw K)
        (fun ts => retE o.dst (.x .und) ts pb rw fun ts pb rw => evT W T C nl al av Ia sn ops ph t ts pb rw K)
    | none => none
  | _, .op i t, ts, pb, rw, K => match nthO ops i with
    | some o => stepD W T C nl al av ops o ts pb rw fun ts pb rw => evT W T C nl al av Ia sn ops true t ts pb rw K
    | none => none
  | _, .two i j ti tj, ts, pb, rw, K => match nthO ops i, nthO ops j with
    | some o, some o' => W.both (stepD W T C nl al av ops o ts pb rw fun ts pb rw => evT W T C nl al av Ia sn ops true ti ts pb rw K)
      (stepD W T C nl al av ops o' ts pb rw fun ts pb rw => evT W T C nl al av Ia sn ops true tj ts pb rw K)
    | _, _ => none
  | _, .three i j k ti tj tk, ts, pb, rw, K => match nthO ops i, nthO ops j, nthO ops k with
    | some o, some o', some o2 => W.both (stepD W T C nl al av ops o ts pb rw fun ts pb rw => evT W T C nl al av Ia sn ops true ti ts pb rw K)
      (W.both (stepD W T C nl al av ops o' ts pb rw fun ts pb rw => evT W T C nl al av Ia sn ops true tj ts pb rw K)
        (stepD W T C nl al av ops o2 ts pb rw fun ts pb rw => evT W T C nl al av Ia sn ops true tk ts pb rw K))
    | _, _, _ => none
def placesE : List Oper → DBs → Nat → (List (Nat × Nat) → DBs → Option β) → Option β
  | [], pb, _, K => K [] pb
  | o :: os, pb, n, K => match o.op, o.dst with
    | .alloc _, some d => pushE pb none fun pb => placesE os pb (n + 1) fun av pb => litE n fun m => K ((d, m) :: av) pb
    | .box _ _, some d => pushE pb none fun pb => placesE os pb (n + 1) fun av pb => litE n fun m => K ((d, m) :: av) pb
    | _, _ => placesE os pb n K
abbrev DTs := List (Nat × List Nat × OT)
def treeV : DTs → Nat → Option (List Nat × OT)
  | [], _ => none
  | (k, o) :: os, n => match Nat.beq k n with | true => some o | false => treeV os n
def hasE : DBs → Nat → Bool
  | [], _ => false
  | o :: _, 0 => match o with | some _ => true | none => false
  | _ :: pb, n + 1 => hasE pb n
def drawD (W : Wd) (T : List TI) (C : ESs) (O : DTs) (nl : Nat) (id : Nat) (ops : Array Oper) (ts : List DV) (pb : DBs) (rw : List DR) (K : DK β) : Option β :=
  match treeV O id with
  | some (Ia, t) => match Region.noSelect ops && okT ops ops.size t (Array.replicate ops.size false) with
    | true => litE pb.length fun n => placesE ops.toList pb n fun av pb' => evT W T C nl (alOf Ia n) av Ia (snOf Ia (hasE pb)) ops.toList false t ts pb' rw K
    | false => none
  | none => none

/-! ### Joins and loops: what they carry -/
/-- what is carried of what is owned -/
inductive RKd where
  | dead
  | own (e : TypeId) (t : DT)
  | itr
inductive DS where
  | t (t : DT)
  | row (j : Nat)
  | ob (j : Nat)
  | own (i off : Nat)
  | nil
structure DJ where
  sl : List (Nat × DS)
  bo : List (Nat × List DS)
  ro : List RKd
def dsS : List (Nat × DS) → List DS
  | [] => []
  | (_, d) :: l => d :: dsS l
def dsN : List (Nat × DS) → List Nat
  | [] => []
  | (n, _) :: l => n :: dsN l
def boN : List (Nat × List DS) → List Nat
  | [] => []
  | (n, _) :: l => n :: boN l
def vsT : List DS → DT → DT
  | [], r => r
  | d :: l, r => match d with
    | .t t => .pair t (vsT l r)
    | _ => vsT l r
def boT : List (Nat × List DS) → DT → DT
  | [], r => r
  | (_, cs) :: l, r => vsT cs (boT l r)
def roT : List RKd → DT
  | [] => .unit
  | .own _ t :: l => .pair (.slc t) (roT l)
  | .itr :: l => .pair .str (.pair (.int .i64) (roT l))
  | .dead :: l => roT l
@[reducible] def DJ.T (j : DJ) : DT := vsT (dsS j.sl) (boT j.bo (roT j.ro))
def vsV : (l : List DS) → (r : DT) → (vsT l r).den → List DV × r.den
  | [], _, z => ([], z)
  | .t t :: l, r, z => match vsV l r z.2 with | (vs, y) => (t.val z.1 :: vs, y)
  | .row j :: l, r, z => match vsV l r z with | (vs, y) => (.row j :: vs, y)
  | .ob j :: l, r, z => match vsV l r z with | (vs, y) => (.ob j :: vs, y)
  | .own i o :: l, r, z => match vsV l r z with | (vs, y) => (.own i o :: vs, y)
  | .nil :: l, r, z => match vsV l r z with | (vs, y) => (.x (.slc none 0 0) :: vs, y)
def boV : (l : List (Nat × List DS)) → (r : DT) → (boT l r).den → List (List DV) × r.den
  | [], _, z => ([], z)
  | (_, cs) :: l, r, z => match vsV cs (boT l r) z with
    | (vs, y) => match boV l r y with | (vss, y) => (vs :: vss, y)
def roV : (l : List RKd) → (roT l).den → List DR
  | [], _ => []
  | .own e t :: l, z => .own e t z.1 :: roV l z.2
  | .itr :: l, z => .itr z.1 z.2.1 :: roV l z.2.2
  | .dead :: l, z => .dead :: roV l z
def roN : List RKd → Nat → Bool
  | [], _ => false
  | o :: _, 0 => match o with | .own _ _ => true | _ => false
  | _ :: l, n + 1 => roN l n
def roI : List RKd → Nat → Bool
  | [], _ => false
  | o :: _, 0 => match o with | .itr => true | _ => false
  | _ :: l, n + 1 => roI l n
def okObV (ro : List RKd) (rw : List DR) (j : Nat) (v : DV) : Bool :=
  roI ro j && match v with
  | .ob j' => match Nat.beq j j', drV rw j with | true, some (.itr _ _) => true | _, _ => false
  | _ => false
def okRowV (ro : List RKd) (rw : List DR) (j : Nat) (v : DV) : Bool :=
  roN ro j && match v with
  | .row j' => match Nat.beq j j', drV rw j with | true, some (.own _ _ _) => true | _, _ => false
  | .x (.slc none 0 0) => match drV rw j with | some (.own _ _ _) => false | _ => true
  | _ => false
def okOwnV (i o : Nat) (v : DV) : Bool :=
  match v with
  | .own i' o' => Nat.beq i i' && Nat.beq o o'
  | _ => false
def okNilV (v : DV) : Bool :=
  match v with
  | .x (.slc none 0 0) => true
  | _ => false
def vsX (ro : List RKd) (rw : List DR) : (l : List DS) → (r : DT) → List DV → r.den → Option (vsT l r).den
  | [], _, vs, y => match vs with | [] => some y | _ => none
  | .t t :: l, r, vs, y => match vs with
    | v :: vs => match t.ofV v, vsX ro rw l r vs y with
      | some x, some z => some (x, z)
      | _, _ => none
    | _ => none
  | .row j :: l, r, vs, y => match vs with
    | v :: vs => match okRowV ro rw j v with
      | true => vsX ro rw l r vs y
      | false => none
    | _ => none
  | .ob j :: l, r, vs, y => match vs with
    | v :: vs => match okObV ro rw j v with
      | true => vsX ro rw l r vs y
      | false => none
    | _ => none
  | .own i o :: l, r, vs, y => match vs with
    | v :: vs => match okOwnV i o v with
      | true => vsX ro rw l r vs y
      | false => none
    | _ => none
  | .nil :: l, r, vs, y => match vs with
    | v :: vs => match okNilV v with
      | true => vsX ro rw l r vs y
      | false => none
    | _ => none
def boX (ro : List RKd) (pb : DBs) (rw : List DR) : (l : List (Nat × List DS)) → (r : DT) → r.den → Option (boT l r).den
  | [], _, y => some y
  | (i, cs) :: l, r, y => match dbV pb i, boX ro pb rw l r y with
    | some b, some z => vsX ro rw cs (boT l r) b.cells z
    | _, _ => none
def roX : (l : List RKd) → List DR → Option (roT l).den
  | [], _ => some ()
  | .own e t :: l, rw => match rw with
    | .own e' t' xs :: rw => match Nat.beq e e', t'.same t, roX l rw with
      | true, some ⟨h⟩, some y => some (DT.castL h xs, y)
      | _, _, _ => none
    | .itr _ _ :: _ => none
    | .dead :: rw => match roX l rw with | some y => some ([], y) | none => none
    | [] => match roX l [] with | some y => some ([], y) | none => none
  | .itr :: l, rw => match rw with
    | .itr s p :: rw => match roX l rw with | some y => some (s, p, y) | none => none
    | _ => none
  | .dead :: l, rw => roX l rw.tail
/-- rows that are one's own no longer there -/
def deadL : List RKd → List DR → Nat → List Nat
  | ro, rw, n => match rw with
    | [] => []
    | .own _ _ _ :: rw => match ro with
      | .own _ _ :: ro => deadL ro rw (n + 1)
      | _ :: ro => n :: deadL ro rw (n + 1)
      | [] => n :: deadL [] rw (n + 1)
    | .itr _ _ :: rw => deadL ro.tail rw (n + 1)
    | .dead :: rw => deadL ro.tail rw (n + 1)
def gtVs (ts : List DV) : List Nat → Option (List DV)
  | [] => some []
  | n :: ns => match gtV ts n, gtVs ts ns with
    | some v, some vs => some (v :: vs)
    | _, _ => none
mutual
def DV.nr : DV → Bool
  | .row _ => false
  | .ob _ => false
  | .re _ _ _ => false
  | .fn _ cs => nrL cs
  | .agg cs => nrL cs
  | .tup cs => nrL cs
  | _ => true
def nrL : List DV → Bool
  | [] => true
  | p :: ps => p.nr && nrL ps
end
def rfX (y : XV) : Bool :=
  match y with
  | .own _ _ _ => false
  | .fn _ _ => false
  | .agg _ => false
  | .tup _ => false
  | .junk => false
  | _ => true
mutual
/-- alike to itself -/
def DV.rf (pb : DBs) : DV → Bool
  | .x y => rfX y
  | .sl _ _ => true
  | .el _ _ _ => true
  | .own i _ => (dbV pb i).isSome
  | .fn _ cs => rfL pb cs
  | .agg cs => rfL pb cs
  | .tup cs => rfL pb cs
  | _ => false
def rfL (pb : DBs) : List DV → Bool
  | [] => true
  | p :: ps => p.rf pb && rfL pb ps
end
def topJ : DV → Bool
  | .row _ => true
  | .ob _ => true
  | .re _ _ _ => true
  | .junk => true
  | _ => false
/-- each slot that is not written is known as it is -/
def rfSl (pb : DBs) : List DV → List Bool → Bool
  | [], [] => true
  | v :: vs, b :: bs => (b || (topJ v || (v.nr && v.rf pb))) && rfSl pb vs bs
  | _, _ => false
def rfBo (pb0 : DBs) (l : List Nat) : Nat → DBs → Bool
  | _, [] => true
  | n, none :: pb => rfBo pb0 l (n + 1) pb
  | n, some b :: pb => (memN n l || (nrL b.cells && rfL pb0 b.cells)) && rfBo pb0 l (n + 1) pb
/-- what is carried is written, or a row -/
def okSl (ts : List DV) (wr : List Nat) : List (Nat × DS) → Bool
  | [] => true
  | (n, d) :: l => (memN n wr || (match ts[n]? with | some v => !v.nr | none => false)) && okSl ts wr l
def ownDS (pb : DBs) : List DS → Bool
  | [] => true
  | d :: l => (match d with | .own i _ => (dbV pb i).isSome | _ => true) && ownDS pb l
def ownBo (pb : DBs) : List (Nat × List DS) → Bool
  | [] => true
  | (i, cs) :: l => (dbV pb i).isSome && ownDS pb cs && ownBo pb l
/-- rows that are carried are among those of the head -/
def maskOf (ws : List Nat) : Nat → Nat → List Bool
  | 0, _ => []
  | n + 1, i => memN i ws :: maskOf ws n (i + 1)
/-- slots that hold rows within tuples: they are not known any longer -/
def badS : Nat → List DV → List Nat
  | _, [] => []
  | n, v :: vs => match v.nr with | true => badS (n + 1) vs | false => n :: badS (n + 1) vs
def wrJ (x : Code) (ts : List DV) : List Nat := writes x ++ badS 0 ts
def nodupN : List Nat → Bool
  | [] => true
  | n :: l => !memN n l && nodupN l
def okJ (j : DJ) (x : Code) (ts : List DV) (pb : DBs) : Bool :=
  okWr ts.length x (wrOf 0 (maskOf (wrJ x ts) ts.length 0)) && rfSl pb ts (maskOf (wrJ x ts) ts.length 0) && rfBo pb (boN j.bo) 0 pb && okSl ts (writes x) j.sl && ownDS pb (dsS j.sl) && ownBo pb j.bo && nodupN (dsN j.sl) && nodupN (boN j.bo)
/-- boxes that are not carried are as they were -/
def cleanB (l : List Nat) : Nat → DBs → DBs → Bool
  | _, [], _ => true
  | n, o :: pb, pb' => match o, pb' with
    | none, [] => false
    | none, _ :: pb' => cleanB l (n + 1) pb pb'
    | some b, some b' :: pb' => Nat.beq b.ty b'.ty && (memN n l || !b'.w) && cleanB l (n + 1) pb pb'
    | some _, _ => false
def outD (nl : Nat) (j : DJ) (pb0 : DBs) (ts : List DV) (pb : DBs) (rw : List DR) (k : j.T.den → Option β) : Option β :=
  match cleanB (boN j.bo) 0 pb0 pb with
  | true => frzE nl (deadL j.ro rw 0) ts pb rw [] fun ts pb rw _ => match gtVs ts (dsN j.sl), roX j.ro rw with
    | some vs, some y => match boX j.ro pb rw j.bo (roT j.ro) y with
      | some y => match vsX j.ro rw (dsS j.sl) (boT j.bo (roT j.ro)) vs y with
        | some z => k z
        | none => none
      | none => none
    | _, _ => none
  | false => none
def junkE : List DV → List Bool → (List DV → Option β) → Option β
  | [], [], K => K []
  | x :: xs, b :: bs, K => match b with
    | true => junkE xs bs fun l => K (.junk :: l)
    | false => junkE xs bs fun l => K (x :: l)
  | _, _, _ => none
def setsE : List DV → List Nat → List DV → (List DV → Option β) → Option β
  | ts, [], [], K => K ts
  | ts, s :: ss, v :: vs, K => setE ts s v fun ts => setsE ts ss vs K
  | _, _, _, _ => none
def setBs : DBs → List Nat → List (List DV) → (DBs → Option β) → Option β
  | pb, [], [], K => K pb
  | pb, i :: is, c :: cs, K => match dbV pb i with
    | some b => setDB pb i (some ⟨b.ty, c, true⟩) fun pb => setBs pb is cs K
    | none => none
  | _, _, _, _ => none
def headD (j : DJ) (x : Code) (ts : List DV) (pb : DBs) (z : j.T.den) (K : DK β) : Option β :=
  match vsV (dsS j.sl) (boT j.bo (roT j.ro)) z with
  | (vs, y) => match boV j.bo (roT j.ro) y with
    | (vss, y) => subLE norowD ts fun ts' => junkE ts' (maskOf (wrJ x ts) ts.length 0) fun ts => setsE ts (dsN j.sl) vs fun ts => subBE norowD pb fun pb => setBs pb (boN j.bo) vss fun pb => K ts pb (roV j.ro y)
def clrB : DBs → DBs
  | [] => []
  | some b :: pb => some ⟨b.ty, b.cells, false⟩ :: clrB pb
  | none :: pb => none :: clrB pb
def orW : DBs → DBs → DBs
  | _, [] => []
  | [], pb => pb
  | o :: ps, none :: pb => none :: orW ps pb
  | o :: ps, some b :: pb => some ⟨b.ty, b.cells, b.w || (match o with | some a => a.w | none => true)⟩ :: orW ps pb
def djV : List (Nat × DJ) → Nat → Option DJ
  | [], _ => none
  | (k, j) :: l, n => match Nat.beq k n with | true => some j | false => djV l n
/-- which form of a join, of a loop is meant: that whose rows are where they are -/
def fitD (d : DS) (v : DV) : Bool :=
  match d, v with
  | .row k, .row k' => Nat.beq k k'
  | .ob k, .ob k' => Nat.beq k k'
  | _, _ => true
def fitS (ts : List DV) : List (Nat × DS) → Bool
  | [] => true
  | (n, d) :: l => (match gtV ts n with | some v => fitD d v | none => true) && fitS ts l
def fitC : List DS → List DV → Bool
  | d :: l, v :: vs => fitD d v && fitC l vs
  | _, _ => true
def fitB (pb : DBs) : List (Nat × List DS) → Bool
  | [] => true
  | (i, cs) :: l => (match dbV pb i with | some b => fitC cs b.cells | none => true) && fitB pb l
def djF : List (Nat × DJ) → Nat → List DV → DBs → Option DJ
  | [], _, _, _ => none
  | (k, j) :: l, n, ts, pb => match Nat.beq k n && (fitS ts j.sl && fitB pb j.bo) with | true => some j | false => djF l n ts pb
def djW (J : List (Nat × DJ)) (n : Nat) (ts : List DV) (pb : DBs) : Option DJ :=
  match djV J n with
  | none => none
  | some j => match djF J n ts pb with | some j => some j | none => some j
def ev (W : Wd) (T : List TI) (C : ESs) (O : DTs) (JC JL : List (Nat × DJ)) (nl : Nat) : Code → (Exit → DK β) → List DV → DBs → List DR → Option β
  | .skip, Q, ts, pb, rw => Q .normal ts pb rw
  | .label _, Q, ts, pb, rw => Q .normal ts pb rw
  | .exit id, Q, ts, pb, rw => Q (.exit id) ts pb rw
  | .ret, Q, ts, pb, rw => Q .ret ts pb rw
  | .seq x y, Q, ts, pb, rw => match djW JC (codeKey y) ts pb with
    | none => ev W T C O JC JL nl x (fun e ts pb rw => match e with
      | .normal => ev W T C O JC JL nl y Q ts pb rw
      | .exit i => Q (.exit i) ts pb rw
      | .ret => Q .ret ts pb rw
      | _ => none) ts pb rw
    | some j => match okJ j x ts pb with
      | true => W.join (X := j.T.den) (fun z => headD j x ts pb z fun ts1 pb1 rw1 => ev W T C O JC JL nl y Q ts1 pb1 rw1) fun k =>
        ev W T C O JC JL nl x (fun e ts' pb' rw' => match e with
          | .normal => outD nl j pb ts' pb' rw' k
          | .exit i => Q (.exit i) ts' (orW pb pb') rw'
          | .ret => Q .ret ts' (orW pb pb') rw'
          | _ => none) ts (clrB pb) rw
      | false => none
  | .cond c x y, Q, ts, pb, rw => match opV ts c with
    | some (.x (.lit true)) => ev W T C O JC JL nl x Q ts pb rw
    | some (.x (.lit false)) => ev W T C O JC JL nl y Q ts pb rw
    | some (.x (.bool b)) => W.cnd b (ev W T C O JC JL nl x Q ts pb rw) (ev W T C O JC JL nl y Q ts pb rw)
    | _ => none
  | .block id x, Q, ts, pb, rw => ev W T C O JC JL nl x (fun e ts pb rw => match e with
    | .normal => Q .normal ts pb rw
    | .exit i => match Nat.beq i id with | true => Q .normal ts pb rw | false => Q (.exit i) ts pb rw
    | .ret => Q .ret ts pb rw
    | _ => none) ts pb rw
  | .scope x, Q, ts, pb, rw => ev W T C O JC JL nl x Q ts pb rw
  | .region id ops draw, Q, ts, pb, rw => match draw with
    | false => evList W T C nl (fun _ => true) [] ops.toList ops.toList ts pb rw (Q .normal)
    | true => drawD W T C O nl id ops ts pb rw (Q .normal)
  | .loop x, Q, ts, pb, rw => match djW JL (codeKey x) ts pb with
    | none => none
    | some j => match okJ j x ts pb with
      | true => outD nl j pb ts (clrB pb) rw fun z0 => W.loop (X := j.T.den) (fun z again => headD j x ts (clrB pb) z fun ts1 pb1 rw1 =>
        ev W T C O JC JL nl x (fun e ts' pb' rw' => match e with
          | .normal => outD nl j pb ts' pb' rw' again
          | .exit i => Q (.exit i) ts' (orW pb pb') rw'
          | .ret => Q .ret ts' (orW pb pb') rw'
          | _ => none) ts1 pb1 rw1) z0
      | false => none
  | _, _, _, _, _ => none

/-! ### Functions -/
def resE (W : Wd) (T : List TI) : List ResultVar → List DV → DBs → List DR → (List DV → Option β) → Option β
  | [], _, _, _, K => K []
  | .tmp t :: rs, ts, pb, rw, K => match gtV ts t with
    | some x => resE W T rs ts pb rw fun xs => K (x :: xs)
    | none => none
  | .cell c t :: rs, ts, pb, rw, K => match gtV ts c with
    | some A => loadE W T t A pb rw fun x => resE W T rs ts pb rw fun xs => K (x :: xs)
    | none => none
mutual
def qOf : (Q : QT) → DV → List DR → Option (Q.den × List DR)
  | .v t, p, rw => match t.ofV p with | some x => some (x, rw) | none => none
  | .own e t, p, rw => match p with
    | .row j => match drV rw j with
      | some (.own e' t' l) => match Nat.beq e' e, t'.same t with
        | true, some ⟨h⟩ => some (DT.castL h l, rw.set j .dead)
        | _, _ => none
      | _ => none
    | .x (.slc none 0 0) => some ([], rw)
    | _ => none
  | .unit, p, rw => match p with | .tup [] => some ((), rw) | _ => none
  | .pair a b, p, rw => match p with
    | .tup (p :: ps) => match qOf a p rw with
      | some (x, rw) => match qOfs b ps rw with
        | some (y, rw) => some ((x, y), rw)
        | none => none
      | none => none
    | _ => none
def qOfs : (Q : QT) → List DV → List DR → Option (Q.den × List DR)
  | .unit, ps, rw => match ps with | [] => some ((), rw) | _ => none
  | .pair a b, ps, rw => match ps with
    | p :: ps => match qOf a p rw with
      | some (x, rw) => match qOfs b ps rw with
        | some (y, rw) => some ((x, y), rw)
        | none => none
      | none => none
    | _ => none
  | _, _, _ => none
end
def oneV (xs : List DV) : DV := match xs with | [x] => x | xs => .tup xs
mutual
def frowsT : QT → DV → List Nat → List Nat
  | .v _, p, acc => p.rows acc
  | .own _ _, _, acc => acc
  | .unit, _, acc => acc
  | .pair a b, p, acc => match p with | .tup (p :: ps) => frowsT a p (frowsTs b ps acc) | _ => acc
def frowsTs : QT → List DV → List Nat → List Nat
  | .pair a b, ps, acc => match ps with | p :: ps => frowsT a p (frowsTs b ps acc) | _ => acc
  | _, _, acc => acc
end
def retD (W : Wd) (T : List TI) (rs : List ResultVar) (nl : Nat) (Q : QT) (e : Exit) (ts : List DV) (pb : DBs) (rw : List DR) : Option Q.den :=
  match e with
  | .normal => resE W T rs ts pb rw fun xs => frzE nl (frowsT Q (oneV xs) []) ts pb rw [oneV xs] fun _ _ rw ps => match ps with
    | [p] => match qOf Q p rw with | some (q, _) => some q | none => none
    | _ => none
  | .ret => resE W T rs ts pb rw fun xs => frzE nl (frowsT Q (oneV xs) []) ts pb rw [oneV xs] fun _ _ rw ps => match ps with
    | [p] => match qOf Q p rw with | some (q, _) => some q | none => none
    | _ => none
  | _ => none
def initE : List DV → Nat → (List DV → Option β) → Option β
  | [], n, K => K (List.replicate n (.x .und))
  | x :: xs, n + 1, K => initE xs n fun l => K (x :: l)
  | _ :: _, 0, _ => none
/-- WHAT A FUNCTION COMPUTES -/
def evF (W : Wd) (T : List TI) (C : ESs) (O : DTs) (JC JL : List (Nat × DJ)) (fn : Func) (P : DT) (Q : QT) (x : P.den) : Option Q.den :=
  match fn.body with
  | some c => initE (argVs P x) fn.ntmps fun ts => ev W T C O JC JL 0 c (retD W T fn.results.toList 0 Q) ts [] []
  | none => none
end Go.Vc
