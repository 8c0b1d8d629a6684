import Derived.Test.YtnldhkhnfodplaaVcD
namespace Go.Vc
open Go

/-- The function has a body, and is called as any other. -/
def HasBody (P : Program) (f : FuncId) : Prop := ∃ fn, P.funcs[f]? = some fn ∧ (fn.name == "runtime.NumGoroutine") = false ∧ fn.body.isNone = false

/-- A CALL THAT RETURNS: what a contract says. -/
structure CallsX (P : Program) (f : FuncId) (args : Array Value) (w : World) (R : Value → World → Prop) : Prop where
  body : HasBody P f
  calls : Calls P f args w fun e w' => ∃ v, e = .returned v ∧ R v w'

theorem CallsX.mono {P : Program} {f : FuncId} {args : Array Value} {w : World} {R R' : Value → World → Prop} (h : CallsX P f args w R) (hr : ∀ v w', R v w' → R' v w') : CallsX P f args w R' :=
  ⟨h.body, h.calls.mono fun _ _ ⟨v, he, hv⟩ => ⟨v, he, hr _ _ hv⟩⟩

/-- an operation of the model's that comes to a value -/
structure RunsX (P : Program) (s : Sem Value) (w : World) (R : Value → World → Prop) : Prop where
  ex : ∃ v w', s.run P w = .ok v w' ∧ R v w'
theorem RunsX.mono {P : Program} {s : Sem Value} {w : World} {R R' : Value → World → Prop} (h : RunsX P s w R) (hr : ∀ v w', R v w' → R' v w') : RunsX P s w R' :=
  ⟨let ⟨v, w', h1, h2⟩ := h.ex; ⟨v, w', h1, hr _ _ h2⟩⟩

/-- these blocks are as they were -/
def Kept (bs : List Nat) (w w' : World) : Prop := ∀ b ∈ bs, w'.heap[b]? = w.heap[b]?

theorem Kept.of_below {bx : List Box} {W w w' : World} (hs : Sync bx W w) (hb : RowKit.Below w.heap.size w w') : Kept (blks bx) w w' := by
  intro b hm
  simp only [blks, List.mem_map] at hm
  obtain ⟨x, hx, rfl⟩ := hm
  exact hb.block _ (hs.blk_lt hx)

def ownIds : List XV → List Nat
  | [] => []
  | .own i _ _ :: xs => i :: ownIds xs
  | _ :: xs => ownIds xs
def memN : Nat → List Nat → Bool
  | _, [] => false
  | i, j :: js => match Nat.beq i j with | true => true | false => memN i js
def keptB (ids : List Nat) : Nat → List Box → List Nat
  | _, [] => []
  | i, x :: xs => match memN i ids with | true => keptB ids (i + 1) xs | false => x.blk :: keptB ids (i + 1) xs

theorem Kept.of_below' {bx : List Box} {W w w' : World} (ids : List Nat) (hs : Sync bx W w) (hb : RowKit.Below w.heap.size w w') : Kept (keptB ids 0 bx) w w' := by
  have : ∀ (bx : List Box) (i : Nat), ∀ b ∈ keptB ids i bx, b ∈ blks bx := by
    intro bx
    induction bx with
    | nil => intro i b h; simp [keptB] at h
    | cons x bx ih =>
      intro i b h
      unfold keptB at h
      split at h
      · simp only [blks, List.map_cons, List.mem_cons]; exact .inr (ih _ b h)
      · simp only [List.mem_cons] at h
        simp only [blks, List.map_cons, List.mem_cons]
        exact h.imp id (ih _ b)
  exact fun b hm => Kept.of_below hs hb b (this bx 0 b hm)

def exV : List XV → (List Value → Prop) → Prop
  | [], K => K []
  | _ :: xs, K => ∃ v, exV xs fun vs => K (v :: vs)
theorem exV_spec {xs : List XV} {K : List Value → Prop} (h : exV xs K) : ∃ vs, K vs := by
  induction xs generalizing K with
  | nil => exact ⟨[], h⟩
  | cons x xs ih => obtain ⟨v, h⟩ := h; obtain ⟨vs, h⟩ := ih h; exact ⟨_, h⟩

def updK : List Nat → List Box → World → (List Box → Prop) → Prop
  | [], bx, _, K => K bx
  | i :: is, bx, w', K => boxK bx i fun x => exV x.cells fun cs => w'.heap[x.blk]? = some (.cells cs.toArray x.ty (0, 0)) ∧ setBoxK bx i (injL cs) fun bx => updK is bx w' K

abbrev Ret := XV → Prop

def lenK : List XV → Nat → Prop → Prop
  | [], 0, K => K
  | _ :: xs, n + 1, K => lenK xs n K
  | _, _, _ => False
theorem lenK_spec {xs : List XV} {n : Nat} {K : Prop} (h : lenK xs n K) : xs.length = n ∧ K := by
  induction xs generalizing n with
  | nil => cases n <;> simp_all [lenK]
  | cons x xs ih => cases n with
    | zero => simp [lenK] at h
    | succ n => have := ih (n := n) h; simp [this]

/-- field number i -/
def fldK : List (Nat × Nat × Nat) → Nat → (Nat → Nat → Nat → Prop) → Prop
  | [], _, _ => False
  | (off, ty, sz) :: _, 0, K => match sz with | 0 => False | n + 1 => K off ty (n + 1)
  | _ :: fs, i + 1, K => fldK fs i K
theorem fldK_spec {fs : List (Nat × Nat × Nat)} {i : Nat} {K : Nat → Nat → Nat → Prop} (h : fldK fs i K) : ∃ off ty sz, fs[i]? = some (off, ty, sz) ∧ sz ≠ 0 ∧ K off ty sz := by
  induction fs generalizing i with
  | nil => exact h.elim
  | cons f fs ih =>
    cases i with
    | zero =>
      obtain ⟨off, ty, sz⟩ := f
      simp only [fldK] at h
      split at h
      · exact h.elim
      · exact ⟨_, _, _, rfl, by omega, h⟩
    | succ i => simpa using ih h

def boundK (o : Option XV) (dflt bound : Nat) (K : Nat → Prop) : Prop :=
  match o with
  | none => K dflt
  | some (.int _ i) => 0 ≤ i ∧ i ≤ bound ∧ K i.toNat
  | _ => False

def opO (ts : List XV) (o : Option Operand) (K : Option XV → Prop) : Prop :=
  match o with
  | none => K none
  | some o => opK ts o fun x => K (some x)

def partsK (ts : List XV) : List (Nat × Operand) → (List (Nat × XV) → Prop) → Prop
  | [], K => K []
  | (i, o) :: ps, K => opK ts o fun x => partsK ts ps fun xs => K ((i, x) :: xs)

def fillK (fs : List (Nat × Nat × Nat)) : List XV → List (Nat × XV) → (List XV → Prop) → Prop
  | cells, [], K => K cells
  | cells, (i, x) :: ps, K => fldK fs i fun off _ sz => cellsK x fun cs => lenK cs sz (subK cells off sz fun _ => wrK cells off cs fun cells => fillK fs cells ps K)

def posK : List (Nat × Nat × Nat) → Prop → Prop
  | [], K => K
  | (_, _, sz) :: fs, K => match sz with | 0 => False | _ + 1 => posK fs K
theorem posK_spec {fs : List (Nat × Nat × Nat)} {K : Prop} (h : posK fs K) : K ∧ ∀ f ∈ fs, f.2.2 ≠ 0 := by
  induction fs with
  | nil => exact ⟨h, by simp⟩
  | cons f fs ih =>
    obtain ⟨x, y, sz⟩ := f
    simp only [posK] at h
    split at h
    · exact h.elim
    · have := ih h; exact ⟨this.1, by
        intro g hg
        rcases List.mem_cons.1 hg with rfl | hg
        · simp
        · exact this.2 g hg⟩

def denP : List (Nat × XV) → List (Nat × Value)
  | [] => []
  | (i, x) :: ps => (i, x.den) :: denP ps

def appK : List Box → Box → (List Box → Prop) → Prop
  | [], b, K => K [b]
  | x :: xs, b, K => appK xs b fun l => K (x :: l)
theorem appK_iff (bx : List Box) (b : Box) (K : List Box → Prop) : appK bx b K ↔ K (bx ++ [b]) := by
  induction bx generalizing K with
  | nil => simp [appK]
  | cons x bx ih => simp [appK, ih]

/-- a new box -/
def newBox (o : Oper) (ty : TypeId) (cells : List XV) (ts : List XV) (bx : List Box) (W : World) (K : KT) : Prop :=
  ∀ b : Nat, W.heap.size ≤ b → appK bx ⟨b, ty, cells⟩ fun bx' => retX o.dst (.own bx.length b 0) ts bx' W K

def runX (P : Program) (s : Sem Value) (o : Oper) (ts : List XV) (bx : List Box) (W : World) (K : KT) : Prop :=
  ∀ w, Sync bx W w → RunsX P s w fun v w' => Kept (blks bx) w w' ∧ retX o.dst (inject v) ts bx w' K

def callK (P : Program) (f : FuncId) (xs : List XV) (o : Oper) (ts : List XV) (bx : List Box) (W : World) (K : KT) : Prop :=
  ∀ w, Sync bx W w → CallsX P f (denL xs).toArray w fun v w' => Kept (keptB (ownIds xs) 0 bx) w w' ∧ updK (ownIds xs) bx w' fun bx' => retX o.dst (inject v) ts bx' w' K

/-- whether a type is an integer's -/
def appL : List XV → List XV → (List XV → Prop) → Prop
  | [], ys, K => K ys
  | x :: xs, ys, K => appL xs ys fun l => K (x :: l)
theorem appL_iff (xs ys : List XV) (K : List XV → Prop) : appL xs ys K ↔ K (xs ++ ys) := by
  induction xs generalizing K with
  | nil => simp [appL]
  | cons x xs ih => simp [appL, ih]

def argTy (T : List TI) (ats : Array TypeId) (K : TI → Prop) : Prop :=
  match ats.toList with
  | [t] => tiK T t K
  | _ => False

def builtinK (T : List TI) (b : Builtin) (ats : Array TypeId) (xs : List XV) (ret : Ret) : Prop :=
  match b, xs with
  | .len, [.slc _ n _] => argTy T ats fun ti => match ti.td with | .slice _ => ret (.int .i64 n) | _ => False
  | .len, [.str s] => argTy T ats fun ti => match ti.td with | .string => ret (.int .i64 s.size) | _ => False
  | .cap, [.slc _ _ n] => argTy T ats fun ti => match ti.td with | .slice _ => ret (.int .i64 n) | _ => False
  | .max, [.int k x, .int _ y] => ret (.int k (if y > x then y else x))
  | .min, [.int k x, .int _ y] => ret (.int k (if y < x then y else x))
  | _, _ => False

def pickK (g : Bool) (a b : XV) (ret : Ret) : Prop :=
  match a, b with
  | .lit true, .bool y => ret (.bool (g || y))
  | .bool x, .lit false => ret (.bool (g && x))
  | .lit true, .lit y => ret (.bool (g || y))
  | .lit false, .lit y => ret (.bool (!g && y))
  | .bool x, .lit y => ret (.bool (bif g then x else y))
  | .lit x, .bool y => ret (.bool (bif g then x else y))
  | .bool x, .bool y => ret (.bool (bif g then x else y))
  | _, _ => False

def pureK (T : List TI) (op : Op) (ts : List XV) (ret : Ret) : Prop :=
  match op with
  | .move x => opK ts x fun x => ret x
  | .assign x => opK ts x fun x => ret x
  | .pick c a b => opK ts c fun c => match c with
    | .lit true => opK ts a fun x => ret x
    | .lit false => opK ts b fun x => ret x
    | .bool g => opK ts a fun a => opK ts b fun b => pickK g a b fun x => ret x
    | _ => False
  | .nilCheck x => opK ts x fun x => match x with
    | .ptr a => ret (.ptr a)
    | .own i b f => ret (.own i b f)
    | .fn f cs => ret (.fn f cs)
    | .v y => ∃ a, y = .pointer (some a) ∧ ret (.ptr a)
    | _ => False
  | .binOp op t x y _ => opK ts x fun a => opK ts y fun b => binX T op t a b fun x => ret x
  | .unOp op _ x => opK ts x fun a => match op, a with
    | .not, .bool b => ret (.bool (!b))
    | .not, .lit b => ret (.lit (!b))
    | .neg, .int k n => ret (.int k (k.wrap (0 - n)))
    | .xor, .int k n => ret (.int k (bits .xor k (if k.signed then -1 else k.max) n))
    | _, _ => False
  | .convert src dst x => opK ts x fun a => tiK T src fun _ => tiK T dst fun td => match td.td, a with
    | .int k, .int _ n => ret (.int k (k.wrap n))
    | .string, .str s => ret (.str s)
    | _, _ => False
  | .fieldAddr s x f => opK ts x fun a => tiK T s fun ti => match ti.td with
    | .struct fs => fldK fs f fun off _ _ => match a with
      | .own i b o' => ret (.own i b (o' + off))
      | .ptr ad => ret (.ptr (ad.add off))
      | _ => False
    | _ => False
  | .field s x f => opK ts x fun a => tiK T s fun ti => match ti.td, a with
    | .struct fs, .agg xs => fldK fs f fun off ty sz => tiK T ty fun tf => match tf.agg with
      | true => subK xs off sz fun l => ret (.agg l)
      | false => subK xs off 1 fun l => match l with | [x] => ret x | _ => False
    | _, _ => False
  | .indexAddr t x ix => opK ts x fun a => opK ts ix fun i => tiK T t fun ti => match ti.td, a, i with
    | .slice e, .slc a len _, .int _ i => tiK T e fun te => ∃ ad, a = some ad ∧ 0 ≤ i ∧ i < len ∧ ret (.ptr (ad.add (i.toNat * te.size)))
    | _, _, _ => False
  | .extract t i => opK ts t fun a => match a with
    | .tup xs => subK xs i 1 fun l => match l with | [x] => ret x | _ => False
    | _ => False
  | .slice t x lo hi mx => opK ts x fun a => opO ts lo fun lo => opO ts hi fun hi => opO ts mx fun mx => tiK T t fun ti => match ti.td, a with
    | .slice e, .slc a len cap => tiK T e fun te => match lo, hi, mx with
      | none, hi, none => boundK hi len cap fun h => ret (.slc a h cap)
      | some lo, hi, none => boundK hi len cap fun h => boundK (some lo) 0 h fun l => ret (.slc (if cap = l then a else a.map (·.add (l * te.size))) (h - l) (cap - l))
      | none, some hi, some mx => boundK (some mx) cap cap fun m => boundK (some hi) len m fun h => ret (.slc a h m)
      | some lo, some hi, some mx => boundK (some mx) cap cap fun m => boundK (some hi) len m fun h => boundK (some lo) 0 h fun l => ret (.slc (if m = l then a else a.map (·.add (l * te.size))) (h - l) (m - l))
      | _, _, _ => False
    | .string, .str s => match mx with
      | none => boundK hi s.size s.size fun h => boundK lo 0 h fun l => ret (.str (s.extract l h))
      | _ => False
    | _, _ => False
  | .build t parts => partsK ts parts.toList fun ps => tiK T t fun ti => match ti.td, ti.zero with
    | .struct fs, z :: zs => posK fs (fillK fs (constL (z :: zs)) ps fun cells => ret (.agg cells))
    | _, _ => False
  | .makeFunc fn first caps => match fn, first.toList with
    | .func f, [] => opsK ts caps.toList fun cs => ret (.fn f cs)
    | _, _ => False
  | .call c => match c.callee with
    | .builtin b => opsK ts c.args.toList fun xs => builtinK T b c.argTypes xs ret
    | _ => False
  | _ => False

def loadX (T : List TI) (t : TypeId) (A : XV) (bx : List Box) (W : World) (ret : Ret) : Prop :=
  tiK T t fun ti => match A with
    | .own i b off => boxK bx i fun x => match ti.agg with
      | true => subK x.cells off ti.size fun l => ret (.agg l)
      | false => subK x.cells off 1 fun l => match l with | [x] => ret x | _ => False
    | .ptr ad => match ti.agg with
      | true => ∃ cs : List Value, cs.length = ti.size ∧ cs ≠ [] ∧ cellsAt W ad 0 cs ∧ notBox bx ad.block ∧ ret (.agg (injL cs))
      | false => ∃ c : Value, W.cell? ad = some c ∧ notBox bx ad.block ∧ ret (inj0 c)
    | _ => False

def vcOp (P : Program) (T : List TI) (o : Oper) (ts : List XV) (bx : List Box) (W : World) (K : KT) : Prop :=
  match o.op with
  | .convert src dst x => opK ts x fun a => tiK T src fun _ => tiK T dst fun td => match td.td, a with
    | .int k, .int _ n => retX o.dst (.int k (k.wrap n)) ts bx W K
    | .string, .str s => retX o.dst (.str s) ts bx W K
    | _, a => runX P (convert src dst a.den) o ts bx W K
  | .alloc t => tiK T t fun ti => match ti.zero with
    | z :: zs => newBox o t (constL (z :: zs)) ts bx W K
    | [] => False
  | .box t x => opK ts x fun a => cellsK a fun cs => newBox o t cs ts bx W K
  | .load t a => opK ts a fun A => loadX T t A bx W fun x => retX o.dst x ts bx W K
  | .store t a x => opK ts a fun a => opK ts x fun x => tiK T t fun ti => cellsK x fun cs => lenK cs ti.size (oneK cs (match a with
    | .own i b off => boxK bx i fun y => subK y.cells off ti.size fun _ => wrK y.cells off cs fun cells => setBoxK bx i cells fun bx' => retX o.dst .und ts bx' W K
    | .ptr ad => (∀ j, j < cs.length → (W.cell? (ad.add j)).isSome = true ∧ W.frozen? (ad.add j) = false) ∧ notBox bx ad.block ∧ retX o.dst .und ts bx (setCells W ad 0 (denL cs)) K
    | _ => False))
  | .call c => match c.callee with
    | .value f => opK ts f fun f => opsK ts c.args.toList fun xs => match f with
      | .fn g caps => appL xs caps fun xs => callK P g xs o ts bx W K
      | .v y => ∃ g caps, y = .func (.func g) #[] caps ∧ callK P g (xs ++ injL caps.toList) o ts bx W K
      | _ => False
    | .builtin b => match b with
      | .append => opsK ts c.args.toList fun xs => runX P (Builtin.append_ c.argTypes o.type (denL xs).toArray) o ts bx W K
      | .copy => opsK ts c.args.toList fun xs => runX P (Builtin.copy_ c.argTypes o.type (denL xs).toArray) o ts bx W K
      | b => opsK ts c.args.toList fun xs => builtinK T b c.argTypes xs fun x => retX o.dst x ts bx W K
    | _ => False
  | .buildSlice t len parts => partsK ts parts.toList fun ps => runX P (Instr.buildSlice t len (denP ps).toArray) o ts bx W K
  | .makeSlice t l c => opK ts l fun l => opK ts c fun c => runX P (Instr.makeSlice t l.den c.den) o ts bx W K
  | .index t x ix => opK ts x fun x => opK ts ix fun ix => runX P (Instr.index t x.den ix.den) o ts bx W K
  | .makeMap t r => opO ts r fun r => runX P (Instr.makeMap t (r.map XV.den)) o ts bx W K
  | .lookup t x ix ok => opK ts x fun x => opK ts ix fun ix => runX P (Instr.lookup t x.den ix.den ok) o ts bx W K
  | .makeInterface t x => opK ts x fun x => runX P (Instr.makeInterface t x.den) o ts bx W K
  | .range t x => opK ts x fun x => runX P (Instr.range t x.den) o ts bx W K
  | .next it s => opK ts it fun it => runX P (Instr.next it.den s o.type) o ts bx W K
  | .entry it => opK ts it fun it => runX P (Instr.entry it.den) o ts bx W K
  | op => pureK T op ts fun x => retX o.dst x ts bx W K
end Go.Vc
