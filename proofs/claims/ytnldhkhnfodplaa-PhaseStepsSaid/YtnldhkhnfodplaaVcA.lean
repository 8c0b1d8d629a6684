import Derived.WalkKit
import Derived.OrdersHeld
namespace Go.Vc
open Go

/-! ### Values as the executor sees them -/

inductive XV where
  | v (x : Value)
  | int (k : IntKind) (n : Int)
  | bool (b : Bool)
  | lit (b : Bool)
  | str (s : ByteArray)
  | slc (a : Option Addr) (len cap : Nat)
  | ptr (a : Addr)
  | own (i b off : Nat)
  | fn (f : FuncId) (caps : List XV)
  | agg (xs : List XV)
  | tup (xs : List XV)
  | und
  | junk

mutual
def XV.den : XV → Value
  | .v x => x
  | .int k n => .int k n
  | .bool b => .bool b
  | .lit b => .bool b
  | .str s => .string s
  | .slc a l c => .slice a l c
  | .ptr a => .pointer (some a)
  | .own _ b off => .pointer (some ⟨b, off, none⟩)
  | .fn f cs => .func (.func f) #[] (denL cs).toArray
  | .agg xs => .agg (denL xs).toArray
  | .tup xs => .tuple (denL xs).toArray
  | .und => undef
  | .junk => undef
def denL : List XV → List Value
  | [] => []
  | x :: xs => x.den :: denL xs
end

theorem denL_map (xs : List XV) : denL xs = xs.map XV.den := by
  induction xs with
  | nil => rfl
  | cons x xs ih => simp [denL, ih]

/-- Every pointer to a box of the executor's own names the block that the box has. -/
def okB (bs : List Nat) : Nat → Nat → Prop := fun i b => bs[i]? = some b
mutual
def XV.wf (bs : List Nat) : XV → Prop
  | .own i b _ => bs[i]? = some b
  | .fn _ cs => wfL bs cs
  | .agg xs => wfL bs xs
  | .tup xs => wfL bs xs
  | _ => True
def wfL (bs : List Nat) : List XV → Prop
  | [] => True
  | x :: xs => x.wf bs ∧ wfL bs xs
end

theorem wfL_iff (bs : List Nat) (xs : List XV) : wfL bs xs ↔ ∀ x ∈ xs, x.wf bs := by
  induction xs with
  | nil => simp [wfL]
  | cons x xs ih => simp [wfL, ih]

mutual
theorem XV.wf_mono (bs : List Nat) (b : Nat) : (x : XV) → x.wf bs → x.wf (bs ++ [b])
  | .own i c _, h => by
    simp only [XV.wf] at *
    have hi : i < bs.length := by
      rcases Nat.lt_or_ge i bs.length with h' | h'
      · exact h'
      · simp [List.getElem?_eq_none h'] at h
    rw [List.getElem?_append_left hi]; exact h
  | .fn _ cs, h => by simp only [XV.wf] at *; exact wfL_mono bs b cs h
  | .agg xs, h => by simp only [XV.wf] at *; exact wfL_mono bs b xs h
  | .tup xs, h => by simp only [XV.wf] at *; exact wfL_mono bs b xs h
  | .v _, _ | .int _ _, _ | .bool _, _ | .lit _, _ | .str _, _ | .slc _ _ _, _ | .ptr _, _ | .und, _ | .junk, _ => by simp [XV.wf]
theorem wfL_mono (bs : List Nat) (b : Nat) : (xs : List XV) → wfL bs xs → wfL (bs ++ [b]) xs
  | [], _ => by simp [wfL]
  | x :: xs, h => by simp only [wfL] at *; exact ⟨XV.wf_mono bs b x h.1, wfL_mono bs b xs h.2⟩
end

/-- What a constant is. -/
def ofConst : Value → XV
  | .bool b => .lit b
  | .int k n => .int k n
  | .string s => .str s
  | .slice a l c => .slc a l c
  | x => .v x
theorem den_ofConst (x : Value) : (ofConst x).den = x := by cases x <;> simp [ofConst, XV.den]
theorem wf_ofConst (bs : List Nat) (x : Value) : (ofConst x).wf bs := by cases x <;> simp [ofConst, XV.wf]

/-- A cell's value. -/
def inj0 : Value → XV
  | .bool b => .bool b
  | .int k n => .int k n
  | .string s => .str s
  | .slice a l c => .slc a l c
  | .pointer (some a) => .ptr a
  | x => .v x
theorem den_inj0 (x : Value) : (inj0 x).den = x := by
  cases x with
  | pointer a => cases a <;> simp [inj0, XV.den]
  | _ => simp [inj0, XV.den]
theorem wf_inj0 (bs : List Nat) (x : Value) : (inj0 x).wf bs := by
  cases x with
  | pointer a => cases a <;> simp [inj0, XV.wf]
  | _ => simp [inj0, XV.wf]
def injL : List Value → List XV
  | [] => []
  | x :: xs => inj0 x :: injL xs
theorem denL_injL (xs : List Value) : denL (injL xs) = xs := by
  induction xs with
  | nil => rfl
  | cons x xs ih => simp [injL, denL, den_inj0, ih]
theorem wfL_injL (bs : List Nat) (xs : List Value) : wfL bs (injL xs) := by
  induction xs with
  | nil => simp [injL, wfL]
  | cons x xs ih => simp [injL, wfL, wf_inj0, ih]
def inj1 : Value → XV
  | .agg cs => .agg (injL cs.toList)
  | x => inj0 x
theorem den_inj1 (x : Value) : (inj1 x).den = x := by cases x <;> simp [inj1, XV.den, den_inj0, denL_injL]
theorem wf_inj1 (bs : List Nat) (x : Value) : (inj1 x).wf bs := by
  unfold inj1; split
  · simp [XV.wf, wfL_injL]
  · exact wf_inj0 _ _
def injL1 : List Value → List XV
  | [] => []
  | x :: xs => inj1 x :: injL1 xs
theorem denL_injL1 (xs : List Value) : denL (injL1 xs) = xs := by
  induction xs with
  | nil => rfl
  | cons x xs ih => simp [injL1, denL, den_inj1, ih]
theorem wfL_injL1 (bs : List Nat) (xs : List Value) : wfL bs (injL1 xs) := by
  induction xs with
  | nil => simp [injL1, wfL]
  | cons x xs ih => simp [injL1, wfL, wf_inj1, ih]
/-- What a call answered. -/
def inject : Value → XV
  | .tuple vs => .tup (injL1 vs.toList)
  | x => inj1 x
theorem den_inject (x : Value) : (inject x).den = x := by cases x <;> simp [inject, XV.den, den_inj1, denL_injL1]
theorem wf_inject (bs : List Nat) (x : Value) : (inject x).wf bs := by
  unfold inject; split
  · simp [XV.wf, wfL_injL1]
  · exact wf_inj1 _ _

/-! ### Boxes: blocks whose content the executor knows cell by cell -/
structure Box where
  blk : Nat
  ty : TypeId
  cells : List XV

def blks (bx : List Box) : List Nat := bx.map (·.blk)

/-- A frame's slots: unknown, or as the executor says. -/
def Rel (bs : List Nat) : List XV → List Value → Prop
  | [], [] => True
  | x :: xs, v :: vs => (x = .junk ∨ (v = x.den ∧ x.wf bs)) ∧ Rel bs xs vs
  | _, _ => False

theorem Rel.length {bs : List Nat} : {xs : List XV} → {vs : List Value} → Rel bs xs vs → xs.length = vs.length
  | [], [], _ => rfl
  | _ :: _, _ :: _, h => by simp [Rel] at h; simp [Rel.length h.2]
  | [], _ :: _, h => by simp [Rel] at h
  | _ :: _, [], h => by simp [Rel] at h

theorem Rel.mono {bs : List Nat} (b : Nat) : {xs : List XV} → {vs : List Value} → Rel bs xs vs → Rel (bs ++ [b]) xs vs
  | [], [], _ => by simp [Rel]
  | x :: _, _ :: _, h => by
    simp only [Rel] at *
    exact ⟨h.1.imp id fun h => ⟨h.1, XV.wf_mono bs b x h.2⟩, h.2.mono b⟩
  | [], _ :: _, h => by simp [Rel] at h
  | _ :: _, [], h => by simp [Rel] at h

/-- The world's part below 'W' is as 'W' has it, but for the boxes, which hold what they are said to hold. -/
structure Sync (bx : List Box) (W w : World) : Prop where
  os : w.os = W.os
  tape : w.tape = W.tape
  output : w.output = W.output
  size : W.heap.size ≤ w.heap.size
  same : ∀ b, b < W.heap.size → b ∉ blks bx → w.heap[b]? = W.heap[b]?
  own : ∀ x ∈ bx, w.heap[x.blk]? = some (.cells (denL x.cells).toArray x.ty (0, 0))

structure Inv (ts : List XV) (bx : List Box) (a : Act) (w W : World) : Prop where
  defers : a.defers = []
  frame : Rel (blks bx) ts a.tmps.toList
  wf : ∀ x ∈ bx, wfL (blks bx) x.cells
  nodup : (blks bx).Nodup
  sync : Sync bx W w

abbrev KT := List XV → List Box → World → Prop

/-! ### Reading and writing slots -/
def getK : List XV → Nat → (XV → Prop) → Prop
  | [], _, K => K .und
  | x :: _, 0, K => match x with
    | .junk => False
    | .v y => K (.v y) | .int k n => K (.int k n) | .bool b => K (.bool b) | .lit b => K (.lit b) | .str s => K (.str s) | .slc a l c => K (.slc a l c)
    | .ptr a => K (.ptr a) | .own i b o => K (.own i b o) | .fn f cs => K (.fn f cs) | .agg xs => K (.agg xs) | .tup xs => K (.tup xs) | .und => K .und
  | _ :: xs, n + 1, K => getK xs n K

def setK : List XV → Nat → XV → (List XV → Prop) → Prop
  | [], _, _, K => K []
  | _ :: xs, 0, y, K => K (y :: xs)
  | x :: xs, n + 1, y, K => setK xs n y fun l => K (x :: l)

theorem setK_iff (xs : List XV) (n : Nat) (y : XV) (K : List XV → Prop) : setK xs n y K ↔ K (xs.set n y) := by
  induction xs generalizing n K with
  | nil => simp [setK]
  | cons x xs ih => cases n <;> simp [setK, ih]

theorem getK_spec {bs : List Nat} {xs : List XV} {vs : List Value} {n : Nat} {K : XV → Prop} (h : getK xs n K) (hr : Rel bs xs vs) :
    ∃ x : XV, K x ∧ x.wf bs ∧ (vs[n]?.getD undef) = x.den := by
  induction xs generalizing n vs with
  | nil =>
    cases vs with
    | nil => exact ⟨.und, h, by simp [XV.wf], by simp [XV.den]⟩
    | cons _ _ => simp [Rel] at hr
  | cons x xs ih =>
    cases vs with
    | nil => simp [Rel] at hr
    | cons v vs =>
      simp only [Rel] at hr
      cases n with
      | zero =>
        obtain ⟨h1, h2⟩ := hr
        rcases h1 with rfl | ⟨rfl, hw⟩
        · simp [getK] at h
        · refine ⟨x, ?_, hw, by simp⟩
          cases x <;> first | exact h | exact h.elim
      | succ n => simpa using ih (n := n) h hr.2

theorem Rel.set {bs : List Nat} {xs : List XV} {vs : List Value} (hr : Rel bs xs vs) (n : Nat) {x : XV} (hw : x.wf bs) : Rel bs (xs.set n x) (vs.set n x.den) := by
  induction xs generalizing n vs with
  | nil => cases vs <;> simp_all [Rel]
  | cons y xs ih =>
    cases vs with
    | nil => simp [Rel] at hr
    | cons v vs =>
      simp only [Rel] at hr
      cases n with
      | zero => simp only [List.set, Rel]; exact ⟨.inr (by simp [hw]), hr.2⟩
      | succ n => simp only [List.set, Rel]; exact ⟨hr.1, ih hr.2 n⟩

def opK (ts : List XV) (o : Operand) (K : XV → Prop) : Prop :=
  match o with
  | .tmp t => getK ts t K
  | .const c => K (ofConst c)
  | .global g => K (.ptr ⟨g, 0, none⟩)
  | .func f => K (.fn f [])

theorem opK_spec {bs : List Nat} {ts : List XV} {a : Act} {o : Operand} {K : XV → Prop} (h : opK ts o K) (hr : Rel bs ts a.tmps.toList) :
    ∃ x : XV, K x ∧ x.wf bs ∧ a.eval o = x.den := by
  cases o with
  | tmp t =>
    obtain ⟨x, h1, h2, h3⟩ := getK_spec h hr
    refine ⟨x, h1, h2, ?_⟩
    rw [← h3]
    simp [Act.eval]
  | const c => exact ⟨_, h, wf_ofConst _ _, (den_ofConst _).symm⟩
  | global g => exact ⟨_, h, by simp [XV.wf], rfl⟩
  | func f => exact ⟨_, h, by simp [XV.wf, wfL], by simp [Act.eval, XV.den, denL]⟩

def opsK (ts : List XV) : List Operand → (List XV → Prop) → Prop
  | [], K => K []
  | o :: os, K => opK ts o fun x => opsK ts os fun xs => K (x :: xs)

theorem opsK_spec {bs : List Nat} {ts : List XV} {a : Act} {os : List Operand} {K : List XV → Prop} (h : opsK ts os K) (hr : Rel bs ts a.tmps.toList) :
    ∃ xs : List XV, K xs ∧ wfL bs xs ∧ os.map a.eval = denL xs := by
  induction os generalizing K with
  | nil => exact ⟨[], h, by simp [wfL], rfl⟩
  | cons o os ih =>
    obtain ⟨x, h1, h2, h3⟩ := opK_spec h hr
    obtain ⟨xs, h4, h5, h6⟩ := ih h1
    exact ⟨x :: xs, h4, ⟨h2, h5⟩, by simp [denL, h3, h6]⟩

def retX (dst : Option Tmp) (x : XV) (ts : List XV) (bx : List Box) (W : World) (K : KT) : Prop :=
  match dst with
  | none => K ts bx W
  | some d => setK ts d x fun l => K l bx W

theorem retX_spec {dst : Option Tmp} {x : XV} {ts : List XV} {bx : List Box} {a : Act} {w W : World} {K : KT} (h : retX dst x ts bx W K) (inv : Inv ts bx a w W) (hw : x.wf (blks bx)) :
    ∃ ts' bx' W', Inv ts' bx' (a.put dst x.den) w W' ∧ K ts' bx' W' := by
  cases dst with
  | none => exact ⟨ts, bx, W, inv, h⟩
  | some d =>
    simp only [retX, setK_iff] at h
    exact ⟨_, bx, W, ⟨inv.defers, by simpa [Act.put] using inv.frame.set d hw, inv.wf, inv.nodup, inv.sync⟩, h⟩

/-- The state that an operation leaves. -/
def Post (K : KT) (a' : Act) (w' : World) : Prop := ∃ ts' bx' W', Inv ts' bx' a' w' W' ∧ K ts' bx' W'

theorem wp_of_value {P : Program} {o : Oper} {a : Act} {w w' : World} {v : Value} {N : Act → World → Prop} {Q : Exit → Act → World → Prop}
    (h : (execOp a.eval o).run P w = .ok (.value v) w') (hn : N (a.put o.dst v) w') : o.wp P a w N Q := by
  simp only [Oper.wp, h, Oper.upon]; exact hn
theorem wp_of_skip {P : Program} {o : Oper} {a : Act} {w w' : World} {N : Act → World → Prop} {Q : Exit → Act → World → Prop}
    (h : (execOp a.eval o).run P w = .ok .skip w') (hn : N (a.put o.dst undef) w') : o.wp P a w N Q := by
  simp only [Oper.wp, h, Oper.upon]; exact hn
end Go.Vc
