import Derived.Test.YtnldhkhnfodplaaVcB
import Derived.WalkSpells
namespace Go.Vc
open Go

def tiK : List TI → Nat → (TI → Prop) → Prop
  | [], _, _ => False
  | ti :: _, 0, K => match ti.ok with | true => K ti | false => False
  | _ :: T, n + 1, K => tiK T n K
theorem tiK_spec {T : List TI} {t : Nat} {K : TI → Prop} (h : tiK T t K) : ∃ ti, T[t]? = some ti ∧ ti.ok = true ∧ K ti := by
  induction T generalizing t with
  | nil => exact h.elim
  | cons x T ih =>
    cases t with
    | zero =>
      simp only [tiK] at h
      split at h
      · rename_i ho; exact ⟨x, rfl, ho, h⟩
      · exact h.elim
    | succ t => simpa using ih h

/-- the type's facts, in one go -/
theorem tiK_facts {P : Program} {T : List TI} (hT : TableOk P T) {t : Nat} {K : TI → Prop} (h : tiK T t K) : ∃ ti, TFacts P t ti ∧ K ti :=
  let ⟨ti, h1, h2, h3⟩ := tiK_spec h
  ⟨ti, hT.facts h1 h2, h3⟩

def ikn : IntKind → Nat
  | .i8 => 0 | .i16 => 1 | .i32 => 2 | .i64 => 3 | .u8 => 4 | .u16 => 5 | .u32 => 6 | .u64 => 7
def eqk (a b : IntKind) : Bool := Nat.beq (ikn a) (ikn b)
theorem eqk_eq {a b : IntKind} (h : eqk a b = true) : a = b := by cases a <;> cases b <;> first | rfl | (simp [eqk, ikn] at h)

abbrev RT := XV → Prop

/-! ### Operators -/
def intBin (op : BinOp) (k : IntKind) (a b : Int) (ret : RT) : Prop :=
  match op with
  | .add => ret (.int k (k.wrap (a + b)))
  | .sub => ret (.int k (k.wrap (a - b)))
  | .mul => ret (.int k (k.wrap (a * b)))
  | .quo => b ≠ 0 ∧ ret (.int k (k.wrap (a.tdiv b)))
  | .rem => b ≠ 0 ∧ ret (.int k (a.tmod b))
  | .and => ret (.int k (bits .and k a b))
  | .or => ret (.int k (bits .or k a b))
  | .xor => ret (.int k (bits .xor k a b))
  | .eql => ret (.bool (a == b))
  | .neq => ret (.bool (a != b))
  | .lss => ret (.bool (decide (a < b)))
  | .leq => ret (.bool (decide (a ≤ b)))
  | .gtr => ret (.bool (decide (b < a)))
  | .geq => ret (.bool (decide (b ≤ a)))
  | _ => False

def leafK (l : LK) (x y : XV) (K : Bool → Prop) : Prop :=
  match l, x, y with
  | .int _, .int k a, .int k' b => match eqk k k' with | true => K (a == b) | false => False
  | .bool, .bool a, .bool b => K (a == b)
  | .bool, .lit a, .bool b => K (a == b)
  | .bool, .bool a, .lit b => K (a == b)
  | .bool, .lit a, .lit b => K (a == b)
  | .str, .str a, .str b => K (a.toList == b.toList)
  | _, _, _ => False

theorem leafK_spec {l : LK} {x y : XV} {K : Bool → Prop} (h : leafK l x y K) : ∃ r, K r ∧ ∀ ls xs ys, cmpV (l :: ls) (x.den :: xs) (y.den :: ys) = (cmpV ls xs ys).map (r && ·) := by
  unfold leafK at h
  split at h
  · rename_i k0 k a k' b
    split at h
    · rename_i hk
      have := eqk_eq hk
      subst this
      exact ⟨_, h, fun ls xs ys => by simp [cmpV, XV.den]⟩
    · exact h.elim
  all_goals first | exact h.elim | exact ⟨_, h, fun ls xs ys => by simp [cmpV, XV.den]⟩

def cmpXK : List LK → List XV → List XV → (Bool → Prop) → Prop
  | [l], [x], [y], K => leafK l x y K
  | l :: ls, x :: xs, y :: ys, K => leafK l x y fun r => cmpXK ls xs ys fun r' => K (r && r')
  | _, _, _, _ => False

theorem cmpXK_spec {ls : List LK} {xs ys : List XV} {K : Bool → Prop} (h : cmpXK ls xs ys K) : ∃ r, K r ∧ cmpV ls (denL xs) (denL ys) = some r := by
  induction ls generalizing xs ys K with
  | nil => simp [cmpXK] at h
  | cons l ls ih =>
    unfold cmpXK at h
    split at h
    · rename_i h1
      injection h1 with h1 h2
      subst h1; subst h2
      obtain ⟨r, hr, he⟩ := leafK_spec h
      exact ⟨r, hr, by simp [denL, he, cmpV]⟩
    · rename_i h1
      injection h1 with h1 h2
      subst h1; subst h2
      obtain ⟨r, hr, he⟩ := leafK_spec h
      obtain ⟨r', hr', he'⟩ := ih hr
      exact ⟨_, hr', by simp [denL, he, he']⟩
    · exact h.elim

def asB (x : XV) (K : Bool → Prop) (N : Prop) : Prop :=
  match x with
  | .bool b => K b
  | .lit b => K b
  | _ => N

def notIf (neg : Bool) (b : Bool) : Bool := match neg with | true => !b | false => b

/-- equality, inequality ('neg') of what are no integers -/
def eqX (T : List TI) (neg : Bool) (t : TypeId) (a b : XV) (ret : RT) : Prop :=
  match a, b with
  | .str s, .str u => ret (.bool (notIf neg (s.toList == u.toList)))
  | .agg xs, .agg ys => tiK T t fun ti => match ti.leaves, ti.td with
    | some ls, .struct _ => cmpXK ls xs ys fun r => ret (.bool (notIf neg r))
    | _, _ => False
  | .bool x, .bool y => tiK T t fun ti => match ti.td with | .bool => ret (.bool (notIf neg (x == y))) | _ => False
  | .bool x, .lit y => tiK T t fun ti => match ti.td with | .bool => ret (.bool (notIf neg (x == y))) | _ => False
  | .lit x, .bool y => tiK T t fun ti => match ti.td with | .bool => ret (.bool (notIf neg (x == y))) | _ => False
  | .ptr _, .v (.pointer none) => tiK T t fun ti => match ti.td with | .ptr _ => ret (.lit neg) | _ => False
  | .own _ _ _, .v (.pointer none) => tiK T t fun ti => match ti.td with | .ptr _ => ret (.lit neg) | _ => False
  | .v (.pointer none), .v (.pointer none) => tiK T t fun ti => match ti.td with | .ptr _ => ret (.lit (!neg)) | _ => False
  | .slc x _ _, .slc none 0 0 => tiK T t fun ti => match ti.td with | .slice _ => ret (.bool (notIf neg x.isNone)) | _ => False
  | _, _ => False

def binX (T : List TI) (op : BinOp) (t : TypeId) (a b : XV) (ret : RT) : Prop :=
  match op, a, b with
  | .shl, .int k x, .int _ y => 0 ≤ y ∧ ret (.int k (k.wrap (x * 2 ^ (min y.toNat k.bits))))
  | .shr, .int k x, .int _ y => 0 ≤ y ∧ ret (.int k (x.fdiv (2 ^ (min y.toNat k.bits))))
  | op, .int k x, .int k' y => match eqk k k' with | true => intBin op k x y ret | false => False
  | .add, .str s, .str u => (s.size : Int) + u.size ≤ 9223372036854775807 ∧ ret (.str (s ++ u))
  | .eql, a, b => eqX T false t a b ret
  | .neq, a, b => eqX T true t a b ret
  | _, _, _ => False

theorem run_guard_eq {P : Program} {neg : Bool} {t : TypeId} {x y : Operand} {a b v : Value} {w : World} (hg : eqGuard (if neg then .neq else .eql) t x y a b = pure ())
    (hb : (binOp (if neg then .neq else .eql) t a b).run P w = .ok v w) :
    (do eqGuard (if neg then .neq else .eql) t x y a b; binOp (if neg then .neq else .eql) t a b).run P w = .ok v w := by
  rw [hg, Sem.run_bind]; simp [hb]

theorem run_eq_bool {P : Program} (neg : Bool) {t : TypeId} (x y : Operand) (a b : Bool) (w : World) (h : P.underlying t = some .bool) :
    (do eqGuard (if neg then .neq else .eql) t x y (.bool a) (.bool b); binOp (if neg then .neq else .eql) t (.bool a) (.bool b)).run P w = .ok (.bool (notIf neg (a == b))) w := by
  refine run_guard_eq (by cases neg <;> rfl) ?_
  cases neg
  · exact run_eql_bool w t a b h
  · exact run_neq_bool w t a b h
theorem run_eq_ptr {P : Program} (neg : Bool) {t e : TypeId} (x y : Operand) (p : Option Addr) (w : World) (h : P.underlying t = some (.pointer e)) :
    (do eqGuard (if neg then .neq else .eql) t x y (.pointer p) (.pointer none); binOp (if neg then .neq else .eql) t (.pointer p) (.pointer none)).run P w = .ok (.bool (notIf neg p.isNone)) w := by
  have h' : P.underlying t = some (.pointer (P.pointee t)) := by simp [Program.pointee, h]
  refine run_guard_eq (by cases neg <;> rfl) ?_
  cases neg
  · exact run_eql_pointer_nil w t p h'
  · exact run_neq_pointer_nil w t p h'
theorem run_eq_slc {P : Program} (neg : Bool) {t e : TypeId} (x y : Operand) (p : Option Addr) (l c : Nat) (w : World) (h : P.underlying t = some (.slice e)) :
    (do eqGuard (if neg then .neq else .eql) t x y (.slice p l c) (.slice none 0 0); binOp (if neg then .neq else .eql) t (.slice p l c) (.slice none 0 0)).run P w = .ok (.bool (notIf neg p.isNone)) w := by
  refine run_guard_eq (by cases neg <;> rfl) ?_
  cases neg
  · simp [binOp, Op.equal, Op.maxDepth, Lib.run_equalIn_slice_nil w 9999 t e p l c 0 0 h, notIf]
  · simp [binOp, Op.equal, Op.maxDepth, Lib.run_equalIn_slice_nil w 9999 t e p l c 0 0 h, notIf]
theorem run_eq_str {P : Program} (neg : Bool) {t : TypeId} (x y : Operand) (a b : ByteArray) (w : World) :
    (do eqGuard (if neg then .neq else .eql) t x y (.string a) (.string b); binOp (if neg then .neq else .eql) t (.string a) (.string b)).run P w = .ok (.bool (notIf neg (a.toList == b.toList))) w := by
  refine run_guard_eq (by cases neg <;> rfl) ?_
  cases neg <;> rfl

theorem td_bool {P : Program} {t : TypeId} {ti : TI} (hf : TFacts P t ti) (h : ti.td = .bool) : P.underlying t = some .bool := by
  obtain ⟨d, i, hd, hi, h1, _⟩ := hf.ex
  rw [h] at h1; cases d <;> simp [TD.of] at h1; exact hd
theorem td_ptr {P : Program} {t e : TypeId} {ti : TI} (hf : TFacts P t ti) (h : ti.td = .ptr e) : P.underlying t = some (.pointer e) := by
  obtain ⟨d, i, hd, hi, h1, _⟩ := hf.ex
  rw [h] at h1; cases d <;> simp [TD.of] at h1; subst h1; exact hd
theorem td_slice {P : Program} {t e : TypeId} {ti : TI} (hf : TFacts P t ti) (h : ti.td = .slice e) : P.underlying t = some (.slice e) := by
  obtain ⟨d, i, hd, hi, h1, _⟩ := hf.ex
  rw [h] at h1; cases d <;> simp [TD.of] at h1; subst h1; exact hd
theorem td_string {P : Program} {t : TypeId} {ti : TI} (hf : TFacts P t ti) (h : ti.td = .string) : P.underlying t = some .string := by
  obtain ⟨d, i, hd, hi, h1, _⟩ := hf.ex
  rw [h] at h1; cases d <;> simp [TD.of] at h1; exact hd
theorem td_int {P : Program} {t : TypeId} {ti : TI} {k : IntKind} (hf : TFacts P t ti) (h : ti.td = .int k) : P.underlying t = some (.int k) := by
  obtain ⟨d, i, hd, hi, h1, _⟩ := hf.ex
  rw [h] at h1; cases d <;> simp [TD.of] at h1; subst h1; exact hd
theorem td_struct {P : Program} {t : TypeId} {ti : TI} {fs : List (Nat × Nat × Nat)} (hf : TFacts P t ti) (h : ti.td = .struct fs) :
    ∃ fl : Array Field, P.underlying t = some (.struct fl) ∧ fs = fl.toList.map fun f => (f.offset, f.type, P.cellsOf f.type) := by
  obtain ⟨d, i, hd, hi, h1, _⟩ := hf.ex
  rw [h] at h1; cases d <;> simp [TD.of] at h1; exact ⟨_, hd, h1⟩

theorem run_eqX {P : Program} {T : List TI} (hT : TableOk P T) {neg : Bool} {t : TypeId} {a b : XV} {ret : RT} (h : eqX T neg t a b ret) (x y : Operand) (bs : List Nat) :
    ∃ r : XV, ret r ∧ r.wf bs ∧ ∀ w : World, (do eqGuard (if neg then .neq else .eql) t x y a.den b.den; binOp (if neg then .neq else .eql) t a.den b.den).run P w = .ok r.den w := by
  unfold eqX at h
  split at h
  · exact ⟨_, h, by simp [XV.wf], fun w => run_eq_str neg x y _ _ w⟩
  · obtain ⟨ti, hf, h⟩ := tiK_facts hT h
    split at h
    · rename_i ls fs hls htd
      obtain ⟨r, hr, hc⟩ := cmpXK_spec h
      obtain ⟨d, i, hd, hi, h1, h2, h3, h4, h5, h6⟩ := hf.ex
      refine ⟨_, hr, by simp [XV.wf], fun w => ?_⟩
      rw [hls] at h6
      split at h6
      · cases h6
      · rename_i hg
        obtain ⟨fl, hu, _⟩ := td_struct hf htd
        have := eq_leaves (P := P) 8 t ls h6.symm 10000 (by omega) _ _ _ hc w
        simp only [wrapV, hu] at this
        simp only [XV.den, Sem.run_bind, run_eqGuard_agg (hm := by simpa using hg), Result.andThen_ok]
        cases neg
        · simp only [Bool.false_eq_true, if_false, run_eql_struct, this, Result.andThen_ok, notIf]
        · simp only [if_true, run_neq_struct, this, Result.andThen_ok, notIf]
    · exact h.elim
  · obtain ⟨ti, hf, h⟩ := tiK_facts hT h
    split at h
    · rename_i htd; exact ⟨_, h, by simp [XV.wf], fun w => run_eq_bool neg x y _ _ w (td_bool hf htd)⟩
    · exact h.elim
  · obtain ⟨ti, hf, h⟩ := tiK_facts hT h
    split at h
    · rename_i htd; exact ⟨_, h, by simp [XV.wf], fun w => run_eq_bool neg x y _ _ w (td_bool hf htd)⟩
    · exact h.elim
  · obtain ⟨ti, hf, h⟩ := tiK_facts hT h
    split at h
    · rename_i htd; exact ⟨_, h, by simp [XV.wf], fun w => run_eq_bool neg x y _ _ w (td_bool hf htd)⟩
    · exact h.elim
  · obtain ⟨ti, hf, h⟩ := tiK_facts hT h
    split at h
    · rename_i htd; exact ⟨_, h, by simp [XV.wf], fun w => by cases neg <;> first | exact run_eq_ptr false x y (some _) w (td_ptr hf htd) | exact run_eq_ptr true x y (some _) w (td_ptr hf htd)⟩
    · exact h.elim
  · obtain ⟨ti, hf, h⟩ := tiK_facts hT h
    split at h
    · rename_i htd; exact ⟨_, h, by simp [XV.wf], fun w => by cases neg <;> first | exact run_eq_ptr false x y (some _) w (td_ptr hf htd) | exact run_eq_ptr true x y (some _) w (td_ptr hf htd)⟩
    · exact h.elim
  · obtain ⟨ti, hf, h⟩ := tiK_facts hT h
    split at h
    · rename_i htd; exact ⟨_, h, by simp [XV.wf], fun w => by cases neg <;> first | exact run_eq_ptr false x y none w (td_ptr hf htd) | exact run_eq_ptr true x y none w (td_ptr hf htd)⟩
    · exact h.elim
  · obtain ⟨ti, hf, h⟩ := tiK_facts hT h
    split at h
    · rename_i htd; exact ⟨_, h, by simp [XV.wf], fun w => run_eq_slc neg x y _ _ _ w (td_slice hf htd)⟩
    · exact h.elim
  · exact h.elim

theorem run_binX {P : Program} {T : List TI} (hT : TableOk P T) {op : BinOp} {t : TypeId} {a b : XV} {ret : RT} (h : binX T op t a b ret) (x y : Operand) (bs : List Nat) :
    ∃ r : XV, ret r ∧ r.wf bs ∧ ∀ w : World, (do eqGuard op t x y a.den b.den; binOp op t a.den b.den).run P w = .ok r.den w := by
  unfold binX at h
  split at h
  · exact ⟨_, h.2, by simp [XV.wf], fun w => by simp [XV.den, Sem.run_bind, eqGuard_at_int, binOp_shl, Op.shift, Int.not_lt.2 h.1]⟩
  · exact ⟨_, h.2, by simp [XV.wf], fun w => by simp [XV.den, Sem.run_bind, eqGuard_at_int, binOp_shr, Op.shift, Int.not_lt.2 h.1]⟩
  · rename_i k x y k' z hn1 hn2
    split at h
    · rename_i hk
      have := eqk_eq hk
      subst this
      unfold intBin at h
      split at h
      all_goals first
        | exact h.elim
        | exact ⟨_, h, by simp [XV.wf], fun w => by simp [XV.den, Sem.run_bind, eqGuard_at_int, binOp, Op.intArith, Op.intBits, Op.intCmp, bits]⟩
        | exact ⟨_, h.2, by simp [XV.wf], fun w => by simp [XV.den, Sem.run_bind, eqGuard_at_int, binOp, Op.intDiv, h.1]⟩
    · exact h.elim
  · refine ⟨_, h.2, by simp [XV.wf], fun w => ?_⟩
    have h1 := h.1
    simp [XV.den, Sem.run_bind, eqGuard_at_string, binOp, Op.stringOp]
    omega
  · exact run_eqX hT h x y bs
  · exact run_eqX hT h x y bs
  · exact h.elim
end Go.Vc
