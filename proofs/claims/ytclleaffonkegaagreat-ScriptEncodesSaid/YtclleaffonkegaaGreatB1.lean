import Derived.WalkKit
import Derived.OrdersHeld
import Derived.WalkSpells
import Derived.Deep.LoopGhost
import Derived.ChangeKeysEq
import Derived.Laws.AppendOwn
import Derived.Maps.RangeRun
import Derived.MapKept
namespace Go.Vc
open Go

/-! ### What the executor knows of a type -/
inductive LK where
  | int (k : IntKind) | bool | str

inductive TD where
  | struct (fs : List (Nat × Nat × Nat))
  | slice (e : TypeId)
  | array (n : Nat) (e : TypeId)
  | int (k : IntKind)
  | bool
  | string
  | ptr (e : TypeId)
  | map (k e : TypeId)
  | other

structure TI where
  ok : Bool
  td : TD
  size : Nat
  bytes : Nat
  agg : Bool
  zero : List Value
  leaves : Option (List LK)

def leavesFs (lv : TypeId → Option (List LK)) (sz : TypeId → Nat) : List Field → Nat → Option (List LK)
  | [], _ => some []
  | f :: fs, off =>
    if f.name == "_" || f.offset != off then none else
    match lv f.type with
    | none => none
    | some l => if l.length != sz f.type || l.length == 0 then none else
      match leavesFs lv sz fs (off + l.length) with
      | none => none
      | some r => some (l ++ r)

def leavesOf (P : Program) : Nat → TypeId → Option (List LK)
  | 0, _ => none
  | d + 1, t =>
    match P.underlying t with
    | some (.int k) => some [.int k]
    | some .bool => some [.bool]
    | some .string => some [.str]
    | some (.struct fs) => if P.stoodInHeld t then none else leavesFs (leavesOf P d) P.cellsOf fs.toList 0
    | some (.array n e) => match leavesOf P d e with
      | some [l] => if P.cellsOf e = 1 ∧ n ≤ 8 then some (List.replicate n l) else none
      | _ => none
    | _ => none

def TD.of (P : Program) : TypeDesc → TD
  | .struct fs => .struct (fs.toList.map fun f => (f.offset, f.type, P.cellsOf f.type))
  | .slice e => .slice e
  | .array n e => .array n e
  | .int k => .int k
  | .bool => .bool
  | .string => .string
  | .pointer e => .ptr e
  | .map k e => .map k e
  | _ => .other

def isAggD : TypeDesc → Bool
  | .struct _ => true
  | .array _ _ => true
  | _ => false

def rowOf (P : Program) (t : TypeId) : TI :=
  match P.underlying t, P.info? t with
  | some d, some i =>
    { ok := true, td := .of P d, size := i.size, bytes := i.bytes, agg := isAggD d
      zero := (match i.zero with | some z => z.cells.toList | none => [])
      leaves := if P.eqGuardType P.depth t then none else leavesOf P 8 t }
  | _, _ => { ok := false, td := .other, size := 0, bytes := 0, agg := false, zero := [], leaves := none }

/-- The table is the program's, where it says so. -/
def uV (a b : Int) : Value := .agg #[.int .i64 a, .int .i64 b]
def isU (v : Value) : Prop := ∃ a b : Int, v = uV a b
/-- what is asked of a set's keys -/
structure KeyOk (P : Program) (kt : TypeId) : Prop where
  check : ∀ (e : Bool) (w : World) {v : Value}, isU v → (Instr.checkKey e 10000 kt v).run P w = .ok () w
  find : ∀ (w : World) {x : Value}, isU x → ∀ es : List MapEntry, (∀ e ∈ es, isU e.key) →
    ((Instr.findKey kt x es).run P w = .ok none w ∧ ∀ e ∈ es, e.key ≠ x) ∨ ∃ j e, (Instr.findKey kt x es).run P w = .ok (some (j, e.val)) w ∧ es[j]? = some e ∧ e.key = x
  stays : ∀ (w : World) {v : Value}, isU v → (Instr.keyThatStays v v).run P w = .ok v w
/-- a map to booleans -/
structure MapOk (P : Program) (kt et : TypeId) : Prop where
  key : KeyOk P kt
  zero : ∀ w : World, (zeroValue et).run P w = .ok (.bool false) w
structure TableOk (P : Program) (T : List TI) : Prop where
  rows : ∀ (t : TypeId) (ti : TI), T[t]? = some ti → ti.ok = true → ti = rowOf P t
  keys : ∀ ti ∈ T, ti.ok = true → ∀ k e, ti.td = .map k e → MapOk P k e
def keysIn : List TI → List (TypeId × TypeId)
  | [] => []
  | ti :: T => match ti.ok, ti.td with
    | true, .map k e => (k, e) :: keysIn T
    | _, _ => keysIn T
theorem keysIn_s {k e : TypeId} : ∀ {T : List TI} {ti : TI}, ti ∈ T → ti.ok = true → ti.td = .map k e → (k, e) ∈ keysIn T
  | x :: T, ti, h, h1, h2 => by
    unfold keysIn
    rcases List.mem_cons.1 h with rfl | h
    · rw [h1, h2]; simp
    · have := keysIn_s h h1 h2
      split
      · exact List.mem_cons_of_mem _ this
      · exact this
def maskRows (P : Program) : Nat → List TI → List TI
  | _, [] => []
  | n, ti :: T => (match ti.ok with | true => rowOf P n | false => ti) :: maskRows P (n + 1) T
theorem rows_of {P : Program} {T : List TI} (h : maskRows P 0 T = T) : ∀ (t : TypeId) (ti : TI), T[t]? = some ti → ti.ok = true → ti = rowOf P t := by
  have key : ∀ (T : List TI) (n : Nat), maskRows P n T = T → ∀ (t : TypeId) (ti : TI), T[t]? = some ti → ti.ok = true → ti = rowOf P (n + t) := by
    intro T
    induction T with
    | nil => intro n _ t ti ht; simp at ht
    | cons x T ih =>
      intro n h t ti ht ho
      simp only [maskRows, List.cons.injEq] at h
      cases t with
      | zero =>
        simp at ht; subst ht
        rw [ho] at h
        simpa using h.1.symm
      | succ t =>
        have := ih (n + 1) h.2 t ti (by simpa using ht) ho
        rwa [show n + (t + 1) = n + 1 + t by omega]
  intro t ti ht ho
  simpa using key T 0 h t ti ht ho

theorem tableOk_of {P : Program} {T : List TI} (h : maskRows P 0 T = T) (hk : ∀ p ∈ keysIn T, MapOk P p.1 p.2) : TableOk P T := ⟨rows_of h, fun _ h1 h2 k e h3 => hk (k, e) (keysIn_s h1 h2 h3)⟩
/-- What a row that is not empty says. -/
structure TFacts (P : Program) (t : TypeId) (ti : TI) : Prop where
  ex : ∃ d i, P.underlying t = some d ∧ P.info? t = some i ∧ ti.td = .of P d ∧ ti.size = i.size ∧ ti.bytes = i.bytes ∧
    ti.agg = isAggD d ∧
    ti.zero = (match i.zero with | some z => z.cells.toList | none => []) ∧
    ti.leaves = if P.eqGuardType P.depth t then none else leavesOf P 8 t

theorem TableOk.facts {P : Program} {T : List TI} (h : TableOk P T) {t : TypeId} {ti : TI} (ht : T[t]? = some ti) (hs : ti.ok = true) : TFacts P t ti := by
  have hr := h.rows t ti ht hs
  unfold rowOf at hr
  split at hr
  · rename_i d i hd hi
    subst hr
    exact ⟨d, i, hd, hi, rfl, rfl, rfl, rfl, rfl, rfl⟩
  · subst hr; simp at hs

theorem run_typeInfo {P : Program} {t : TypeId} {i : TypeInfo} (h : P.info? t = some i) (w : World) : (typeInfo t).run P w = .ok i w := by
  simp [typeInfo, Sem.run_bind, run_program, h]
theorem run_sizeOf' {P : Program} {t : TypeId} {i : TypeInfo} (h : P.info? t = some i) (w : World) : (sizeOf t).run P w = .ok i.size w := by
  simp [sizeOf, run_typeInfo h]
theorem run_isAgg' {P : Program} {t : TypeId} {d : TypeDesc} (h : P.underlying t = some d) (w : World) :
    (isAgg t).run P w = .ok (isAggD d) w := by
  simp only [isAgg, Sem.run_bind, run_underlying h, Result.andThen_ok]
  cases d <;> simp [isAggD]
theorem run_zeroValue' {P : Program} {t : TypeId} {i : TypeInfo} {z : Value} (h : P.info? t = some i) (hz : i.zero = some z) (w : World) : (zeroValue t).run P w = .ok z w := by
  simp [zeroValue, Sem.run_bind, run_typeInfo h, hz]

/-! ### Equality of structs, leaf by leaf -/
def cmpV : List LK → List Value → List Value → Option Bool
  | [], [], [] => some true
  | .int _ :: ls, .int k1 a :: xs, .int k2 b :: ys => if k1 = k2 then (cmpV ls xs ys).map ((a == b) && ·) else none
  | .bool :: ls, .bool a :: xs, .bool b :: ys => (cmpV ls xs ys).map ((a == b) && ·)
  | .str :: ls, .string a :: xs, .string b :: ys => (cmpV ls xs ys).map ((a.toList == b.toList) && ·)
  | _, _, _ => none

theorem cmpV_append {l r : List LK} {xs ys : List Value} {b : Bool} (h : cmpV (l ++ r) xs ys = some b) :
    ∃ b1 b2, cmpV l (xs.take l.length) (ys.take l.length) = some b1 ∧ cmpV r (xs.drop l.length) (ys.drop l.length) = some b2 ∧ b = (b1 && b2) ∧ l.length ≤ xs.length ∧ l.length ≤ ys.length := by
  induction l generalizing xs ys b with
  | nil => exact ⟨true, b, by simp [cmpV], by simpa using h, by simp, by simp, by simp⟩
  | cons k l ih =>
    simp only [List.cons_append] at h
    unfold cmpV at h
    split at h
    · simp_all
    · rename_i ls k1 a xs k2 b' ys heq
      injection heq with h1 h2
      subst h2
      split at h
      · rename_i hk
        simp only [Option.map_eq_some_iff] at h
        obtain ⟨c, hc, rfl⟩ := h
        obtain ⟨b1, b2, h3, h4, rfl, h5, h6⟩ := ih hc
        subst h1
        refine ⟨(a == b') && b1, b2, ?_, by simpa using h4, ?_, by simpa using h5, by simpa using h6⟩
        · simp only [List.length_cons, List.take_succ_cons, cmpV, if_pos hk, h3, Option.map_some]
        · simp [Bool.and_assoc]
      · cases h
    · rename_i ls a xs b' ys heq
      injection heq with h1 h2
      subst h2
      simp only [Option.map_eq_some_iff] at h
      obtain ⟨c, hc, rfl⟩ := h
      obtain ⟨b1, b2, h3, h4, rfl, h5, h6⟩ := ih hc
      subst h1
      exact ⟨(a == b') && b1, b2, by simp only [List.length_cons, List.take_succ_cons, cmpV, h3, Option.map_some], by simpa using h4, by simp [Bool.and_assoc], by simpa using h5, by simpa using h6⟩
    · rename_i ls a xs b' ys heq
      injection heq with h1 h2
      subst h2
      simp only [Option.map_eq_some_iff] at h
      obtain ⟨c, hc, rfl⟩ := h
      obtain ⟨b1, b2, h3, h4, rfl, h5, h6⟩ := ih hc
      subst h1
      exact ⟨(a.toList == b'.toList) && b1, b2, by simp only [List.length_cons, List.take_succ_cons, cmpV, h3, Option.map_some], by simpa using h4, by simp [Bool.and_assoc], by simpa using h5, by simpa using h6⟩
    · cases h

/-- a value of cells -/
def wrapV (P : Program) (t : TypeId) (xs : List Value) : Value :=
  match P.underlying t with
  | some (.struct _) => .agg xs.toArray
  | some (.array _ _) => .agg xs.toArray
  | _ => xs.getD 0 undef

theorem run_part {P : Program} {t : TypeId} {xs : Array Value} {off : Nat} {i : TypeInfo} {l : List LK} {d : Nat} (hl : leavesOf P d t = some l) (hi : P.info? t = some i) (hsz : l.length = i.size) (hx : off + l.length ≤ xs.size) (w : World) :
    (part t xs off).run P w = .ok (wrapV P t ((xs.toList.drop off).take l.length)) w := by
  cases d with
  | zero => simp [leavesOf] at hl
  | succ d =>
    unfold leavesOf at hl
    unfold wrapV
    have one : ∀ k : LK, l = [k] → off < xs.size := by rintro k rfl; simp at hx; omega
    split at hl
    · rename_i k hu
      simp only [Option.some.injEq] at hl
      have := one _ hl.symm
      subst hl
      simp [part, Sem.run_bind, run_isAgg' hu, isAggD, hu, this, List.getD]
    · rename_i hu
      simp only [Option.some.injEq] at hl
      have := one _ hl.symm
      subst hl
      simp [part, Sem.run_bind, run_isAgg' hu, isAggD, hu, this, List.getD]
    · rename_i hu
      simp only [Option.some.injEq] at hl
      have := one _ hl.symm
      subst hl
      simp [part, Sem.run_bind, run_isAgg' hu, isAggD, hu, this, List.getD]
    · rename_i fs hu
      simp only [part, Sem.run_bind, run_isAgg' hu, isAggD, Result.andThen_ok, if_true, run_sizeOf' hi, hu, Sem.run_pure]
      congr 2
      apply Array.ext'
      simp [hsz, Array.toList_extract, List.extract_eq_take_drop]
    · rename_i n e hu
      simp only [part, Sem.run_bind, run_isAgg' hu, isAggD, Result.andThen_ok, if_true, run_sizeOf' hi, hu, Sem.run_pure]
      congr 2
      apply Array.ext'
      simp [hsz, Array.toList_extract, List.extract_eq_take_drop]
    · cases hl

theorem eq_items {P : Program} {d : Nat} {e : TypeId} {l0 : LK} {i : TypeInfo} (he : leavesOf P d e = some [l0]) (hi : P.info? e = some i) (h1 : i.size = 1) (hc : P.cellsOf e = 1)
    (ih : ∀ (t : TypeId) (l : List LK), leavesOf P d t = some l → ∀ (D : Nat), d ≤ D → ∀ (xs ys : List Value) (r : Bool), cmpV l xs ys = some r → ∀ w, (Op.equalIn D t (wrapV P t xs) (wrapV P t ys)).run P w = .ok r w) (D : Nat) (hD : d ≤ D) (xs ys : Array Value) :
    ∀ (m k : Nat) (r : Bool), cmpV (List.replicate m l0) (xs.toList.drop k) (ys.toList.drop k) = some r → ∀ w, (Op.eqItems D e (P.cellsOf e) xs ys (List.range' k m)).run P w = .ok r w := by
  intro m
  induction m with
  | zero =>
    intro k r hr w
    simp only [List.replicate_zero] at hr
    unfold cmpV at hr
    split at hr <;> simp_all [Op.eqItems]
  | succ m ihm =>
    intro k r hr w
    rw [List.replicate_succ, ← List.singleton_append] at hr
    obtain ⟨b1, b2, g1, g2, rfl, g3, g4⟩ := cmpV_append hr
    simp only [List.length_singleton] at g1 g2 g3 g4
    have hx : k + [l0].length ≤ xs.size := by simp at g3 ⊢; omega
    have hy : k + [l0].length ≤ ys.size := by simp at g4 ⊢; omega
    simp only [List.range'_succ, Op.eqItems, Sem.run_bind, hc, Nat.mul_one, run_part he hi (by rw [h1]; rfl) hx, run_part he hi (by rw [h1]; rfl) hy, Result.andThen_ok, List.length_singleton,
      ih e [l0] he D hD _ _ b1 g1, Sem.run_ite, Sem.run_pure]
    cases b1
    · simp
    · simp only [Bool.not_true, Bool.false_eq_true, if_false, Bool.true_and]
      have := ihm (k + 1) b2 (by simpa [List.drop_drop] using g2) w
      rwa [hc] at this

theorem eq_fields {P : Program} {d : Nat} (hsz : ∀ t, P.cellsOf t ≠ 0 → ∃ i, P.info? t = some i ∧ i.size = P.cellsOf t)
    (ih : ∀ (t : TypeId) (l : List LK), leavesOf P d t = some l → ∀ (D : Nat), d ≤ D → ∀ (xs ys : List Value) (r : Bool), cmpV l xs ys = some r → ∀ w, (Op.equalIn D t (wrapV P t xs) (wrapV P t ys)).run P w = .ok r w) :
    ∀ (fs : List Field) (off : Nat) (l : List LK), leavesFs (leavesOf P d) P.cellsOf fs off = some l → ∀ (D : Nat), d ≤ D → ∀ (xs ys : Array Value) (r : Bool), cmpV l (xs.toList.drop off) (ys.toList.drop off) = some r → ∀ w,
      (Op.eqFields D xs ys fs).run P w = .ok r w := by
  intro fs
  induction fs with
  | nil =>
    intro off l hl D hD xs ys r hr w
    simp only [leavesFs, Option.some.injEq] at hl
    subst hl
    unfold cmpV at hr
    split at hr <;> simp_all [Op.eqFields]
  | cons f fs ihf =>
    intro off l hl D hD xs ys r hr w
    unfold leavesFs at hl
    split at hl
    · cases hl
    · rename_i hnm
      simp only [Bool.or_eq_true, beq_iff_eq, bne_iff_ne, not_or, Decidable.not_not] at hnm
      obtain ⟨hn, hoff⟩ := hnm
      subst hoff
      split at hl
      · cases hl
      · rename_i lf hlf
        split at hl
        · cases hl
        · rename_i hlen
          simp only [Bool.or_eq_true, beq_iff_eq, bne_iff_ne, not_or, ne_eq, Decidable.not_not] at hlen
          obtain ⟨hlen, hne⟩ := hlen
          split at hl
          · cases hl
          · rename_i rest hrest
            simp only [Option.some.injEq] at hl
            subst hl
            obtain ⟨b1, b2, h1, h2, rfl, h3, h4⟩ := cmpV_append hr
            have hpos : lf ≠ [] := by intro h0; subst h0; simp at hne
            obtain ⟨i, hi, hisz⟩ := hsz f.type (by rw [← hlen]; simpa using hpos)
            have hx : f.offset + lf.length ≤ xs.size := by
              have : lf.length ≤ xs.toList.length - f.offset := by simpa using h3
              have : 0 < lf.length := List.length_pos_iff.2 hpos
              simp at *; omega
            have hy : f.offset + lf.length ≤ ys.size := by
              have : lf.length ≤ ys.toList.length - f.offset := by simpa using h4
              have : 0 < lf.length := List.length_pos_iff.2 hpos
              simp at *; omega
            simp only [Op.eqFields, ne_eq, hn, not_false_eq_true, if_true, Sem.run_bind, run_part hlf hi (by omega) hx, run_part hlf hi (by omega) hy, Result.andThen_ok,
              ih f.type lf hlf D hD _ _ b1 h1, Sem.run_ite, Sem.run_pure]
            cases b1
            · simp
            · simp only [Bool.not_true, Bool.false_eq_true, if_false, Bool.true_and]
              exact ihf (f.offset + lf.length) rest hrest D hD xs ys b2 (by simpa [List.drop_drop] using h2) w

theorem info_of_cells {P : Program} (t : TypeId) (h : P.cellsOf t ≠ 0) : ∃ i, P.info? t = some i ∧ i.size = P.cellsOf t := by
  unfold Program.cellsOf at *
  cases hi : P.info? t with
  | none => simp [hi] at h
  | some i => exact ⟨i, rfl, by simp⟩

theorem eq_leaves {P : Program} : ∀ (d : Nat) (t : TypeId) (l : List LK), leavesOf P d t = some l → ∀ (D : Nat), d ≤ D → ∀ (xs ys : List Value) (r : Bool), cmpV l xs ys = some r → ∀ w,
    (Op.equalIn D t (wrapV P t xs) (wrapV P t ys)).run P w = .ok r w := by
  intro d
  induction d with
  | zero => intro t l hl; simp [leavesOf] at hl
  | succ d ih =>
    intro t l hl D hD xs ys r hr w
    obtain ⟨D, rfl⟩ : ∃ D', D = D' + 1 := ⟨D - 1, by omega⟩
    unfold leavesOf at hl
    split at hl
    · rename_i k hu
      simp only [Option.some.injEq] at hl; subst hl
      unfold cmpV at hr
      split at hr <;> try (simp_all; done)
      rename_i h1; injection h1 with h1 h2; subst h2
      split at hr
      · rename_i hk; subst hk
        simp only [Option.map_eq_some_iff] at hr
        obtain ⟨c, hc, rfl⟩ := hr
        unfold cmpV at hc
        split at hc <;> simp_all [wrapV, List.getD, run_equalIn_int]
        all_goals rw [run_equalIn_int (h := hu)]
      · cases hr
    · rename_i hu
      simp only [Option.some.injEq] at hl; subst hl
      unfold cmpV at hr
      split at hr <;> try (simp_all; done)
      rename_i h1; injection h1 with h1 h2; subst h2
      simp only [Option.map_eq_some_iff] at hr
      obtain ⟨c, hc, rfl⟩ := hr
      unfold cmpV at hc
      split at hc <;> simp_all [wrapV, List.getD]
      all_goals rw [run_equalIn_bool' (h := hu)]
    · rename_i hu
      simp only [Option.some.injEq] at hl; subst hl
      unfold cmpV at hr
      split at hr <;> try (simp_all; done)
      rename_i h1; injection h1 with h1 h2; subst h2
      simp only [Option.map_eq_some_iff] at hr
      obtain ⟨c, hc, rfl⟩ := hr
      unfold cmpV at hc
      split at hc <;> simp_all [wrapV, List.getD]
      all_goals rw [run_equalIn_string (h := hu)]
    · rename_i fs hu
      split at hl
      · cases hl
      · rename_i hst
        have hf : P.fieldsOf t = fs := by simp [Program.fieldsOf, hu]
        simp only [wrapV, hu]
        rw [run_equalIn_struct w D t _ _ (by rw [hf]; exact hu) (by simpa using hst), hf]
        exact eq_fields info_of_cells ih fs.toList 0 l hl D (by omega) _ _ r (by simpa using hr) w
    · rename_i n e hu
      split at hl
      · rename_i l0 he
        split at hl
        · rename_i hc
          simp only [Option.some.injEq] at hl
          subst hl
          obtain ⟨i, hi, his⟩ := info_of_cells (P := P) e (by rw [hc.1]; decide)
          simp only [wrapV, hu]
          rw [run_equalIn_array w D _ _ hu hi, List.range_eq_range']
          exact eq_items he hi (his.trans hc.1) hc.1 ih D (by omega) _ _ n 0 r (by simpa using hr) w
        · cases hl
      · cases hl
    · cases hl

def ikn : IntKind → Nat
  | .i8 => 0 | .i16 => 1 | .i32 => 2 | .i64 => 3 | .u8 => 4 | .u16 => 5 | .u32 => 6 | .u64 => 7
def eqk (a b : IntKind) : Bool := Nat.beq (ikn a) (ikn b)
theorem eqk_eq {a b : IntKind} (h : eqk a b = true) : a = b := by cases a <;> cases b <;> first | rfl | (simp [eqk, ikn] at h)

def notIf (neg : Bool) (b : Bool) : Bool := match neg with | true => !b | false => b
theorem run_guard_eq {P : Program} {neg : Bool} {t : TypeId} {x y : Operand} {a b v : Value} {w : World} (hg : eqGuard (if neg then .neq else .eql) t x y a b = pure ())
    (hb : (binOp (if neg then .neq else .eql) t a b).run P w = .ok v w) :
    (do eqGuard (if neg then .neq else .eql) t x y a b; binOp (if neg then .neq else .eql) t a b).run P w = .ok v w := by
  rw [hg, Sem.run_bind]; simp [hb]

theorem run_eq_bool {P : Program} (neg : Bool) {t : TypeId} (x y : Operand) (a b : Bool) (w : World) (h : P.underlying t = some .bool) :
    (do eqGuard (if neg then .neq else .eql) t x y (.bool a) (.bool b); binOp (if neg then .neq else .eql) t (.bool a) (.bool b)).run P w = .ok (.bool (notIf neg (a == b))) w := by
  refine run_guard_eq (by cases neg <;> rfl) ?_
  cases neg
  · exact run_eql_bool w t a b h
  · exact run_neq_bool w t a b h
theorem run_eq_ptr {P : Program} (neg : Bool) {t e : TypeId} (x y : Operand) (p : Option Addr) (w : World) (h : P.underlying t = some (.pointer e)) :
    (do eqGuard (if neg then .neq else .eql) t x y (.pointer p) (.pointer none); binOp (if neg then .neq else .eql) t (.pointer p) (.pointer none)).run P w = .ok (.bool (notIf neg p.isNone)) w := by
  have h' : P.underlying t = some (.pointer (P.pointee t)) := by simp [Program.pointee, h]
  refine run_guard_eq (by cases neg <;> rfl) ?_
  cases neg
  · exact run_eql_pointer_nil w t p h'
  · exact run_neq_pointer_nil w t p h'
theorem run_eq_slc {P : Program} (neg : Bool) {t e : TypeId} (x y : Operand) (p : Option Addr) (l c : Nat) (w : World) (h : P.underlying t = some (.slice e)) :
    (do eqGuard (if neg then .neq else .eql) t x y (.slice p l c) (.slice none 0 0); binOp (if neg then .neq else .eql) t (.slice p l c) (.slice none 0 0)).run P w = .ok (.bool (notIf neg p.isNone)) w := by
  refine run_guard_eq (by cases neg <;> rfl) ?_
  cases neg
  · simp [binOp, Op.equal, Op.maxDepth, Lib.run_equalIn_slice_nil w 9999 t e p l c 0 0 h, notIf]
  · simp [binOp, Op.equal, Op.maxDepth, Lib.run_equalIn_slice_nil w 9999 t e p l c 0 0 h, notIf]
theorem run_eq_str {P : Program} (neg : Bool) {t : TypeId} (x y : Operand) (a b : ByteArray) (w : World) :
    (do eqGuard (if neg then .neq else .eql) t x y (.string a) (.string b); binOp (if neg then .neq else .eql) t (.string a) (.string b)).run P w = .ok (.bool (notIf neg (a.toList == b.toList))) w := by
  refine run_guard_eq (by cases neg <;> rfl) ?_
  cases neg <;> rfl

theorem td_bool {P : Program} {t : TypeId} {ti : TI} (hf : TFacts P t ti) (h : ti.td = .bool) : P.underlying t = some .bool := by
  obtain ⟨d, i, hd, hi, h1, _⟩ := hf.ex
  rw [h] at h1; cases d <;> simp [TD.of] at h1; exact hd
theorem td_ptr {P : Program} {t e : TypeId} {ti : TI} (hf : TFacts P t ti) (h : ti.td = .ptr e) : P.underlying t = some (.pointer e) := by
  obtain ⟨d, i, hd, hi, h1, _⟩ := hf.ex
  rw [h] at h1; cases d <;> simp [TD.of] at h1; subst h1; exact hd
theorem td_slice {P : Program} {t e : TypeId} {ti : TI} (hf : TFacts P t ti) (h : ti.td = .slice e) : P.underlying t = some (.slice e) := by
  obtain ⟨d, i, hd, hi, h1, _⟩ := hf.ex
  rw [h] at h1; cases d <;> simp [TD.of] at h1; subst h1; exact hd
theorem td_map {P : Program} {t k e : TypeId} {ti : TI} (hf : TFacts P t ti) (h : ti.td = .map k e) : P.underlying t = some (.map k e) := by
  obtain ⟨d, i, hd, hi, h1, _⟩ := hf.ex
  rw [h] at h1; cases d <;> simp [TD.of] at h1; obtain ⟨rfl, rfl⟩ := h1; exact hd
theorem td_string {P : Program} {t : TypeId} {ti : TI} (hf : TFacts P t ti) (h : ti.td = .string) : P.underlying t = some .string := by
  obtain ⟨d, i, hd, hi, h1, _⟩ := hf.ex
  rw [h] at h1; cases d <;> simp [TD.of] at h1; exact hd
theorem td_int {P : Program} {t : TypeId} {ti : TI} {k : IntKind} (hf : TFacts P t ti) (h : ti.td = .int k) : P.underlying t = some (.int k) := by
  obtain ⟨d, i, hd, hi, h1, _⟩ := hf.ex
  rw [h] at h1; cases d <;> simp [TD.of] at h1; subst h1; exact hd
theorem td_struct {P : Program} {t : TypeId} {ti : TI} {fs : List (Nat × Nat × Nat)} (hf : TFacts P t ti) (h : ti.td = .struct fs) :
    ∃ fl : Array Field, P.underlying t = some (.struct fl) ∧ fs = fl.toList.map fun f => (f.offset, f.type, P.cellsOf f.type) := by
  obtain ⟨d, i, hd, hi, h1, _⟩ := hf.ex
  rw [h] at h1; cases d <;> simp [TD.of] at h1; exact ⟨_, hd, h1⟩

theorem td_array {P : Program} {t e : TypeId} {n : Nat} {ti : TI} (hf : TFacts P t ti) (h : ti.td = .array n e) : P.underlying t = some (.array n e) := by
  obtain ⟨d, i, hd, hi, h1, _⟩ := hf.ex
  rw [h] at h1; cases d <;> simp [TD.of] at h1; obtain ⟨rfl, rfl⟩ := h1; exact hd

/-! ### Memory -/
def oneC : Value → Bool
  | .agg _ => false
  | .tuple _ => false
  | _ => true


/-- 'vs' written over 'xs' from 'off' on -/
def wr {α : Type} : List α → Nat → List α → List α
  | xs, _, [] => xs
  | xs, off, v :: vs => wr (xs.set off v) (off + 1) vs

theorem wr_length {α : Type} (xs : List α) (off : Nat) (vs : List α) : (wr xs off vs).length = xs.length := by
  induction vs generalizing xs off with
  | nil => rfl
  | cons v vs ih => simp [wr, ih]
/-- The world with 'vs' stored from 'a' + 'i' on. -/
def setCells (w : World) (a : Addr) : Nat → List Value → World
  | _, [] => w
  | i, v :: vs => setCells (w.setCell (a.add i) v) a (i + 1) vs

theorem heap_setCell_ne (w : World) (a : Addr) (v : Value) (b : Nat) (h : b ≠ a.block) : (w.setCell a v).heap[b]? = w.heap[b]? := RowKit.Below.heap_setCell w a v b h
theorem heap_setCell_eq {w : World} {b o : Nat} {arr : Array Value} {t : TypeId} {fr : Nat × Nat} (v : Value) (h : w.heap[b]? = some (.cells arr t fr)) :
    (w.setCell ⟨b, o, none⟩ v).heap[b]? = some (.cells (arr.setIfInBounds o v) t fr) := by
  simp [World.setCell, Array.getElem?_modify, h]

theorem add_block (a : Addr) (n : Nat) : (a.add n).block = a.block := by unfold Addr.add; split <;> rfl
theorem add_own (b o n : Nat) : (⟨b, o, none⟩ : Addr).add n = ⟨b, o + n, none⟩ := by unfold Addr.add; split <;> simp_all

theorem setCells_ne (a : Addr) (b : Nat) (h : b ≠ a.block) : ∀ (vs : List Value) (i : Nat) (w : World), (setCells w a i vs).heap[b]? = w.heap[b]?
  | [], _, _ => rfl
  | v :: vs, i, w => by
    simp only [setCells]
    rw [setCells_ne a b h vs, heap_setCell_ne _ _ _ _ (by rw [add_block]; exact h)]

theorem setCells_eq (b o : Nat) {t : TypeId} {fr : Nat × Nat} : ∀ (vs : List Value) (i : Nat) (w : World) (xs : List Value), w.heap[b]? = some (.cells xs.toArray t fr) →
    (setCells w ⟨b, o, none⟩ i vs).heap[b]? = some (.cells (wr xs (o + i) vs).toArray t fr)
  | [], _, w, xs, h => by simpa [setCells, wr] using h
  | v :: vs, i, w, xs, h => by
    simp only [setCells, wr, add_own]
    have h1 := heap_setCell_eq (o := o + i) v h
    simp only [List.setIfInBounds_toArray] at h1
    have := setCells_eq b o vs (i + 1) _ _ h1
    rw [show o + i + 1 = o + (i + 1) by omega]
    exact this

theorem setCells_rest (a : Addr) : ∀ (vs : List Value) (i : Nat) (w : World), (setCells w a i vs).os = w.os ∧ (setCells w a i vs).tape = w.tape ∧ (setCells w a i vs).output = w.output ∧ (setCells w a i vs).heap.size = w.heap.size ∧ (setCells w a i vs).drawn = w.drawn
  | [], _, _ => ⟨rfl, rfl, rfl, rfl, rfl⟩
  | v :: vs, i, w => by
    have := setCells_rest a vs (i + 1) (w.setCell (a.add i) v)
    simp only [setCells]
    refine ⟨this.1, this.2.1, this.2.2.1, ?_, this.2.2.2.2⟩
    rw [this.2.2.2.1]; simp

theorem isSome_setCell {w : World} {a b : Addr} (v : Value) (h : (w.cell? b).isSome = true) : ((w.setCell a v).cell? b).isSome = true := by
  by_cases hab : a = b
  · subst hab
    obtain ⟨u, hu⟩ := Option.isSome_iff_exists.1 h
    rw [World.cell?_setCell_same w a v hu]; rfl
  · rw [World.cell?_setCell_other w a b v hab]; exact h

theorem run_store1 {P : Program} (w : World) (a : Addr) (v : Value) (hv : oneC v = true) (hc : (w.cell? a).isSome = true) (hf : w.frozen? a = false) :
    (store a v).run P w = .ok () (w.setCell a v) := by
  obtain ⟨u, hu⟩ := Option.isSome_iff_exists.1 hc
  unfold store
  cases v <;> simp_all [Sem.run, oneC]

theorem run_storeCells {P : Program} (a : Addr) : ∀ (vs : List Value) (i : Nat) (w : World), (∀ v ∈ vs, oneC v = true) → (∀ j, j < vs.length → (w.cell? (a.add (i + j))).isSome = true ∧ w.frozen? (a.add (i + j)) = false) →
    (storeCells a vs i).run P w = .ok () (setCells w a i vs)
  | [], _, _, _, _ => by simp [storeCells, setCells]
  | v :: vs, i, w, hv, hc => by
    have h0 := hc 0 (by simp)
    simp only [Nat.add_zero] at h0
    simp only [storeCells, Sem.run_bind, run_store1 w _ v (hv v (by simp)) h0.1 h0.2, Result.andThen_ok, setCells]
    refine run_storeCells a vs (i + 1) _ (fun u hu => hv u (by simp [hu])) fun j hj => ?_
    have := hc (j + 1) (by simp; omega)
    rw [show i + 1 + j = i + (j + 1) by omega]
    exact ⟨isSome_setCell v this.1, by rw [World.frozen?_setCell]; exact this.2⟩

theorem cell_of_block {w : World} {b : Nat} {xs : List Value} {t : TypeId} {fr : Nat × Nat} (h : w.heap[b]? = some (.cells xs.toArray t fr)) (o : Nat) : w.cell? ⟨b, o, none⟩ = xs[o]? := by
  simp [World.cell?, h]
theorem frozen_of_block {w : World} {b : Nat} {xs : List Value} {t : TypeId} (h : w.heap[b]? = some (.cells xs.toArray t (0, 0))) (o : Nat) : w.frozen? ⟨b, o, none⟩ = false := by
  simp [World.frozen?, h]
/-- The function has a body, and is called as any other. -/
def HasBody (P : Program) (f : FuncId) : Prop := ∃ fn, P.funcs[f]? = some fn ∧ (fn.name == "runtime.NumGoroutine") = false ∧ fn.body.isNone = false

/-- A CALL THAT RETURNS: what a contract says. -/
structure CallsX (P : Program) (f : FuncId) (args : Array Value) (w : World) (R : Value → World → Prop) : Prop where
  ex : (HasBody P f ∧ Calls P f args w fun e w' => ∃ v, e = .returned v ∧ R v w') ∨ (∃ v w', (callFunc f args).run P w = .ok (.value v) w' ∧ R v w')

theorem CallsX.mono {P : Program} {f : FuncId} {args : Array Value} {w : World} {R R' : Value → World → Prop} (h : CallsX P f args w R) (hr : ∀ v w', R v w' → R' v w') : CallsX P f args w R' := by
  rcases h.ex with ⟨hb, hc⟩ | ⟨v, w', h1, h2⟩
  · exact ⟨.inl ⟨hb, hc.mono fun _ _ ⟨v, he, hv⟩ => ⟨v, he, hr _ _ hv⟩⟩⟩
  · exact ⟨.inr ⟨v, w', h1, hr _ _ h2⟩⟩
theorem HasBody.run {P : Program} {f : FuncId} (h : HasBody P f) (args : Array Value) (w : World) : (callFunc f args).run P w = .ok (.enter f args) w := by
  obtain ⟨fn, h1, h2, h3⟩ := h
  simp only [callFunc, Sem.run_bind, run_program, Result.andThen_ok, h1, h2, h3, Bool.false_eq_true, if_false, Sem.run_pure]
theorem CallsX.calls {P : Program} {f : FuncId} {args : Array Value} {w : World} {R : Value → World → Prop} (h : CallsX P f args w R) (hb : HasBody P f) : Calls P f args w fun e w' => ∃ v, e = .returned v ∧ R v w' := by
  rcases h.ex with ⟨_, hc⟩ | ⟨v, w', h1, h2⟩
  · exact hc
  · rw [hb.run] at h1; simp at h1

/-- an operation of the model's that comes to a value -/
structure RunsX (P : Program) (s : Sem Value) (w : World) (R : Value → World → Prop) : Prop where
  ex : ∃ v w', s.run P w = .ok v w' ∧ R v w'
theorem RunsX.mono {P : Program} {s : Sem Value} {w : World} {R R' : Value → World → Prop} (h : RunsX P s w R) (hr : ∀ v w', R v w' → R' v w') : RunsX P s w R' :=
  ⟨let ⟨v, w', h1, h2⟩ := h.ex; ⟨v, w', h1, hr _ _ h2⟩⟩

def memN : Nat → List Nat → Bool
  | _, [] => false
  | i, j :: js => match Nat.beq i j with | true => true | false => memN i js
section
variable {P : Program} {a : Act} {o : Oper} {w : World}
theorem td_facts {t : TypeId} {ti : TI} (hf : TFacts P t ti) : ∃ i, P.info? t = some i ∧ ti.size = i.size ∧ ti.zero = (match i.zero with | some z => z.cells.toList | none => []) := by
  obtain ⟨d, i, hd, hi, h1, h2, h3, h4, h5, h6⟩ := hf.ex
  exact ⟨i, hi, h2, h5⟩
theorem td_agg {t : TypeId} {ti : TI} (hf : TFacts P t ti) (w : World) : (isAgg t).run P w = .ok ti.agg w := by
  obtain ⟨d, i, hd, hi, h1, h2, h3, h4, h5, h6⟩ := hf.ex
  rw [run_isAgg' hd, h4]
theorem td_size {t : TypeId} {ti : TI} (hf : TFacts P t ti) (w : World) : (sizeOf t).run P w = .ok ti.size w := by
  obtain ⟨i, hi, h2, _⟩ := td_facts hf
  rw [run_sizeOf' hi, h2]

theorem load_run {t : TypeId} {x : Operand} (ho : o.op = .load t x) : (execOp a.eval o).run P w = ((Instr.loadAt t (a.eval x)).run P w).andThen fun v w' => .ok (.value v) w' := by
  simp only [execOp, ho, Sem.run_bind, Sem.run_pure]
theorem store_run {t : TypeId} {x y : Operand} (ho : o.op = .store t x y) : (execOp a.eval o).run P w = ((Instr.storeAt t (a.eval x) (a.eval y)).run P w).andThen fun _ w' => .ok .skip w' := by
  simp only [execOp, ho, Sem.run_bind, Sem.run_pure]
end
theorem memN_iff (i : Nat) (ids : List Nat) : memN i ids = true ↔ i ∈ ids := by
  induction ids with
  | nil => simp [memN]
  | cons j js ih =>
    unfold memN
    split
    · rename_i h; simp [Nat.eq_of_beq_eq_true h]
    · rename_i h; simp [ih, Nat.ne_of_beq_eq_false h]

theorem foldl_wr (cs : List Value) : ∀ (xs : Array Value) (off k : Nat), (cs.zipIdx k).foldl (fun (acc : Array Value) (p : Value × Nat) => acc.setIfInBounds (off + p.2) p.1) xs = (wr xs.toList (off + k) cs).toArray := by
  induction cs with
  | nil => intro xs off k; simp [wr]
  | cons c cs ih =>
    intro xs off k
    simp only [List.zipIdx_cons, List.foldl_cons, ih, wr]
    rw [show off + (k + 1) = off + k + 1 by omega]
    simp

end Go.Vc

namespace Go.Vc
open Go Go.RowKit

/-! ### A set of units (a map to true) -/
abbrev KU := Int × Int × Unit
def kV (x : KU) : Value := uV x.1 x.2.1
theorem kV_inj {x y : KU} (h : kV x = kV y) : x = y := by
  obtain ⟨a, b, ⟨⟩⟩ := x
  obtain ⟨c, d, ⟨⟩⟩ := y
  simp only [kV, uV, Value.agg.injEq, Array.mk.injEq, List.cons.injEq, Value.int.injEq, true_and, and_true] at h
  exact Prod.ext h.1 (Prod.ext h.2 rfl)
theorem kV_mem {x : KU} {l : List KU} : kV x ∈ l.map kV ↔ x ∈ l :=
  ⟨fun h => let ⟨_, hy, e⟩ := List.mem_map.1 h; kV_inj e ▸ hy, fun h => List.mem_map.2 ⟨x, h, rfl⟩⟩
structure SetOk (es : Array MapEntry) (clock : Nat) (ks : List Value) : Prop where
  keys : es.toList.map (·.key) = ks
  kok : ∀ k ∈ ks, isU k
  nd : ks.Nodup
  val : ∀ e ∈ es.toList, e.val = .bool true
  bnd : (es.toList.map (·.born)).Nodup
  lt : ∀ e ∈ es.toList, e.born < clock
/-! ### Types of data -/
inductive DT where
  | int (k : IntKind)
  | bool
  | str
  | slc (t : DT)
  | unit
  | pair (a b : DT)
  | set
@[reducible] def DT.den : DT → Type
  | .int _ => Int
  | .bool => Bool
  | .str => ByteArray
  | .slc t => List t.den
  | .unit => Unit
  | .pair a b => a.den × b.den
  | .set => List KU
def DT.size : DT → Nat
  | .int _ => 1
  | .bool => 1
  | .str => 1
  | .slc _ => 1
  | .unit => 0
  | .pair a b => a.size + b.size
  | .set => 1
def DT.agg : DT → Bool
  | .unit => true
  | .pair _ _ => true
  | _ => false
def DT.same : (a b : DT) → Option (PLift (a = b))
  | .int k, .int k' => if h : eqk k k' = true then some ⟨by rw [eqk_eq h]⟩ else none
  | .bool, .bool => some ⟨rfl⟩
  | .str, .str => some ⟨rfl⟩
  | .unit, .unit => some ⟨rfl⟩
  | .set, .set => some ⟨rfl⟩
  | .slc a, .slc b => match a.same b with
    | some ⟨h⟩ => some ⟨by rw [h]⟩
    | none => none
  | .pair a b, .pair a' b' => match a.same a', b.same b' with
    | some ⟨h⟩, some ⟨h'⟩ => some ⟨by rw [h, h']⟩
    | _, _ => none
  | _, _ => none
def DT.castL {a b : DT} (h : a = b) (l : List a.den) : List b.den := h ▸ l
variable {β : Type}
/-! words that stay in what is lifted -/
def idxF {α : Type} (l : List α) (i : Int) (K : α → Option β) : Option β :=
  match l[i.toNat]? with
  | some x => bif decide (0 ≤ i) then K x else none
  | none => none
def idxR {α : Type} (l : List α) (i : Nat) (K : α → Option β) : Option β :=
  match l[i]? with
  | some x => K x
  | none => none
def bndF (i : Int) (n : Nat) (K : Nat → Option β) : Option β := bif decide (0 ≤ i) && decide (i ≤ (n : Int)) then K i.toNat else none
def nzF (b : Int) (K : Option β) : Option β := bif decide (b = 0) then none else K
def nnF (b : Int) (K : Option β) : Option β := bif decide (0 ≤ b) then K else none
def roomF (n b : Nat) (K : Option β) : Option β := bif decide (n ≤ 281474976710656) && decide (n * b ≤ 140737488355328) then K else none
def strF (n : Int) (K : Option β) : Option β := bif decide (n ≤ 9223372036854775807) then K else none
/-- a string's byte -/
def sidxF (s : ByteArray) (i : Int) (K : Int → Option β) : Option β := bif decide (0 ≤ i) then (match s[i.toNat]? with | some b => K (b.toNat : Int) | none => none) else none
/-- the next letter of a string: which it is, where the one behind it begins -/
def nextF (s : ByteArray) (p : Int) (K : Int → Int → Option β) (N : Option β) : Option β := bif decide (p.toNat < s.size) then K ((Utf8.decode s p.toNat).1 : Int) ((p.toNat + (Utf8.decode s p.toNat).2 : Nat) : Int) else N
def joinF {X : Type} (k : X → Option β) (f : (X → Option β) → Option β) : Option β := f k
def loopF {X : Type} : Nat → (X → (X → Option β) → Option β) → X → Option β
  | 0, _, _ => none
  | n + 1, f, z => f z (loopF n f)
/-- what can be told apart by running -/
class EqB (β : Type) where
  eq : β → β → Bool
  iff : ∀ x y, eq x y = true ↔ x = y
def eqI : Int → Int → Bool
  | .ofNat a, .ofNat b => Nat.beq a b
  | .negSucc a, .negSucc b => Nat.beq a b
  | _, _ => false
theorem eqI_iff : ∀ x y, eqI x y = true ↔ x = y
  | .ofNat a, .ofNat b => by simp only [eqI, Nat.beq_eq]; exact ⟨fun h => by rw [h], fun h => by injection h⟩
  | .negSucc a, .negSucc b => by simp [eqI]
  | .ofNat a, .negSucc b => by simp [eqI]
  | .negSucc a, .ofNat b => by simp [eqI]
def eqLs {α : Type} (f : α → α → Bool) : List α → List α → Bool
  | [], [] => true
  | x :: xs, y :: ys => f x y && eqLs f xs ys
  | _, _ => false
theorem eqLs_iff {α : Type} {f : α → α → Bool} (h : ∀ x y, f x y = true ↔ x = y) : ∀ xs ys, eqLs f xs ys = true ↔ xs = ys
  | [], [] => by simp [eqLs]
  | [], y :: ys => by simp [eqLs]
  | x :: xs, [] => by simp [eqLs]
  | x :: xs, y :: ys => by simp [eqLs, h, eqLs_iff h xs ys]
def eqBytes (a b : ByteArray) : Bool := eqLs (fun x y : UInt8 => Nat.beq x.toNat y.toNat) a.data.toList b.data.toList
theorem eqBytes_iff (a b : ByteArray) : eqBytes a b = true ↔ a = b := by
  unfold eqBytes
  rw [eqLs_iff fun x y => by rw [Nat.beq_eq, UInt8.toNat_inj]]
  constructor
  · intro h
    cases a; cases b
    simpa using h
  · rintro rfl; rfl
instance : EqB Int := ⟨eqI, eqI_iff⟩
instance : EqB Bool := ⟨fun a b => bif a then b else !b, fun a b => by cases a <;> cases b <;> simp⟩
instance : EqB Unit := ⟨fun _ _ => true, fun _ _ => by simp⟩
instance : EqB ByteArray := ⟨eqBytes, eqBytes_iff⟩
instance {α : Type} [EqB α] : EqB (List α) := ⟨eqLs EqB.eq, eqLs_iff EqB.iff⟩
instance {α β : Type} [EqB α] [EqB β] : EqB (α × β) := ⟨fun x y => EqB.eq x.1 y.1 && EqB.eq x.2 y.2, fun x y => by simp [EqB.iff, Prod.ext_iff]⟩
@[reducible] def DT.eqb : (t : DT) → EqB t.den
  | .int _ => inferInstanceAs (EqB Int)
  | .bool => inferInstanceAs (EqB Bool)
  | .str => inferInstanceAs (EqB ByteArray)
  | .slc t => have := t.eqb; inferInstanceAs (EqB (List t.den))
  | .unit => inferInstanceAs (EqB Unit)
  | .pair a b => have := a.eqb; have := b.eqb; inferInstanceAs (EqB (a.den × b.den))
  | .set => inferInstanceAs (EqB (List KU))
def bothF [EqB β] (a b : Option β) : Option β := match a, b with
  | some x, some y => bif EqB.eq x y then some x else none
  | _, _ => none
/-- whether a slice is nil, of which is known whether it has elements -/
def nilF [EqB β] (e : Bool) (f : Bool → Option β) : Option β := bif e then bothF (f true) (f false) else f false
/-- a number of rounds that no loop needs -/
@[irreducible] def FU : Nat := 18446744073709551616
theorem FU_eq : FU = 18446744073709551616 := by unfold FU; rfl
/-! ### sets of units -/
def eqU (a b : KU) : Bool := eqI a.1 b.1 && eqI a.2.1 b.2.1
def memU (x : KU) : List KU → Bool
  | [] => false
  | y :: l => eqU x y || memU x l
def addU (ks : List KU) (x : KU) : List KU := bif memU x ks then ks else ks ++ [x]
def restU (ks dn : List KU) : List KU := ks.filter fun k => !memU k dn
/-- whatever is picked, the same comes out -/
def pickF [EqB β] (l : List KU) (K : KU → Option β) (N : Option β) : Option β :=
  match l with
  | [] => N
  | x :: l => l.foldl (fun r y => bothF r (K y)) (K x)
/-- what is covered by the one, or else by the other -/
def orF (a b : Option β) : Option β := match a with
  | some x => some x
  | none => b
/-- these words: for what is lifted they are whatever they may be -/
structure Wd : Type 1 where
  cnd : {β : Type} → Bool → Option β → Option β → Option β
  idx : {α β : Type} → List α → Int → (α → Option β) → Option β
  nth : {α β : Type} → List α → Nat → (α → Option β) → Option β
  bnd : {β : Type} → Int → Nat → (Nat → Option β) → Option β
  nz : {β : Type} → Int → Option β → Option β
  nn : {β : Type} → Int → Option β → Option β
  room : {β : Type} → Nat → Nat → Option β → Option β
  str : {β : Type} → Int → Option β → Option β
  join : {X β : Type} → (X → Option β) → ((X → Option β) → Option β) → Option β
  loop : {X β : Type} → (X → (X → Option β) → Option β) → X → Option β
  both : {β : Type} → [EqB β] → Option β → Option β → Option β
  call : {α β : Type} → Option α → (α → Option β) → Option β
  nilq : {β : Type} → [EqB β] → Bool → (Bool → Option β) → Option β
  sidx : {β : Type} → ByteArray → Int → (Int → Option β) → Option β
  next : {β : Type} → ByteArray → Int → (Int → Int → Option β) → Option β → Option β
  pick : {β : Type} → [EqB β] → List KU → (KU → Option β) → Option β → Option β
  or : {β : Type} → Option β → Option β → Option β
@[reducible] def stdW : Wd where
  cnd := fun c a b => bif c then a else b
  idx := idxF
  nth := idxR
  bnd := bndF
  nz := nzF
  nn := nnF
  room := roomF
  str := strF
  join := joinF
  loop := loopF FU
  both := bothF
  call := Option.bind
  nilq := nilF
  sidx := sidxF
  next := nextF
  pick := pickF
  or := orF


theorem eqU_iff {a b : KU} : eqU a b = true ↔ a = b := by
  obtain ⟨a1, a2, ⟨⟩⟩ := a
  obtain ⟨b1, b2, ⟨⟩⟩ := b
  simp [eqU, eqI_iff]
theorem memU_iff {x : KU} : ∀ {l : List KU}, memU x l = true ↔ x ∈ l
  | [] => by simp [memU]
  | y :: l => by simp [memU, eqU_iff, memU_iff (l := l)]
/-- the same in either order -/
@[reducible] def Wd.two (W : Wd) {β : Type} [EqB β] (a : Option β) : Option β := W.both a a
theorem bothF_s [EqB β] {a b : Option β} {q : β} (h : bothF a b = some q) : a = some q ∧ b = some q := by
  unfold bothF at h
  split at h
  · rename_i x y
    cases hb : EqB.eq x y with
    | true =>
      rw [hb] at h
      have := (EqB.iff x y).1 hb
      subst this
      exact ⟨h, h⟩
    | false => rw [hb] at h; cases h
  · cases h
theorem fold_both [EqB β] {K : KU → Option β} {q : β} : ∀ {l : List KU} {r : Option β}, l.foldl (fun r y => bothF r (K y)) r = some q → r = some q ∧ ∀ y ∈ l, K y = some q
  | [], r, h => ⟨h, by simp⟩
  | x :: l, r, h => by
    obtain ⟨h1, h2⟩ := fold_both (l := l) h
    obtain ⟨h3, h4⟩ := bothF_s h1
    exact ⟨h3, fun y hy => (List.mem_cons.1 hy).elim (fun e => e ▸ h4) (h2 y)⟩
theorem pickF_s [EqB β] {l : List KU} {K : KU → Option β} {N : Option β} {q : β} (h : pickF l K N = some q) : (l = [] → N = some q) ∧ ∀ y ∈ l, K y = some q := by
  cases l with
  | nil => exact ⟨fun _ => h, by simp⟩
  | cons x l =>
    obtain ⟨h1, h2⟩ := fold_both (l := l) h
    exact ⟨fun h => (by cases h), fun y hy => (List.mem_cons.1 hy).elim (fun e => e ▸ h1) (h2 y)⟩
/-! ### What data stand in -/
structure Later (U U' : Nat → Prop) (w w' : World) : Prop where
  same : ∀ b, b < w.heap.size → ¬ U b → w'.heap[b]? = w.heap[b]?
  size : w.heap.size ≤ w'.heap.size
  sub : ∀ b, b < w.heap.size → U' b → U b
theorem Later.refl (U : Nat → Prop) (w : World) : Later U U w w := ⟨fun _ _ _ => rfl, Nat.le_refl _, fun _ _ h => h⟩
theorem Later.cell {U U' : Nat → Prop} {w w' : World} (l : Later U U' w w') {x : Addr} (hn : ¬ U x.block) (hl : x.block < w.heap.size) (j : Nat) : w'.cell? (x.add j) = w.cell? (x.add j) :=
  World.cell?_of_block (by rw [add_block]; exact l.same _ hl hn)
/-- these cells stand there, where nobody writes -/
def At (U : Nat → Prop) (w : World) (a : Option Addr) (off : Nat) (us : List Value) : Prop :=
  ∀ j u, us[j]? = some u → ∃ x, a = some x ∧ ¬ U x.block ∧ x.block < w.heap.size ∧ w.cell? (x.add (off + j)) = some u
theorem At.mono {U U' : Nat → Prop} {w w' : World} (l : Later U U' w w') {a : Option Addr} {off : Nat} {us : List Value} (h : At U w a off us) : At U' w' a off us := fun j u hj =>
  let ⟨x, e, hn, hl, hc⟩ := h j u hj
  ⟨x, e, fun hb => hn (l.sub _ hl hb), Nat.lt_of_lt_of_le hl l.size, (l.cell hn hl _).trans hc⟩
/-- the cells that data stand in -/
def DT.h (U : Nat → Prop) (w : World) : (t : DT) → t.den → List Value → Prop
  | .int k, n, vs => vs = [.int k n]
  | .bool, b, vs => vs = [.bool b]
  | .str, s, vs => vs = [.string s]
  | .slc t, l, vs => ∃ a c, vs = [.slice a l.length c] ∧ l.length ≤ c ∧ c ≤ maxLen ∧ ∀ i x, l[i]? = some x → ∃ us, t.h U w x us ∧ At U w a (i * t.size) us
  | .unit, _, vs => vs = []
  | .pair a b, x, vs => ∃ us us', vs = us ++ us' ∧ a.h U w x.1 us ∧ b.h U w x.2 us'
  | .set, ks, vs => ∃ b es clock, vs = [.map (some b)] ∧ ¬ U b ∧ b < w.heap.size ∧ w.heap[b]? = some (.map es clock) ∧ SetOk es clock (ks.map kV)
theorem DT.mono {U U' : Nat → Prop} {w w' : World} (l : Later U U' w w') : (t : DT) → {x : t.den} → {vs : List Value} → t.h U w x vs → t.h U' w' x vs
  | .int _, _, _, h => h
  | .bool, _, _, h => h
  | .str, _, _, h => h
  | .slc t, _, _, h => by
    obtain ⟨a, c, e, h1, h2, h3⟩ := h
    exact ⟨a, c, e, h1, h2, fun i x hi => let ⟨us, g1, g2⟩ := h3 i x hi; ⟨us, t.mono l g1, g2.mono l⟩⟩
  | .unit, _, _, h => h
  | .pair a b, _, _, h => by
    obtain ⟨us, us', e, h1, h2⟩ := h
    exact ⟨us, us', e, a.mono l h1, b.mono l h2⟩
  | .set, _, _, h => by
    obtain ⟨b, es, clock, e, h1, h2, h3, h4⟩ := h
    exact ⟨b, es, clock, e, fun hu => h1 (l.sub _ h2 hu), Nat.lt_of_lt_of_le h2 l.size, (l.same _ h2 h1).trans h3, h4⟩
/-- no slices in it -/
def DT.free : DT → Bool
  | .slc _ => false
  | .set => false
  | .pair a b => a.free && b.free
  | _ => true
theorem DT.h_free {U U' : Nat → Prop} {w w' : World} : (t : DT) → {x : t.den} → {vs : List Value} → t.free = true → t.h U w x vs → t.h U' w' x vs
  | .int _, _, _, _, h => h
  | .bool, _, _, _, h => h
  | .str, _, _, _, h => h
  | .slc t, _, _, f, _ => by cases f
  | .unit, _, _, _, h => h
  | .pair a b, _, _, f, h => by
    obtain ⟨us, us', e, h1, h2⟩ := h
    simp only [DT.free, Bool.and_eq_true] at f
    exact ⟨us, us', e, a.h_free f.1 h1, b.h_free f.2 h2⟩
  | .set, _, _, f, _ => by cases f
theorem DT.h_len {U : Nat → Prop} {w : World} : (t : DT) → {x : t.den} → {vs : List Value} → t.h U w x vs → vs.length = t.size
  | .int _, _, _, h => by subst h; rfl
  | .bool, _, _, h => by subst h; rfl
  | .str, _, _, h => by subst h; rfl
  | .slc t, _, _, h => by obtain ⟨a, c, rfl, _⟩ := h; rfl
  | .unit, _, _, h => by subst h; rfl
  | .pair a b, _, _, h => by obtain ⟨us, us', rfl, h1, h2⟩ := h; simp [DT.size, a.h_len h1, b.h_len h2]
  | .set, _, _, h => by obtain ⟨b, es, clock, rfl, _⟩ := h; rfl
def plainC : Value → Bool
  | .int _ _ => true
  | .bool _ => true
  | .string _ => true
  | .slice _ _ _ => true
  | .map _ => true
  | _ => false
theorem DT.h_one {U : Nat → Prop} {w : World} : (t : DT) → {x : t.den} → {vs : List Value} → t.h U w x vs → ∀ u ∈ vs, plainC u = true
  | .int _, _, _, h => by subst h; simp [plainC]
  | .bool, _, _, h => by subst h; simp [plainC]
  | .str, _, _, h => by subst h; simp [plainC]
  | .slc t, _, _, h => by obtain ⟨a, c, rfl, _⟩ := h; simp [plainC]
  | .unit, _, _, h => by subst h; simp
  | .pair a b, _, _, h => by
    obtain ⟨us, us', rfl, h1, h2⟩ := h
    intro u hu
    exact (List.mem_append.1 hu).elim (a.h_one h1 u) (b.h_one h2 u)
  | .set, _, _, h => by obtain ⟨b, es, clock, rfl, _⟩ := h; simp [plainC]
theorem plainC_one {v : Value} (h : plainC v = true) : oneC v = true ∧ v.oneCell' = true := by cases v <;> simp_all [plainC, oneC, Value.oneCell']
/-- a row's elements, one behind the other -/
def DT.hs (U : Nat → Prop) (w : World) (t : DT) (l : List t.den) (vs : List Value) : Prop :=
  vs.length = l.length * t.size ∧ ∀ i x, l[i]? = some x → t.h U w x ((vs.drop (i * t.size)).take t.size)
theorem DT.hs_mono {U U' : Nat → Prop} {w w' : World} (l : Later U U' w w') {t : DT} {xs : List t.den} {vs : List Value} (h : t.hs U w xs vs) : t.hs U' w' xs vs := ⟨h.1, fun i x hi => t.mono l (h.2 i x hi)⟩
theorem mul_lt_of {i n k : Nat} (h : i < n) : i * k + k ≤ n * k := by have := Nat.mul_le_mul_right k h; rwa [Nat.succ_mul] at this
theorem DT.hs_app {U : Nat → Prop} {w : World} {t : DT} {xs ys : List t.den} {us vs : List Value} (h : t.hs U w xs us) (k : t.hs U w ys vs) : t.hs U w (xs ++ ys) (us ++ vs) := by
  refine ⟨by simp [h.1, k.1, Nat.add_mul], fun i x hi => ?_⟩
  rcases Nat.lt_or_ge i xs.length with hl | hl
  · rw [List.getElem?_append_left hl] at hi
    have := mul_lt_of (k := t.size) hl
    have h2 := h.2 i x hi
    rw [List.drop_append_of_le_length (by rw [h.1]; omega), List.take_append_of_le_length (by rw [List.length_drop, h.1]; omega)]
    exact h2
  · rw [List.getElem?_append_right hl] at hi
    have h2 := k.2 _ x hi
    have e : i * t.size = us.length + (i - xs.length) * t.size := by
      rw [h.1, ← Nat.add_mul]; congr 1; omega
    rw [e, List.drop_append, List.drop_eq_nil_of_le (by omega), List.nil_append, Nat.add_sub_cancel_left]
    exact h2
theorem DT.hs_nil {U : Nat → Prop} {w : World} {t : DT} : t.hs U w [] [] := ⟨by simp, by simp⟩
theorem DT.hs_one {U : Nat → Prop} {w : World} {t : DT} {x : t.den} {us : List Value} (h : t.h U w x us) : t.hs U w [x] us := by
  refine ⟨by simp [t.h_len h], fun i y hi => ?_⟩
  cases i with
  | zero => simp at hi; subst hi; simpa [List.take_of_length_le (Nat.le_of_eq (t.h_len h))] using h
  | succ i => simp at hi
theorem DT.hs_plain {U : Nat → Prop} {w : World} {t : DT} {xs : List t.den} {vs : List Value} (h : t.hs U w xs vs) : ∀ u ∈ vs, plainC u = true := by
  intro u hu
  obtain ⟨n, hn⟩ := List.mem_iff_getElem?.1 hu
  have hlt := (List.getElem?_eq_some_iff.1 hn).1
  rw [h.1] at hlt
  have hk : 0 < t.size := by rcases Nat.eq_zero_or_pos t.size with h0 | h0; · simp [h0] at hlt
                             · exact h0
  have hi : n / t.size < xs.length := Nat.div_lt_of_lt_mul (by rwa [Nat.mul_comm])
  refine t.h_one (h.2 (n / t.size) _ (List.getElem?_eq_getElem hi)) u (List.mem_iff_getElem?.2 ⟨n % t.size, ?_⟩)
  rw [List.getElem?_take, if_pos (Nat.mod_lt _ hk), List.getElem?_drop]
  rw [show n / t.size * t.size + n % t.size = n by rw [Nat.mul_comm]; exact Nat.div_add_mod n _]
  exact hn
theorem drop_take_get {α : Type} {vs : List α} {o n j : Nat} {u : α} : ((vs.drop o).take n)[j]? = some u ↔ j < n ∧ vs[o + j]? = some u := by
  rw [List.getElem?_take]; split
  · rename_i h; simp [h, List.getElem?_drop]
  · rename_i h; simp [h]
theorem DT.hs_take {U : Nat → Prop} {w : World} {t : DT} {xs : List t.den} {vs : List Value} (h : t.hs U w xs vs) {n : Nat} (hn : n ≤ xs.length) : t.hs U w (xs.take n) (vs.take (n * t.size)) := by
  have hm := Nat.mul_le_mul_right t.size hn
  refine ⟨by simp [h.1, Nat.min_eq_left hm, Nat.min_eq_left hn], fun i x hi => ?_⟩
  rw [List.getElem?_take] at hi
  split at hi
  · rename_i hl
    have h2 := h.2 i x hi
    have := mul_lt_of (k := t.size) hl
    have e : ((vs.take (n * t.size)).drop (i * t.size)).take t.size = (vs.drop (i * t.size)).take t.size := by
      apply List.ext_getElem?; intro j
      simp only [List.getElem?_take, List.getElem?_drop]
      split
      · rw [if_pos (by omega)]
      · rfl
    rwa [e]
  · cases hi
theorem wr_get {α : Type} : ∀ (vs : List α) (xs : List α) (off j : Nat), off + vs.length ≤ xs.length → (wr xs off vs)[j]? = if off ≤ j ∧ j < off + vs.length then vs[j - off]? else xs[j]?
  | [], xs, off, j, h => by simp only [wr, List.length_nil]; rw [if_neg (by omega)]
  | v :: vs, xs, off, j, h => by
    simp only [List.length_cons] at h
    rw [wr, wr_get vs _ _ _ (by simp; omega)]
    rcases Nat.lt_trichotomy j off with hj | rfl | hj
    · rw [if_neg (by omega), if_neg (by omega), List.getElem?_set, if_neg (by omega)]
    · rw [if_neg (by omega), if_pos (by simp), List.getElem?_set, if_pos rfl]; simp; omega
    · have e : j - off = (j - (off + 1)) + 1 := by omega
      simp only [List.length_cons]
      by_cases hl : j < off + 1 + vs.length
      · rw [if_pos (by omega), if_pos (by omega), e, List.getElem?_cons_succ]
      · rw [if_neg (by omega), if_neg (by omega), List.getElem?_set, if_neg (by omega)]
theorem DT.hs_set {U : Nat → Prop} {w : World} {t : DT} {xs : List t.den} {vs us : List Value} {i : Nat} {y : t.den} (h : t.hs U w xs vs) (hi : i < xs.length) (hy : t.h U w y us) : t.hs U w (xs.set i y) (wr vs (i * t.size) us) := by
  have hu := t.h_len hy
  have hb := mul_lt_of (k := t.size) hi
  refine ⟨by rw [wr_length]; simp [h.1], fun j x hj => ?_⟩
  rw [List.getElem?_set] at hj
  split at hj
  · rename_i hij; subst hij
    simp [] at hj; subst hj
    have e : ((wr vs (i * t.size) us).drop (i * t.size)).take t.size = us := by
      apply List.ext_getElem?; intro k
      rw [List.getElem?_take]; split
      · rename_i hk
        rw [List.getElem?_drop, wr_get _ _ _ _ (by rw [h.1, hu]; exact hb), if_pos (by omega)]; congr 1; omega
      · rename_i hk; rw [List.getElem?_eq_none (by omega)]
    rwa [e]
  · rename_i hij
    have h2 := h.2 j x hj
    have hjl := (List.getElem?_eq_some_iff.1 hj).1
    have hbj := mul_lt_of (k := t.size) hjl
    have e : ((wr vs (i * t.size) us).drop (j * t.size)).take t.size = (vs.drop (j * t.size)).take t.size := by
      apply List.ext_getElem?; intro k
      simp only [List.getElem?_take]; split
      · rename_i hk
        rw [List.getElem?_drop, List.getElem?_drop, wr_get _ _ _ _ (by rw [h.1, hu]; exact hb), if_neg]
        rintro ⟨h3, h4⟩
        rcases Nat.lt_or_gt_of_ne hij with h5 | h5
        · have := mul_lt_of (k := t.size) h5; omega
        · have := mul_lt_of (k := t.size) h5; omega
      · rfl
    rwa [e]
theorem DT.hs_repl {U : Nat → Prop} {w : World} {t : DT} {x : t.den} {us : List Value} (h : t.h U w x us) : ∀ n, t.hs U w (List.replicate n x) (List.replicate n us).flatten
  | 0 => DT.hs_nil
  | n + 1 => by
    simp only [List.replicate_succ, List.flatten_cons]
    exact DT.hs_app (DT.hs_one h) (DT.hs_repl h n)
/-- a row that nobody writes any longer -/
theorem DT.hs_slc {U : Nat → Prop} {w : World} {t : DT} {xs : List t.den} {vs : List Value} {a : Option Addr} {c : Nat} (h : t.hs U w xs vs) (hc : xs.length ≤ c) (hm : c ≤ maxLen)
    (hat : At U w a 0 vs) : (DT.slc t).h U w xs [.slice a xs.length c] :=
  ⟨a, c, rfl, hc, hm, fun i x hi => ⟨_, h.2 i x hi, fun j u hj => by
    obtain ⟨_, hj⟩ := drop_take_get.1 hj
    have := hat _ u hj
    rwa [Nat.zero_add] at this⟩⟩
end Go.Vc

namespace Go.Vc
open Go Go.RowKit

/-! ### What is known of a slot -/
inductive DV : Type where
  | int (k : IntKind) (n : Int)
  | bool (b : Bool)
  | lit (b : Bool)
  | str (s : ByteArray)
  | v (y : Value)
  | und
  | sl (t : DT) (l : List t.den)
  | cs (t : DT) (l : List t.den)
  | set (ks : List KU)
  | row (j : Nat)
  | el (t : DT) (x : t.den) (off : Nat)
  | re (j i off : Nat)
  | rt (j i : Nat)
  | ob (j : Nat)
  | own (i off : Nat)
  | fn (f : FuncId) (caps : List DV)
  | agg (xs : List DV)
  | tup (xs : List DV)
  | fns (xs : List DV)
  | fp (xs : List DV) (k : Nat)
  | ra (j : Nat)
  | rs (j i : Nat)
  | junk
structure DB where
  ty : TypeId
  cells : List DV
  w : Bool
abbrev DBs := List (Option DB)
/-- what stands in a block that is no row of cells -/
inductive OD where
  | itr (s : ByteArray) (p : Int)
  | set (ks : List KU)
  | walk (ks dn : List KU)
def OD.isM : OD → Bool
  | .set _ => true
  | _ => false
inductive OKd where
  | itr
  | set
  | walk
@[reducible] def tKU : DT := .pair (.int .i64) (.pair (.int .i64) .unit)
@[reducible] def OKd.T : OKd → DT
  | .itr => .pair .str (.pair (.int .i64) .unit)
  | .set => .slc tKU
  | .walk => .pair (.slc tKU) (.pair (.slc tKU) .unit)
def OKd.od : (k : OKd) → k.T.den → OD
  | .itr, z => .itr z.1 z.2.1
  | .set, z => .set z
  | .walk, z => .walk z.1 z.2.1
def OKd.of : (k : OKd) → OD → Option k.T.den
  | .itr, d => match d with | .itr s p => some (s, p, ()) | _ => none
  | .set, d => match d with | .set ks => some ks | _ => none
  | .walk, d => match d with | .walk ks dn => some (ks, dn, ()) | _ => none
inductive DR where
  | own (e : TypeId) (t : DT) (l : List t.den)
  | obj (d : OD)
  | dead

def ofConst : Value → DV
  | .bool b => .lit b
  | .int k n => .int k n
  | .string s => .str s
  | x => .v x
def DT.cells : (t : DT) → t.den → List DV → List DV
  | .int k, n, r => .int k n :: r
  | .bool, b, r => .bool b :: r
  | .str, s, r => .str s :: r
  | .slc t, l, r => .sl t l :: r
  | .unit, _, r => r
  | .pair a b, x, r => a.cells x.1 (b.cells x.2 r)
  | .set, ks, r => .set ks :: r
def DT.val : (t : DT) → t.den → DV
  | .int k, n => .int k n
  | .bool, b => .bool b
  | .str, s => .str s
  | .slc t, l => .sl t l
  | .unit, _ => .agg []
  | .pair a b, x => .agg (a.cells x.1 (b.cells x.2 []))
  | .set, ks => .set ks
/-- data out of cells -/
def DT.of : (t : DT) → List DV → Option (t.den × List DV)
  | .int k, cs => match cs with
    | .int k' n :: r => match eqk k k' with | true => some (n, r) | false => none
    | _ => none
  | .bool, cs => match cs with
    | .bool b :: r => some (b, r)
    | .lit b :: r => some (b, r)
    | _ => none
  | .str, cs => match cs with
    | .str s :: r => some (s, r)
    | _ => none
  | .slc t, cs => match cs with
    | .sl t' l :: r => match t'.same t with | some ⟨h⟩ => some (DT.castL h l, r) | none => none
    | .v (.slice none 0 0) :: r => some ([], r)
    | _ => none
  | .unit, cs => some ((), cs)
  | .set, cs => match cs with
    | .set ks :: r => some (ks, r)
    | _ => none
  | .pair a b, cs => match a.of cs with
    | some (x, r) => match b.of r with
      | some (y, r) => some ((x, y), r)
      | none => none
    | none => none
def DT.ofV (t : DT) (v : DV) : Option t.den :=
  match t.agg with
  | true => match v with
    | .agg cs => match t.of cs with | some (x, r) => (match r with | [] => some x | _ => none) | none => none
    | _ => none
  | false => match t.of [v] with | some (x, r) => (match r with | [] => some x | _ => none) | none => none

/-! ### The evaluator -/
variable {β : Type}
abbrev DK (β : Type) := List DV → DBs → List DR → Option β
def gtV : List DV → Nat → Option DV
  | [], _ => some .und
  | p :: _, 0 => match p with
    | .junk => none
    | p => some p
  | _ :: ps, n + 1 => gtV ps n
def setE {α : Type} : List α → Nat → α → (List α → Option β) → Option β
  | [], _, _, K => K []
  | _ :: ps, 0, y, K => K (y :: ps)
  | p :: ps, n + 1, y, K => setE ps n y fun l => K (p :: l)
def opV (ts : List DV) (o : Operand) : Option DV :=
  match o with
  | .tmp t => gtV ts t
  | .const c => some (ofConst c)
  | .global g => some (.v (.pointer (some ⟨g, 0, none⟩)))
  | .func f => match Nat.ble 1000000 f with | true => none | false => some (.fn f [])
def opsV (ts : List DV) : List Operand → Option (List DV)
  | [] => some []
  | o :: os => match opV ts o with
    | some x => match opsV ts os with | some xs => some (x :: xs) | none => none
    | none => none
def subV : List DV → Nat → Nat → Option (List DV)
  | _ :: xs, o + 1, n => subV xs o n
  | _, 0, 0 => some []
  | x :: xs, 0, n + 1 => match subV xs 0 n with | some l => some (x :: l) | none => none
  | [], _, _ => none
def wrE : List DV → Nat → List DV → (List DV → Option β) → Option β
  | xs, _, [], K => K xs
  | xs, off, v :: vs, K => setE xs off v fun l => wrE l (off + 1) vs K
def dbV : DBs → Nat → Option DB
  | [], _ => none
  | o :: _, 0 => o
  | _ :: xs, n + 1 => dbV xs n
def unbornV : DBs → Nat → Bool
  | [], _ => false
  | o :: _, 0 => match o with | some _ => false | none => true
  | _ :: xs, n + 1 => unbornV xs n
def drV : List DR → Nat → Option DR
  | [], _ => none
  | r :: _, 0 => some r
  | _ :: rs, n + 1 => drV rs n
def litE (n : Nat) (K : Nat → Option β) : Option β :=
  match n with
  | 0 => K 0
  | 1 => K 1
  | 2 => K 2
  | 3 => K 3
  | 4 => K 4
  | 5 => K 5
  | 6 => K 6
  | 7 => K 7
  | 8 => K 8
  | 9 => K 9
  | 10 => K 10
  | 11 => K 11
  | n => K n
def pushE {α : Type} : List α → α → (List α → Option β) → Option β
  | [], y, K => K [y]
  | x :: xs, y, K => pushE xs y fun l => K (x :: l)
mutual
def DV.subE (f : Nat → Option DV) : DV → (DV → Option β) → Option β
  | .row i, K => match f i with | some p => K p | none => K (.row i)
  | .re i a b, K => match f i with | some _ => K .junk | none => K (.re i a b)
  | .rt i a, K => match f i with | some _ => K .junk | none => K (.rt i a)
  | .ob i, K => match f i with | some p => K p | none => K (.ob i)
  | .ra i, K => match f i with | some _ => K .junk | none => K (.ra i)
  | .rs i a, K => match f i with | some _ => K .junk | none => K (.rs i a)
  | .fns xs, K => subLE f xs fun xs => K (.fns xs)
  | .fp xs k, K => subLE f xs fun xs => K (.fp xs k)
  | .fn g cs, K => subLE f cs fun cs => K (.fn g cs)
  | .agg xs, K => subLE f xs fun xs => K (.agg xs)
  | .tup xs, K => subLE f xs fun xs => K (.tup xs)
  | .int k n, K => K (.int k n)
  | .bool b, K => K (.bool b)
  | .lit b, K => K (.lit b)
  | .str s, K => K (.str s)
  | .v y, K => K (.v y)
  | .und, K => K .und
  | .sl t l, K => K (.sl t l)
  | .cs t l, K => K (.cs t l)
  | .set ks, K => K (.set ks)
  | .el t x o, K => K (.el t x o)
  | .own i o, K => K (.own i o)
  | .junk, K => K .junk
def subLE (f : Nat → Option DV) : List DV → (List DV → Option β) → Option β
  | [], K => K []
  | p :: ps, K => p.subE f fun p => subLE f ps fun ps => K (p :: ps)
end
def subBE (f : Nat → Option DV) : DBs → (DBs → Option β) → Option β
  | [], K => K []
  | some ⟨t, cs, w⟩ :: ps, K => subLE f cs fun cs => subBE f ps fun ps => K (some ⟨t, cs, w⟩ :: ps)
  | none :: ps, K => subBE f ps fun ps => K (none :: ps)
def oneD (j : Nat) (p : DV) : Nat → Option DV := fun i => match Nat.beq i j with | true => some p | false => none
def norowD : Nat → Option DV := fun _ => some .junk
def someD (js : List Nat) : Nat → Option DV := fun j => match memN j js with | true => some .junk | false => none

def partsV (ts : List DV) : List (Nat × Operand) → Option (List (Nat × DV))
  | [] => some []
  | (i, o) :: ps => match opV ts o with
    | some x => match partsV ts ps with | some xs => some ((i, x) :: xs) | none => none
    | none => none
/-- what stands in one cell -/
def oneD1 (p : DV) : Bool :=
  match p with
  | .v y => oneC y
  | .agg _ => false
  | .tup _ => false
  | .und => false
  | .junk => false
  | _ => true
def cellsV (x : DV) : Option (List DV) :=
  match x with
  | .agg xs => some xs
  | x => match oneD1 x with | true => some [x] | false => none
def oneDL : List DV → Bool
  | [] => true
  | p :: ps => match oneD1 p with | true => oneDL ps | false => false
def tiV : List TI → Nat → Option TI
  | [], _ => none
  | ti :: _, 0 => match ti.ok with | true => some ti | false => none
  | _ :: T, n + 1 => tiV T n
def fldV : List (Nat × Nat × Nat) → Nat → Option (Nat × Nat × Nat)
  | [], _ => none
  | (off, ty, sz) :: _, 0 => match sz with | 0 => none | n + 1 => some (off, ty, n + 1)
  | _ :: fs, i + 1 => fldV fs i
def posV : List (Nat × Nat × Nat) → Bool
  | [] => true
  | (_, _, sz) :: fs => match sz with | 0 => false | _ + 1 => posV fs
def fillE (fs : List (Nat × Nat × Nat)) : List DV → List (Nat × DV) → (List DV → Option β) → Option β
  | cells, [], K => K cells
  | cells, (i, x) :: ps, K => match fldV fs i with
    | some (off, _, sz) => match cellsV x with
      | some cs => match Nat.beq cs.length sz, subV cells off sz with
        | true, some _ => wrE cells off cs fun cells => fillE fs cells ps K
        | _, _ => none
      | none => none
    | none => none
/-- an array's places -/
def arrFs (e : TypeId) (sz : Nat) : Nat → Nat → List (Nat × Nat × Nat)
  | 0, _ => []
  | n + 1, i => (i * sz, e, sz) :: arrFs e sz n (i + 1)
def constV : List Value → List DV
  | [] => []
  | x :: xs => ofConst x :: constV xs
def opOV (ts : List DV) (o : Option Operand) : Option (Option DV) :=
  match o with
  | none => some none
  | some o => match opV ts o with | some x => some (some x) | none => none
def bndD (W : Wd) (o : Option DV) (dflt bound : Nat) (K : Nat → Option β) : Option β :=
  match o with
  | none => K dflt
  | some (.int _ i) => W.bnd i bound K
  | _ => none

def intBinD (W : Wd) (op : BinOp) (k : IntKind) (a b : Int) (ret : DV → Option β) : Option β :=
  match op with
  | .add => ret (.int k (k.wrap (a + b)))
  | .sub => ret (.int k (k.wrap (a - b)))
  | .mul => ret (.int k (k.wrap (a * b)))
  | .quo => W.nz b (ret (.int k (k.wrap (a.tdiv b))))
  | .rem => W.nz b (ret (.int k (a.tmod b)))
  | .and => ret (.int k (bits .and k a b))
  | .or => ret (.int k (bits .or k a b))
  | .xor => ret (.int k (bits .xor k a b))
  | .eql => ret (.bool (a == b))
  | .neq => ret (.bool (a != b))
  | .lss => ret (.bool (decide (a < b)))
  | .leq => ret (.bool (decide (a ≤ b)))
  | .gtr => ret (.bool (decide (b < a)))
  | .geq => ret (.bool (decide (b ≤ a)))
  | _ => none
def leafV (l : LK) (x y : DV) : Option Bool :=
  match l, x, y with
  | .int _, .int k a, .int k' b => match eqk k k' with | true => some (a == b) | false => none
  | .bool, .bool a, .bool b => some (a == b)
  | .bool, .lit a, .bool b => some (a == b)
  | .bool, .bool a, .lit b => some (a == b)
  | .bool, .lit a, .lit b => some (a == b)
  | .str, .str a, .str b => some (a.toList == b.toList)
  | _, _, _ => none
def cmpXV : List LK → List DV → List DV → Option Bool
  | [l], [x], [y] => leafV l x y
  | l :: ls, x :: xs, y :: ys => match leafV l x y with
    | some r => match cmpXV ls xs ys with | some r' => some (r && r') | none => none
    | none => none
  | _, _, _ => none
def tdV (T : List TI) (t : TypeId) : Option TD := match tiV T t with | some ti => some ti.td | none => none
/-- equality, inequality ('neg') of what are no integers -/
def eqXV (T : List TI) (neg : Bool) (t : TypeId) (a b : DV) : Option DV :=
  match a, b with
  | .str s, .str u => some (.bool (notIf neg (s.toList == u.toList)))
  | .agg xs, .agg ys => match tiV T t with
    | some ti => match ti.leaves, ti.td with
      | some ls, .struct _ => match cmpXV ls xs ys with | some r => some (.bool (notIf neg r)) | none => none
      | some ls, .array _ _ => match cmpXV ls xs ys with | some r => some (.bool (notIf neg r)) | none => none
      | _, _ => none
    | none => none
  | .bool x, .bool y => match tdV T t with | some .bool => some (.bool (notIf neg (x == y))) | _ => none
  | .bool x, .lit y => match tdV T t with | some .bool => some (.bool (notIf neg (x == y))) | _ => none
  | .lit x, .bool y => match tdV T t with | some .bool => some (.bool (notIf neg (x == y))) | _ => none
  | .lit x, .lit y => match tdV T t with | some .bool => some (.bool (notIf neg (x == y))) | _ => none
  | .v (.pointer none), .v (.pointer none) => match tdV T t with | some (.ptr _) => some (.lit (!neg)) | _ => none
  | .own _ _, .v (.pointer none) => match tdV T t with | some (.ptr _) => some (.lit neg) | _ => none
  | .v (.slice none 0 0), .v (.slice none 0 0) => match tdV T t with | some (.slice _) => some (.bool (notIf neg true)) | _ => none
  | _, _ => none
def binE (W : Wd) (T : List TI) (op : BinOp) (t : TypeId) (a b : DV) (ret : DV → Option β) : Option β :=
  match op, a, b with
  | .shl, .int k x, .int _ y => W.nn y (ret (.int k (k.wrap (x * 2 ^ (min y.toNat k.bits)))))
  | .shr, .int k x, .int _ y => W.nn y (ret (.int k (x.fdiv (2 ^ (min y.toNat k.bits)))))
  | op, .int k x, .int k' y => match eqk k k' with | true => intBinD W op k x y ret | false => none
  | .add, .str s, .str u => W.str ((s.size : Int) + u.size) (ret (.str (s ++ u)))
  | .eql, a, b => match eqXV T false t a b with | some y => ret y | none => none
  | .neq, a, b => match eqXV T true t a b with | some y => ret y | none => none
  | _, _, _ => none
def argTyV (T : List TI) (ats : Array TypeId) : Option TD :=
  match ats.toList with
  | [t] => tdV T t
  | _ => none
def lenV (xs : List DV) (rw : List DR) : Option Nat :=
  match xs with
  | [.sl _ l] => some l.length
  | [.row j] => match drV rw j with | some (.own _ _ l) => some l.length | _ => none
  | [.v (.slice none 0 0)] => some 0
  | [.fns l] => some l.length
  | _ => none
def builtinE (T : List TI) (b : Builtin) (ats : Array TypeId) (xs : List DV) (rw : List DR) (ret : DV → Option β) : Option β :=
  match b with
  | .len => match argTyV T ats with
    | some (.slice _) => match lenV xs rw with | some n => ret (.int .i64 (n : Nat)) | none => none
    | some .string => match xs with | [.str s] => ret (.int .i64 s.size) | _ => none
    | _ => none
  | .max => match xs with | [.int k x, .int _ y] => ret (.int k (if y > x then y else x)) | _ => none
  | .min => match xs with | [.int k x, .int _ y] => ret (.int k (if y < x then y else x)) | _ => none
  | _ => none
def pickV (g : Bool) (a b : DV) : Option DV :=
  match a, b with
  | .lit true, .bool y => some (.bool (g || y))
  | .bool x, .lit false => some (.bool (g && x))
  | .lit true, .lit y => some (.bool (g || y))
  | .lit false, .lit y => some (.bool (!g && y))
  | .bool x, .lit y => some (.bool (bif g then x else y))
  | .lit x, .bool y => some (.bool (bif g then x else y))
  | .bool x, .bool y => some (.bool (bif g then x else y))
  | _, _ => none
def unV (op : UnOp) (a : DV) : Option DV :=
  match op, a with
  | .not, .bool b => some (.bool (!b))
  | .not, .lit b => some (.lit (!b))
  | .neg, .int k n => some (.int k (k.wrap (0 - n)))
  | .xor, .int k n => some (.int k (bits .xor k (if k.signed then -1 else k.max) n))
  | _, _ => none
def o1 {α : Type} (o : Option α) (K : α → Option β) : Option β := match o with | some x => K x | none => none
/-- a place some cells further -/
def stepV (a : DV) (off : Nat) : Option DV :=
  match a with
  | .own i o' => some (.own i (o' + off))
  | .el t x o' => some (.el t x (o' + off))
  | .re j i o' => some (.re j i (o' + off))
  | _ => none
def partV (T : List TI) (ty : TypeId) (sz : Nat) (xs : List DV) (off : Nat) : Option DV :=
  match tiV T ty with
  | some tf => match tf.agg with
    | true => match subV xs off sz with | some l => some (.agg l) | none => none
    | false => match subV xs off 1 with | some [x] => some x | _ => none
  | none => none
def purE (W : Wd) (T : List TI) (op : Op) (ts : List DV) (rw : List DR) (ret : DV → Option β) : Option β :=
  match op with
  | .move x => o1 (opV ts x) ret
  | .assign x => o1 (opV ts x) ret
  | .pick c a b => o1 (opV ts c) fun c => match c with
    | .lit true => o1 (opV ts a) ret
    | .lit false => o1 (opV ts b) ret
    | .bool g => o1 (opV ts a) fun a => o1 (opV ts b) fun b => o1 (pickV g a b) ret
    | _ => none
  | .nilCheck x => o1 (opV ts x) fun p => match p with
    | .own i o => ret (.own i o)
    | .el t x o => ret (.el t x o)
    | .re j i o => ret (.re j i o)
    | .fn f cs => ret (.fn f cs)
    | _ => none
  | .binOp op t x y _ => o1 (opV ts x) fun a => o1 (opV ts y) fun b => binE W T op t a b ret
  | .unOp op _ x => o1 (opV ts x) fun a => o1 (unV op a) ret
  | .convert src dst x => o1 (opV ts x) fun a => match tiV T src, tdV T dst, a with
    | some _, some (.int k), .int _ n => ret (.int k (k.wrap n))
    | some _, some .string, .str s => ret (.str s)
    | _, _, _ => none
  | .fieldAddr s x f => o1 (opV ts x) fun a => match tdV T s with
    | some (.struct fs) => o1 (fldV fs f) fun q => o1 (stepV a q.1) ret
    | _ => none
  | .field s x f => o1 (opV ts x) fun a => match tdV T s, a with
    | some (.struct fs), .agg xs => o1 (fldV fs f) fun q => o1 (partV T q.2.1 q.2.2 xs q.1) ret
    | _, _ => none
  | .indexAddr t x ix => o1 (opV ts x) fun a => o1 (opV ts ix) fun i => match tdV T t, a, i with
    | some (.slice e), .sl t' l, .int _ i => match tiV T e with
      | some te => match Nat.beq te.size t'.size, Nat.blt 0 t'.size with
        | true, true => W.idx l i fun x => ret (.el t' x 0)
        | _, _ => none
      | none => none
    | some (.slice e), .row j, .int _ i => match tiV T e, drV rw j with
      | some te, some (.own _ t' l) => match Nat.beq te.size t'.size, Nat.blt 0 t'.size with
        | true, true => W.idx l i fun _ => ret (.re j i.toNat 0)
        | _, _ => none
      | _, _ => none
    | some (.slice e), .fns l, .int _ (.ofNat k) => match tiV T e with
      | some te => match Nat.beq te.size 1, Nat.blt k l.length with
        | true, true => ret (.fp l k)
        | _, _ => none
      | none => none
    | _, _, _ => none
  | .extract t i => o1 (opV ts t) fun a => match a with
    | .tup xs => match subV xs i 1 with | some [x] => ret x | _ => none
    | _ => none
  | .slice t x lo hi mx => o1 (opV ts x) fun a => match opOV ts lo, opOV ts hi with
    | some lo, some hi => match tdV T t, a, mx with
      | some (.slice e), .sl t' l, none => match tiV T e with
        | some te => match Nat.beq te.size t'.size with
          | true => match lo with
            | none => bndD W hi l.length l.length fun h => ret (.sl t' (l.take h))
            | some lo => bndD W hi l.length l.length fun h => bndD W (some lo) 0 h fun k => ret (.sl t' ((l.take h).drop k))
          | false => none
        | none => none
      | some .string, .str s, none => bndD W hi s.size s.size fun h => bndD W lo 0 h fun l => ret (.str (s.extract l h))
      | some (.slice e), .sl t' l, some m => match lo, hi, opV ts m, tiV T e with
        | none, some (.int _ n), some (.int _ k), some te => match Nat.beq te.size t'.size with
          | true => W.cnd (n == (l.length : Int) && k == (l.length : Int)) (ret (.cs t' l)) none
          | false => none
        | _, _, _, _ => none
      | _, _, _ => none
    | _, _ => none
  | .build t parts => match partsV ts parts.toList with
    | some ps => match tiV T t with
      | some ti => match ti.td, ti.zero with
        | .struct fs, z :: zs => match posV fs with
          | true => fillE fs (constV (z :: zs)) ps fun cells => ret (.agg cells)
          | false => none
        | .array n e, z :: zs => match tiV T e with
          | some te => match Nat.blt 0 te.size with
            | true => fillE (arrFs e te.size n 0) (constV (z :: zs)) ps fun cells => ret (.agg cells)
            | false => none
          | none => none
        | _, _ => none
      | none => none
    | none => none
  | .makeFunc fn first caps => match fn, first.toList, caps.toList with
    | .func f, [], cs => match Nat.ble 1000000 f, opsV ts cs with | false, some cs => ret (.fn f cs) | _, _ => none
    | .func f, fs, [] => match opsV ts fs with | some cs => ret (.fn (f + 1000000) cs) | none => none
    | _, _, _ => none
  | .call c => match c.callee with
    | .builtin b => match opsV ts c.args.toList with | some xs => builtinE T b c.argTypes xs rw ret | none => none
    | _ => none
  | _ => none
/-- cells as a value of a type -/
def loadC (ti : TI) (cs : List DV) (off : Nat) (ret : DV → Option β) : Option β :=
  match ti.agg, ti.size with
  | true, n + 1 => match subV cs off (n + 1) with | some l => ret (.agg l) | none => none
  | false, _ => match subV cs off 1 with | some [x] => ret x | _ => none
  | _, _ => none
def loadE (W : Wd) (T : List TI) (t : TypeId) (A : DV) (pb : DBs) (rw : List DR) (ret : DV → Option β) : Option β :=
  match tiV T t with
  | some ti => match A with
    | .own i off => match dbV pb i with
      | some b => loadC ti b.cells off ret
      | none => none
    | .el t' x off => loadC ti (t'.cells x []) off ret
    | .fp l k => loadC ti l k ret
    | .re j i off => match drV rw j with
      | some (.own _ t' l) => W.nth l i fun x => loadC ti (t'.cells x []) off ret
      | _ => none
    | _ => none
  | none => none

/-- a row's elements -/
def ofVs (t : DT) : List (Nat × DV) → Nat → Option (List t.den)
  | [], _ => some []
  | (i, p) :: ps, n => match Nat.beq i n, t.ofV p with
    | true, some x => match ofVs t ps (n + 1) with | some l => some (x :: l) | none => none
    | _, _ => none
mutual
def DV.rows : DV → List Nat → List Nat
  | .row j, acc => j :: acc
  | .ob j, acc => j :: acc
  | .fn _ cs, acc => rowsDL cs acc
  | .agg cs, acc => rowsDL cs acc
  | .tup cs, acc => rowsDL cs acc
  | .fns cs, acc => rowsDL cs acc
  | .fp cs _, acc => rowsDL cs acc
  | _, acc => acc
def rowsDL : List DV → List Nat → List Nat
  | [], acc => acc
  | p :: ps, acc => p.rows (rowsDL ps acc)
end
/-- rows that nobody writes any longer -/
def frzE : List Nat → List DV → DBs → List DR → List DV → (List DV → DBs → List DR → List DV → Option β) → Option β
  | [], ts, pb, rw, ps, K => K ts pb rw ps
  | j :: js, ts, pb, rw, ps, K => match drV rw j with
    | some (.own _ t l) => subLE (oneD j (.sl t l)) ts fun ts => subBE (oneD j (.sl t l)) pb fun pb => subLE (oneD j (.sl t l)) ps fun ps => setE rw j .dead fun rw => frzE js ts pb rw ps K
    | some (.obj (.set ks)) => subLE (oneD j (.set ks)) ts fun ts => subBE (oneD j (.set ks)) pb fun pb => subLE (oneD j (.set ks)) ps fun ps => setE rw j .dead fun rw => frzE js ts pb rw ps K
    | _ => frzE js ts pb rw ps K
def retE (dst : Option Tmp) (x : DV) (ts : List DV) (pb : DBs) (rw : List DR) (K : DK β) : Option β :=
  match dst with
  | none => K ts pb rw
  | some d => setE ts d x fun l => K l pb rw

/-! ### Functions -/
/-- which nil -/
inductive NK where
  | ptr
  | slc
  | fn
def NK.val : NK → Value
  | .ptr => .pointer none
  | .slc => .slice none 0 0
  | .fn => .nilFunc
def NK.is : NK → Value → Bool
  | .ptr, .pointer none => true
  | .slc, .slice none 0 0 => true
  | .fn, .nilFunc => true
  | _, _ => false
inductive QT where
  | v (t : DT)
  | own (e : TypeId) (t : DT)
  | ptr (k : Nat)
  | nil (k : NK)
  | unit
  | pair (a b : QT)
@[reducible] def QT.den : QT → Type
  | .v t => t.den
  | .own _ t => List t.den
  | .ptr _ => Unit
  | .nil _ => Unit
  | .unit => Unit
  | .pair a b => a.den × b.den
/-- of data alone -/
structure ES where
  P : DT
  Q : QT
  fn : P.den → Option Q.den
/-- the form of what is handed over: data, a row of one's own, box number k, a closure, a struct that holds such -/
inductive PK where
  | v (t : DT)
  | row (e : TypeId) (t : DT)
  | ptr (k : Nat)
  | fn (g : Nat) (l : List PK)
  | agg (l : List PK)
  | fns (l : List PK)
  | nil (k : NK)
structure BK where
  ty : TypeId
  cells : List PK
mutual
@[reducible] def PK.T : PK → DT → DT
  | .v t, r => .pair t r
  | .row _ t, r => .pair (.slc t) r
  | .ptr _, r => r
  | .fn _ l, r => pkT l r
  | .agg l, r => pkT l r
  | .fns l, r => pkT l r
  | .nil _, r => r
@[reducible] def pkT : List PK → DT → DT
  | [], r => r
  | p :: l, r => p.T (pkT l r)
end
@[reducible] def bkT : List BK → DT → DT
  | [], r => r
  | B :: l, r => pkT B.cells (bkT l r)
/-- that are lent boxes B (behind the call they are of form E; what E has more is new) -/
structure LS where
  B : List BK
  P : List PK
  E : List BK
  Q : QT
  fn : (bkT B (pkT P .unit)).den → Option (Q.den × (bkT E .unit).den)
/-- that changes a row's elements where they stand (its first argument; elements without slices) -/
structure MU where
  e : TypeId
  t : DT
  P : List PK
  fn : List t.den → (pkT P .unit).den → Option (List t.den)
inductive EC where
  | es (s : ES)
  | ls (s : LS)
  | mu (s : MU)
abbrev ESs := List (Nat × EC)
/-- of contracts of one function that is handed closures: the one whose closures these are -/
def fitP : PK → DV → Bool
  | .fn g _, .fn g' _ => Nat.beq g g'
  | .nil n, .v y => n.is y
  | .nil _, _ => false
  | .ptr _, .v _ => false
  | _, _ => true
def fitPL : List PK → List DV → Bool
  | p :: l, v :: vs => fitP p v && fitPL l vs
  | _, _ => true
def fitE : EC → List DV → Bool
  | .ls s, xs => fitPL s.P xs
  | .es _, _ => true
  | .mu s, xs => fitPL s.P xs.tail
def esL : ESs → Nat → List DV → List EC
  | [], _, _ => []
  | (n, s) :: ss, f, xs => match Nat.beq n f && fitE s xs with | true => s :: esL ss f xs | false => esL ss f xs
def ofA : (P : DT) → List DV → Option P.den
  | .unit, vs => match vs with | [] => some () | _ => none
  | .pair a b, vs => match vs with
    | v :: vs => match a.ofV v, ofA b vs with | some x, some y => some (x, y) | _, _ => none
    | _ => none
  | _, _ => none
def argVs : (P : DT) → P.den → List DV
  | .pair a b, x => a.val x.1 :: argVs b x.2
  | _, _ => []
/-- which box is meant -/
def lkA : List (Nat × Nat) → Nat → Option Nat
  | [], _ => none
  | (k, i) :: l, n => match Nat.beq k n with | true => some i | false => lkA l n
mutual
def PK.ids : PK → DV → List (Nat × Nat) → List (Nat × Nat)
  | .ptr k, .own i _, am => match lkA am k with | some _ => am | none => (k, i) :: am
  | .fn _ l, .fn _ cs, am => idsL l cs am
  | .agg l, .agg cs, am => idsL l cs am
  | .fns l, .fns cs, am => idsL l cs am
  | _, _, am => am
def idsL : List PK → List DV → List (Nat × Nat) → List (Nat × Nat)
  | p :: l, v :: vs, am => idsL l vs (p.ids v am)
  | _, _, am => am
end
def idsB : List BK → Nat → DBs → List (Nat × Nat) → List (Nat × Nat)
  | [], _, _, am => am
  | B :: l, n, pb, am => match lkA am n with
    | some i => match dbV pb i with
      | some b => idsB l (n + 1) pb (idsL B.cells b.cells am)
      | none => am
    | none => am
def nodupN : List Nat → Bool
  | [] => true
  | n :: l => !memN n l && nodupN l
def sndN : List (Nat × Nat) → List Nat
  | [] => []
  | p :: l => p.2 :: sndN l
/- rows that stand where data are asked for -/
mutual
def PK.frz : PK → DV → List Nat → List Nat
  | .v _, p, acc => p.rows acc
  | .fn _ l, .fn _ cs, acc => frzL l cs acc
  | .agg l, .agg cs, acc => frzL l cs acc
  | .fns l, .fns cs, acc => frzL l cs acc
  | _, _, acc => acc
def frzL : List PK → List DV → List Nat → List Nat
  | p :: l, v :: vs, acc => p.frz v (frzL l vs acc)
  | _, _, acc => acc
end
def frzB (am : List (Nat × Nat)) : List BK → Nat → DBs → List Nat → List Nat
  | [], _, _, acc => acc
  | B :: l, n, pb, acc => match lkA am n with
    | some i => match dbV pb i with
      | some b => frzL B.cells b.cells (frzB am l (n + 1) pb acc)
      | none => acc
    | none => acc
/-- rows that were handed over, in order; what is left -/
structure MS where
  rs : List (Option Nat)
  rw : List DR
mutual
/-- data out of what has this form -/
def PK.x (am : List (Nat × Nat)) : (p : PK) → (r : DT) → DV → MS → (MS → Option (r.den × MS)) → Option ((p.T r).den × MS)
  | .v t, _, u, m, k => match t.ofV u, k m with
    | some x, some (y, m) => some ((x, y), m)
    | _, _ => none
  | .row e t, _, u, m, k => match u with
    | .row j => match drV m.rw j with
      | some (.own e' t' xs) => match Nat.beq e' e, t'.same t, k ⟨m.rs ++ [some j], m.rw.set j .dead⟩ with
        | true, some ⟨h⟩, some (y, m) => some ((DT.castL h xs, y), m)
        | _, _, _ => none
      | _ => none
    | .v (.slice none 0 0) => match k ⟨m.rs ++ [none], m.rw⟩ with
      | some (y, m) => some (([], y), m)
      | none => none
    | _ => none
  | .ptr n, _, u, m, k => match u with
    | .own i o => match o, lkA am n with
      | 0, some i' => match Nat.beq i i' with | true => k m | false => none
      | _, _ => none
    | _ => none
  | .fn g l, r, u, m, k => match u with
    | .fn g' cs => match Nat.beq g' g with | true => pkX am l r cs m k | false => none
    | _ => none
  | .agg l, r, u, m, k => match u with
    | .agg cs => pkX am l r cs m k
    | _ => none
  | .fns l, r, u, m, k => match u with
    | .fns cs => pkX am l r cs m k
    | _ => none
  | .nil n, _, u, m, k => match u with
    | .v y => match n.is y with | true => k m | false => none
    | _ => none
def pkX (am : List (Nat × Nat)) : (l : List PK) → (r : DT) → List DV → MS → (MS → Option (r.den × MS)) → Option ((pkT l r).den × MS)
  | [], _, vs, m, k => match vs with | [] => k m | _ => none
  | p :: l, r, vs, m, k => match vs with
    | v :: vs => p.x am (pkT l r) v m fun m => pkX am l r vs m k
    | _ => none
end
def bkX (am : List (Nat × Nat)) (pb : DBs) : (l : List BK) → Nat → (r : DT) → MS → (MS → Option (r.den × MS)) → Option ((bkT l r).den × MS)
  | [], _, _, m, k => k m
  | B :: l, n, r, m, k => match lkA am n with
    | some i => match dbV pb i with
      | some b => match Nat.beq b.ty B.ty with
        | true => pkX am B.cells (bkT l r) b.cells m fun m => bkX am pb l (n + 1) r m k
        | false => none
      | none => none
    | none => none
mutual
/-- of data, what has this form: as the function sees it -/
def PK.mk : (p : PK) → (r : DT) → (p.T r).den → List DR → DV × r.den × List DR
  | .v t, _, z, rw => (t.val z.1, z.2, rw)
  | .row e t, _, z, rw => (.row rw.length, z.2, rw ++ [.own e t z.1])
  | .ptr k, _, z, rw => (.own k 0, z, rw)
  | .fn g l, r, z, rw => match pkM l r z rw with | (vs, y, rw) => (.fn g vs, y, rw)
  | .agg l, r, z, rw => match pkM l r z rw with | (vs, y, rw) => (.agg vs, y, rw)
  | .fns l, r, z, rw => match pkM l r z rw with | (vs, y, rw) => (.fns vs, y, rw)
  | .nil n, _, z, rw => (.v n.val, z, rw)
def pkM : (l : List PK) → (r : DT) → (pkT l r).den → List DR → List DV × r.den × List DR
  | [], _, z, rw => ([], z, rw)
  | p :: l, r, z, rw => match p.mk (pkT l r) z rw with
    | (v, y, rw) => match pkM l r y rw with
      | (vs, y, rw) => (v :: vs, y, rw)
end
def bkM : (l : List BK) → (r : DT) → (bkT l r).den → List DR → DBs × r.den × List DR
  | [], _, z, rw => ([], z, rw)
  | B :: l, r, z, rw => match pkM B.cells (bkT l r) z rw with
    | (vs, y, rw) => match bkM l r y rw with
      | (bs, y, rw) => (some ⟨B.ty, vs, true⟩ :: bs, y, rw)
mutual
/-- results, as the function leaves them -/
def QT.mk : (Q : QT) → Q.den → List DR → DV × List DR
  | .v t, x, rw => (t.val x, rw)
  | .own e t, l, rw => (.row rw.length, rw ++ [.own e t l])
  | .ptr k, _, rw => (.own k 0, rw)
  | .nil n, _, rw => (.v n.val, rw)
  | .unit, _, rw => (.tup [], rw)
  | .pair a b, q, rw => match a.mk q.1 rw with | (u, rw) => match b.mks q.2 rw with | (vs, rw) => (.tup (u :: vs), rw)
def QT.mks : (Q : QT) → Q.den → List DR → List DV × List DR
  | .pair a b, q, rw => match a.mk q.1 rw with | (u, rw) => match b.mks q.2 rw with | (vs, rw) => (u :: vs, rw)
  | _, _, rw => ([], rw)
end
/-- where a new row goes: to where one was handed over -/
def rowO (ρ : List (Option Nat)) (e : TypeId) (t : DT) (l : List t.den) (rw : List DR) (K : DV → List (Option Nat) → List DR → Option β) : Option β :=
  match ρ with
  | some j :: ρ => setE rw j (.own e t l) fun rw => K (.row j) ρ rw
  | none :: ρ => pushE rw (.own e t l) fun rw' => litE rw.length fun n => K (.row n) ρ rw'
  | [] => pushE rw (.own e t l) fun rw' => litE rw.length fun n => K (.row n) [] rw'
mutual
/-- the same, as the caller sees it -/
def PK.o (σ : Nat → Option Nat) : (p : PK) → (r : DT) → (p.T r).den → List (Option Nat) → List DR → (DV → r.den → List (Option Nat) → List DR → Option β) → Option β
  | .v t, _, z, ρ, rw, K => K (t.val z.1) z.2 ρ rw
  | .row e t, _, z, ρ, rw, K => rowO ρ e t z.1 rw fun v ρ rw => K v z.2 ρ rw
  | .ptr k, _, z, ρ, rw, K => match σ k with | some i => K (.own i 0) z ρ rw | none => none
  | .fn g l, r, z, ρ, rw, K => pkO σ l r z ρ rw fun vs y ρ rw => K (.fn g vs) y ρ rw
  | .agg l, r, z, ρ, rw, K => pkO σ l r z ρ rw fun vs y ρ rw => K (.agg vs) y ρ rw
  | .fns l, r, z, ρ, rw, K => pkO σ l r z ρ rw fun vs y ρ rw => K (.fns vs) y ρ rw
  | .nil n, _, z, ρ, rw, K => K (.v n.val) z ρ rw
def pkO (σ : Nat → Option Nat) : (l : List PK) → (r : DT) → (pkT l r).den → List (Option Nat) → List DR → (List DV → r.den → List (Option Nat) → List DR → Option β) → Option β
  | [], _, z, ρ, rw, K => K [] z ρ rw
  | p :: l, r, z, ρ, rw, K => p.o σ (pkT l r) z ρ rw fun v y ρ rw => pkO σ l r y ρ rw fun vs y ρ rw => K (v :: vs) y ρ rw
end
/-- boxes: m of them were lent -/
def bkO (σ : Nat → Option Nat) (m : Nat) : (l : List BK) → Nat → (r : DT) → (bkT l r).den → List (Option Nat) → DBs → List DR → (r.den → List (Option Nat) → DBs → List DR → Option β) → Option β
  | [], _, _, z, ρ, pb, rw, K => K z ρ pb rw
  | B :: l, n, r, z, ρ, pb, rw, K => pkO σ B.cells (bkT l r) z ρ rw fun vs y ρ rw => match Nat.blt n m with
    | true => match σ n with
      | some i => setE pb i (some ⟨B.ty, vs, true⟩) fun pb => bkO σ m l (n + 1) r y ρ pb rw K
      | none => none
    | false => pushE pb (some ⟨B.ty, vs, true⟩) fun pb => bkO σ m l (n + 1) r y ρ pb rw K
mutual
def QT.o (σ : Nat → Option Nat) : (Q : QT) → Q.den → List (Option Nat) → List DR → (DV → List (Option Nat) → List DR → Option β) → Option β
  | .v t, x, ρ, rw, K => K (t.val x) ρ rw
  | .own e t, l, ρ, rw, K => rowO ρ e t l rw K
  | .ptr k, _, ρ, rw, K => match σ k with | some i => K (.own i 0) ρ rw | none => none
  | .nil n, _, ρ, rw, K => K (.v n.val) ρ rw
  | .unit, _, ρ, rw, K => K (.tup []) ρ rw
  | .pair a b, q, ρ, rw, K => a.o σ q.1 ρ rw fun v ρ rw => b.os σ q.2 ρ rw fun vs ρ rw => K (.tup (v :: vs)) ρ rw
def QT.os (σ : Nat → Option Nat) : (Q : QT) → Q.den → List (Option Nat) → List DR → (List DV → List (Option Nat) → List DR → Option β) → Option β
  | .pair a b, q, ρ, rw, K => a.o σ q.1 ρ rw fun v ρ rw => b.os σ q.2 ρ rw fun vs ρ rw => K (v :: vs) ρ rw
  | _, _, ρ, rw, K => K [] ρ rw
end
/-- no slices among the results -/
def QT.free : QT → Bool
  | .v t => t.free
  | .own _ t => t.free
  | .ptr _ => true
  | .nil _ => true
  | .unit => true
  | .pair a b => a.free && b.free
mutual
def PK.free : PK → Bool
  | .v t => t.free
  | .row _ t => t.free
  | .ptr _ => true
  | .fn _ l => pkFree l
  | .agg l => pkFree l
  | .fns _ => false
  | .nil _ => true
def pkFree : List PK → Bool
  | [] => true
  | p :: l => p.free && pkFree l
end
def bkFree : List BK → Bool
  | [] => true
  | B :: l => pkFree B.cells && bkFree l
/-- a row of one's own, read as it stands -/
def viewD (rw : List DR) : Nat → Option DV := fun j => match drV rw j with | some (.own _ t l) => some (.sl t l) | some (.obj (.set ks)) => some (.set ks) | _ => none
mutual
def PK.view (rw : List DR) : PK → DV → (DV → Option β) → Option β
  | .v _, p, K => p.subE (viewD rw) K
  | .fn _ l, .fn g cs, K => viewL rw l cs fun cs => K (.fn g cs)
  | .agg l, .agg cs, K => viewL rw l cs fun cs => K (.agg cs)
  | .fns l, .fns cs, K => viewL rw l cs fun cs => K (.fns cs)
  | _, p, K => K p
def viewL (rw : List DR) : List PK → List DV → (List DV → Option β) → Option β
  | p :: l, v :: vs, K => p.view rw v fun v => viewL rw l vs fun vs => K (v :: vs)
  | _, vs, K => K vs
end
def someN : List (Option Nat) → List Nat
  | [] => []
  | some j :: l => j :: someN l
  | none :: l => someN l
def allN (al : Nat → Bool) : List Nat → Bool
  | [] => true
  | i :: l => al i && allN al l
def tysE : List BK → List BK → Bool
  | [], _ => true
  | B :: l, l' => match l' with | E :: l' => Nat.beq B.ty E.ty && tysE l l' | [] => false
/-- box number k, for the caller -/
def sigA (am : List (Nat × Nat)) (m n : Nat) : Nat → Option Nat := fun k => match Nat.blt k m with | true => lkA am k | false => some (n + (k - m))
def keysLt : List (Nat × Nat) → Nat → Bool
  | [], _ => true
  | (k, _) :: l, n => Nat.blt k n && keysLt l n
def disN : List Nat → List Nat → Bool
  | [], _ => true
  | n :: l, js => !memN n js && disN l js
/-- a call of a function that is lent boxes, rows (vw: rows that are read as they stand) -/
def callE (W : Wd) (s : LS) (al : Nat → Bool) (am : List (Nat × Nat)) (vw : List Nat) (xs : List DV) (ts : List DV) (pb : DBs) (rw : List DR) (K : DV → DK β) : Option β :=
  match nodupN (sndN am) && allN al (sndN am) && tysE s.B s.E && keysLt am s.B.length, bkX am pb s.B 0 (pkT s.P .unit) ⟨[], rw⟩ (fun m => pkX am s.P .unit xs m fun m => some ((), m)) with
  | true, some (z, m) => match disN vw (someN m.rs) with
    | true => subLE (someD (someN m.rs)) ts fun ts => subBE (someD (someN m.rs)) pb fun pb =>
      W.call (s.fn z) fun o => bkO (sigA am s.B.length pb.length) s.B.length s.E 0 .unit o.2 m.rs pb m.rw fun _ ρ pb2 rw =>
        s.Q.o (sigA am s.B.length pb.length) o.1 ρ rw fun v _ rw => K v ts pb2 rw
    | false => none
  | _, _ => none
def esF (W : Wd) (s : ES) (xs : List DV) (ts : List DV) (pb : DBs) (rw : List DR) (K : DV → DK β) : Option β :=
  match ofA s.P xs with
  | some x => W.call (s.fn x) fun q => s.Q.o (fun _ => none) q [] rw fun v _ rw => K v ts pb rw
  | none => none
def callM (W : Wd) (s : MU) (xs : List DV) (ts : List DV) (pb : DBs) (rw : List DR) (K : DV → DK β) : Option β :=
  match xs with
  | .row j :: ys => match drV rw j with
    | some (.own e t l) => match Nat.beq e s.e && s.t.free, t.same s.t, pkX [] s.P .unit ys ⟨[], rw⟩ (fun m => some ((), m)) with
      | true, some ⟨h⟩, some (z, m) => match m.rs with
        | [] => W.call (s.fn (DT.castL h l) z) fun l' => setE rw j (.own s.e s.t l') fun rw => K (.tup []) ts pb rw
        | _ => none
      | _, _, _ => none
    | _ => none
  | _ => none
def callC (W : Wd) (c : EC) (al : Nat → Bool) (xs : List DV) (ts : List DV) (pb : DBs) (rw : List DR) (K : DV → DK β) : Option β :=
  match c with
  | .mu s => callM W s xs ts pb rw K
  | .es s => match s.Q.free with
    | true => subLE (viewD rw) xs fun xs => esF W s xs ts pb rw K
    | false => frzE (rowsDL xs []) ts pb rw xs fun ts pb rw xs => esF W s xs ts pb rw K
  | .ls s => match idsB s.B 0 pb (idsL s.P xs []) with
    | am => match s.Q.free && bkFree s.E with
      | true => frzE (frzB am s.B 0 pb []) ts pb rw xs fun ts pb rw xs => viewL rw s.P xs fun ys => callE W s al am (frzL s.P xs []) ys ts pb rw K
      | false => frzE (frzB am s.B 0 pb (frzL s.P xs [])) ts pb rw xs fun ts pb rw xs => callE W s al am [] xs ts pb rw K
/-- by any contract that fits -/
def callL (W : Wd) (al : Nat → Bool) (xs : List DV) (ts : List DV) (pb : DBs) (rw : List DR) (K : DV → DK β) : List EC → Option β
  | [] => none
  | c :: l => match l with
    | [] => callC W c al xs ts pb rw K
    | _ :: _ => W.or (callC W c al xs ts pb rw K) (callL W al xs ts pb rw K l)
def callV (W : Wd) (C : ESs) (al : Nat → Bool) (g : Nat) (xs : List DV) (ts : List DV) (pb : DBs) (rw : List DR) (K : DV → DK β) : Option β := callL W al xs ts pb rw K (esL C g xs)
end Go.Vc

namespace Go.Vc
open Go Go.RowKit
variable {β : Type}
def strOf (ns : List Int) : ByteArray := ns.foldl (fun r n => r.push (UInt8.ofNat n.toNat)) ByteArray.empty
def avV : List (Nat × Nat) → Nat → Option Nat
  | [], _ => none
  | (d, i) :: l, n => match Nat.beq d n with | true => some i | false => avV l n
def newDB (av : List (Nat × Nat)) (dst : Option Tmp) (ty : TypeId) (cs : List DV) (ts : List DV) (pb : DBs) (rw : List DR) (K : DK β) : Option β :=
  match dst with
  | none => none
  | some d => match avV av d with
    | some i => match unbornV pb i with
      | true => setE pb i (some ⟨ty, cs, true⟩) fun pb' => retE (some d) (.own i 0) ts pb' rw K
      | false => none
    | none => pushE pb (some ⟨ty, cs, true⟩) fun pb' => litE pb.length fun n => retE (some d) (.own n 0) ts pb' rw K
def sndsD : List (Nat × DV) → List DV
  | [] => []
  | (_, p) :: ps => p :: sndsD ps
def rezipD : List (Nat × DV) → List DV → List (Nat × DV)
  | (i, _) :: ps, q :: qs => (i, q) :: rezipD ps qs
  | _, _ => []
/-- data of a type of the program -/
def tyOfs (f : TypeId → Option DT) : List (Nat × Nat × Nat) → Option DT
  | [] => some .unit
  | (_, ty, _) :: fs => match f ty, tyOfs f fs with
    | some a, some b => some (.pair a b)
    | _, _ => none
def repT (a : DT) : Nat → DT
  | 0 => .unit
  | n + 1 => .pair a (repT a n)
def tyOf (T : List TI) : Nat → TypeId → Option DT
  | 0, _ => none
  | n + 1, t => match tdV T t with
    | some (.int k) => some (.int k)
    | some .bool => some .bool
    | some .string => some .str
    | some (.slice e) => match tyOf T n e with | some a => some (.slc a) | none => none
    | some (.struct fs) => tyOfs (tyOf T n) fs
    | some (.array m e) => match tyOf T n e with | some a => some (repT a m) | none => none
    | _ => none
/-- bytes as a string -/
def bytesQ (T : List TI) (o : Oper) (ts : List DV) : Option ByteArray :=
  match o.op with
  | .convert src dst x => match opV ts x with
    | some (.sl (.int .u8) l) => match tdV T src, tdV T dst with
      | some (.slice e), some .string => match tdV T e with | some (.int .u8) => some (strOf l) | _ => none
      | _, _ => none
    | _ => none
  | _ => none
def bytesI (s : ByteArray) : List Int := s.data.toList.map fun b => (b.toNat : Int)
/-- a string as bytes -/
def strQ (T : List TI) (src dst : TypeId) (x : Option DV) : Option ByteArray :=
  match x, tdV T src, tdV T dst with
  | some (.str s), some .string, some (.slice e) => match tdV T e with | some (.int .u8) => some s | _ => none
  | _, _, _ => none
def zeroO : Operand → Bool
  | .const (.int _ (.ofNat 0)) => true
  | _ => false
/-- a big array of integers -/
def intsV (k : IntKind) : List Value → Option (List Int)
  | [] => some []
  | v :: vs => match v with
    | .int k' n => match eqk k' k, intsV k vs with
      | true, some l => some (n :: l)
      | _, _ => none
    | _ => none
def arrQ (T : List TI) (ti : TI) : Option (IntKind × List Int) :=
  match ti.td with
  | .array n e => match Nat.blt 64 n, tdV T e with
    | true, some (.int k) => match intsV k ti.zero with
      | some l => match Nat.beq l.length n && Nat.beq ti.size n && Nat.ble n 1000000 with | true => some (k, l) | false => none
      | none => none
    | _, _ => none
  | _ => none
def intsD (k : IntKind) : List DV → Option (List Int)
  | [] => some []
  | v :: vs => match v with
    | .int k' n => match eqk k' k, intsD k vs with
      | true, some l => some (n :: l)
      | _, _ => none
    | _ => none
/-- an array that is a row, or a row's element, as a slice -/
def sliceQ (T : List TI) (t : TypeId) (x : Option DV) (lo hi mx : Option Operand) (rw : List DR) : Option DV :=
  match lo, hi, mx, tdV T t with
  | none, none, none, some (.array n e) => match tdV T e, x with
    | some (.int _), some (.ra j) => match drV rw j with
      | some (.own _ _ l) => match Nat.beq l.length n && Nat.blt 0 n with | true => some (.row j) | false => none
      | _ => none
    | some (.int _), some (.re j i o) => match drV rw j with
      | some (.own _ t' _) => match Nat.beq t'.size n && (Nat.beq o 0 && Nat.blt 0 n) with | true => some (.rs j i) | false => none
      | _ => none
    | _, _ => none
  | _, _, _, _ => none
def arrOk (k : IntKind) : DT → Bool
  | .unit => true
  | .pair a b => match a with | .int k' => eqk k' k && arrOk k b | _ => false
  | _ => false
def putA : (t : DT) → t.den → List Int → t.den
  | .pair a b, x, s => match a, x, s with
    | .int _, x, n :: s => (n, putA b x.2 s)
    | _, x, _ => x
  | _, x, _ => x
/-- closures in a row -/
def fnsO : List (Nat × DV) → Nat → Bool
  | [], _ => true
  | (i, p) :: ps, n => Nat.beq i n && (match p with | .fn _ _ => fnsO ps (n + 1) | _ => false)
def fnsQ (T : List TI) (t : TypeId) (len : Nat) (ps : List (Nat × DV)) : Option (List DV) :=
  match tdV T t with
  | some (.slice e) => match tiV T e with
    | some te => match Nat.beq te.size 1 && (Nat.beq te.zero.length 1 && !te.agg), Nat.beq len ps.length && (Nat.blt 0 len && (Nat.ble len 16777216 && fnsO ps 0)) with
      | true, true => some (sndsD ps)
      | _, _ => none
    | none => none
  | _ => none
/-- a string behind a row of bytes -/
def appS (T : List TI) (xs : List DV) (tys : List TypeId) (rw : List DR) : Option (Nat × TypeId × List Int × ByteArray × Nat) :=
  match xs, tys with
  | [.row j, .str s], [t, t'] => match tdV T t, tdV T t', drV rw j with
    | some (.slice e), some .string, some (.own e2 (.int .u8) l) => match tdV T e, tiV T e with
      | some (.int .u8), some te => match Nat.beq e e2 && (Nat.beq te.zero.length te.size && Nat.beq te.size 1) with
        | true => some (j, e, l, s, te.bytes)
        | false => none
      | _, _ => none
    | _, _, _ => none
  | _, _ => none
def appN (T : List TI) (xs : List DV) (tys : List TypeId) : Option (TypeId × ByteArray × Nat) :=
  match xs, tys with
  | [.v (.slice none 0 0), .str s], [t, t'] => match tdV T t, tdV T t' with
    | some (.slice e), some .string => match tdV T e, tiV T e with
      | some (.int .u8), some te => match Nat.beq te.zero.length te.size && Nat.beq te.size 1 with
        | true => some (e, s, te.bytes)
        | false => none
      | _, _ => none
    | _, _ => none
  | _, _ => none
/-- noughts behind a row of bytes -/
def appZ (T : List TI) (xs : List DV) (tys : List TypeId) (rw : List DR) : Option (Nat × TypeId × List Int × Int × Nat) :=
  match xs, tys with
  | [.row j, .int _ n], [t, t'] => match tdV T t, tdV T t', drV rw j with
    | some (.slice e), some (.int _), some (.own e2 (.int .u8) l) => match tdV T e, tiV T e with
      | some (.int .u8), some te => match Nat.beq e e2 && (Nat.beq te.zero.length te.size && Nat.beq te.size 1), te.zero with
        | true, [.int .u8 (.ofNat 0)] => some (j, e, l, n, te.bytes)
        | _, _ => none
      | _, _ => none
    | _, _, _ => none
  | _, _ => none
/-- a mark among the contracts: what stands ahead of a place in a row of one's own stays one's own -/
def hasCut : ESs → Bool
  | [] => false
  | (g, _) :: C => match Nat.beq g 2000000 with | true => true | false => hasCut C
def cutQ (C : ESs) (x : Option DV) (lo hi mx : Option Operand) (ts : List DV) : Option (Nat × Int) :=
  match hasCut C with
  | true => match x, lo, hi, mx with
    | some (.row j), none, some h, none => match opV ts h with | some (.int _ n) => some (j, n) | _ => none
    | _, _, _, _ => none
  | false => none
def evOp (W : Wd) (T : List TI) (C : ESs) (al : Nat → Bool) (av : List (Nat × Nat)) (o : Oper) (ts : List DV) (pb : DBs) (rw : List DR) (K : DK β) : Option β :=
  match o.op with
  | .alloc t => match tiV T t with
    | some ti => match arrQ T ti with
      | some (k, l) => pushE rw (.own t (.int k) l) fun rw' => litE rw.length fun n => retE o.dst (.ra n) ts pb rw' K
      | none => match ti.zero with
        | z :: zs => newDB av o.dst t (constV (z :: zs)) ts pb rw K
        | [] => none
    | none => none
  | .box t x => match opV ts x with
    | some a => match cellsV a with | some cs => newDB av o.dst t cs ts pb rw K | none => none
    | none => none
  | .load t a => match opV ts a with
    | some A => loadE W T t A pb rw fun x => retE o.dst x ts pb rw K
    | none => none
  | .store t a x => match opV ts a, opV ts x, tiV T t with
    | some a, some x, some ti => match cellsV x with
      | some cs => match Nat.beq cs.length ti.size, oneDL cs, a with
        | true, true, .own i off => match al i, dbV pb i with
          | true, some y => match subV y.cells off ti.size with
            | some _ => wrE y.cells off cs fun cells => setE pb i (some ⟨y.ty, cells, true⟩) fun pb' => retE o.dst .und ts pb' rw K
            | none => none
          | _, _ => none
        | true, true, .re j i off => frzE (rowsDL cs []) ts pb rw (.re j i off :: cs) fun ts pb rw ps => match ps with
          | .re j i off :: cs => match drV rw j with
            | some (.own e t' l) => match Nat.ble (off + cs.length) t'.size with
              | true => W.nth l i fun y => wrE (t'.cells y []) off cs fun cells => match t'.of cells with
                | some (y', []) => setE rw j (.own e t' (l.set i y')) fun rw => retE o.dst .und ts pb rw K
                | _ => none
              | false => none
            | _ => none
          | _ => none
        | true, true, .ra j => match drV rw j with
          | some (.own e t' l) => match t', ti.td with
            | .int k, .array n _ => match intsD k cs with
              | some l' => match Nat.beq l.length n && Nat.beq cs.length n with
                | true => setE rw j (.own e (.int k) l') fun rw => retE o.dst .und ts pb rw K
                | false => none
              | none => none
            | _, _ => none
          | _ => none
        | _, _, _ => none
      | none => none
    | _, _, _ => none
  | .call c => match c.callee with
    | .value f => match opV ts f, opsV ts c.args.toList with
      | some (.fn g caps), some xs => match Nat.ble 1000000 g with
        | true => callV W C al (g - 1000000) (caps ++ xs) ts pb rw fun r ts pb rw => retE o.dst r ts pb rw K
        | false => callV W C al g (xs ++ caps) ts pb rw fun r ts pb rw => retE o.dst r ts pb rw K
      | _, _ => none
    | .builtin b => match opsV ts c.args.toList with
      | some xs => match b with
        | .append => match appS T xs c.argTypes.toList rw with
         | some (j, e, l, s, n) => W.room (l.length + s.size) n (subLE (oneD j .junk) ts fun ts => subBE (oneD j .junk) pb fun pb => setE rw j (.own e (.int .u8) (l ++ bytesI s)) fun rw => retE o.dst (.row j) ts pb rw K)
         | none => match appN T xs c.argTypes.toList with
         | some (e, s, n) => W.room s.size n (pushE rw (.own e (.int .u8) (bytesI s)) fun rw' => litE rw.length fun n => retE o.dst (.row n) ts pb rw' K)
         | none => match appZ T xs c.argTypes.toList rw with
         | some (j, e, l, k, n) => W.nn k (W.room (l.length + k.toNat) n (subLE (oneD j .junk) ts fun ts => subBE (oneD j .junk) pb fun pb => setE rw j (.own e (.int .u8) (l ++ List.replicate k.toNat 0)) fun rw => retE o.dst (.row j) ts pb rw K))
         | none => match xs with
          | [a, b] => frzE (b.rows []) ts pb rw [a, b] fun ts pb rw xs => match xs, c.argTypes.toList with
            | [a, b], [t, t'] => match tdV T t with
              | some (.slice e) => match tiV T e with
                | some te => match Nat.beq t t', Nat.beq te.zero.length te.size, b with
                  | true, true, .sl t2 news => match Nat.blt 0 t2.size, a with
                    | true, .row j => match drV rw j with
                      | some (.own e2 t1 l) => match Nat.beq e e2, Nat.beq t1.size te.size, t2.same t1 with
                        | true, true, some ⟨h⟩ => W.room (l.length + news.length) te.bytes (subLE (oneD j .junk) ts fun ts => subBE (oneD j .junk) pb fun pb => setE rw j (.own e t1 (l ++ DT.castL h news)) fun rw => retE o.dst (.row j) ts pb rw K)
                        | _, _, _ => none
                      | _ => none
                    | true, .v (.slice none 0 0) => match Nat.beq t2.size te.size with
                      | true => W.room news.length te.bytes (pushE rw (.own e t2 news) fun rw' => litE rw.length fun n => retE o.dst (.row n) ts pb rw' K)
                      | false => none
                    | true, .cs t1 l => match Nat.beq t1.size te.size, t2.same t1, news with
                      | true, some ⟨h⟩, y :: ys => W.room (l.length + (y :: ys).length) te.bytes (pushE rw (.own e t1 (l ++ DT.castL h (y :: ys))) fun rw' => litE rw.length fun n => retE o.dst (.row n) ts pb rw' K)
                      | _, _, _ => none
                    | _, _ => none
                  | _, _, _ => none
                | none => none
              | _ => none
            | _, _ => none
          | _ => none
        | .clear => match xs, c.argTypes.toList with
          | [.rt j i], [t] => match tdV T t with
            | some (.slice e) => match tiV T e, drV rw j with
              | some te, some (.own e2 t' l) => match Nat.beq e e2, Nat.beq t'.size te.size, Nat.beq te.zero.length te.size, Nat.ble 1 te.size, t'.of (constV te.zero) with
                | true, true, true, true, some (z, []) => W.bnd (.ofNat i) l.length fun n => setE rw j (.own e2 t' (l.take n ++ List.replicate (l.length - n) z)) fun rw => retE o.dst .junk ts pb rw K
                | _, _, _, _, _ => none
              | _, _ => none
            | _ => none
          | _, _ => none
        | .copy => match xs, c.argTypes.toList with
          | [.rs j i, .sl (.int k) src], [t, _] => match tdV T t with
            | some (.slice te) => match tiV T te, drV rw j with
              | some tei, some (.own e t' l) => match Nat.beq tei.size 1 && arrOk k t' with
                | true => W.nth l i fun y => setE rw j (.own e t' (l.set i (putA t' y src))) fun rw => retE o.dst (.int .i64 (min t'.size src.length : Nat)) ts pb rw K
                | false => none
              | _, _ => none
            | _ => none
          | _, _ => none
        | b => builtinE T b c.argTypes xs rw fun x => retE o.dst x ts pb rw K
      | none => none
    | _ => none
  | .buildSlice t len parts => match partsV ts parts.toList with
    | some ps => match fnsQ T t len ps with
     | some l => retE o.dst (.fns l) ts pb rw K
     | none => frzE (rowsDL (sndsD ps) []) ts pb rw (sndsD ps) fun ts pb rw qs => match tdV T t with
      | some (.slice e) => match tiV T e, tyOf T 9 e with
        | some te, some te' => match ofVs te' (rezipD ps qs) 0 with
          | some l => match Nat.beq te'.size te.size, Nat.beq len l.length, Nat.ble 1 te.size, Nat.ble (len * te.size) 16777216, Nat.beq te.zero.length te.size with
            | true, true, true, true, true => pushE rw (.own e te' l) fun rw' => litE rw.length fun n => retE o.dst (.row n) ts pb rw' K
            | _, _, _, _, _ => none
          | none => none
        | _, _ => none
      | _ => none
    | none => none
  | .slice t x lo hi mx => match sliceQ T t (opV ts x) lo hi mx rw with
   | some y => retE o.dst y ts pb rw K
   | none => match cutQ C (opV ts x) lo hi mx ts with
   | some (j, n) => match tdV T t, drV rw j with
    | some (.slice e), some (.own e2 t' l) => match tiV T e with
      | some te => match Nat.beq e e2, Nat.beq te.size t'.size with
        | true, true => W.bnd n l.length fun h => subLE (oneD j .junk) ts fun ts => subBE (oneD j .junk) pb fun pb => setE rw j (.own e2 t' (l.take h)) fun rw => retE o.dst (.row j) ts pb rw K
        | _, _ => none
      | none => none
    | _, _ => none
   | none => match opV ts x with
    | some a => frzE (a.rows []) ts pb rw [] fun ts pb rw _ => purE W T (.slice t x lo hi mx) ts rw fun y => retE o.dst y ts pb rw K
    | none => none
  | .makeSlice t l c => match opV ts l, opV ts c, tdV T t with
    | some (.int _ n), some (.int _ c), some (.slice e) => match tiV T e, tyOf T 9 e with
      | some te, some te' => match Nat.beq te'.size te.size, Nat.ble 1 te.size, Nat.beq te.zero.length te.size, te'.of (constV te.zero) with
        | true, true, true, some (z, []) => match zeroO l with
          | true => match n with
            | .ofNat 0 => W.nn c (W.room c.toNat te.bytes (pushE rw (.own e te' []) fun rw' => litE rw.length fun n => retE o.dst (.row n) ts pb rw' K))
            | _ => none
          | false => W.nn c (W.room c.toNat te.bytes (W.bnd n c.toNat fun n => pushE rw (.own e te' (List.replicate n z)) fun rw' => litE rw.length fun n => retE o.dst (.row n) ts pb rw' K))
        | _, _, _, _ => none
      | _, _ => none
    | _, _, _ => none
  | .index t x ix => match opV ts x, opV ts ix, tdV T t with
    | some (.str s), some (.int _ i), some .string => W.sidx s i fun b => retE o.dst (.int .u8 b) ts pb rw K
    | _, _, _ => none
  | .range t x => match opV ts x, tdV T t with
    | some (.str s), some .string => pushE rw (.obj (.itr s 0)) fun rw' => litE rw.length fun n => retE o.dst (.ob n) ts pb rw' K
    | some (.ob j), some (.map _ _) => match drV rw j with
      | some (.obj (.set ks)) => subLE (oneD j .junk) ts fun ts => subBE (oneD j .junk) pb fun pb => setE rw j .dead fun rw => pushE rw (.obj (.walk ks [])) fun rw' => litE rw.length fun n => retE o.dst (.ob n) ts pb rw' K
      | _ => none
    | _, _ => none
  | .next it b => match opV ts it, b with
    | some (.ob j), true => match drV rw j with
      | some (.obj (.itr s p)) => W.next s p (fun c q => setE rw j (.obj (.itr s q)) fun rw' => retE o.dst (.tup [.lit true, .int .i64 (p.toNat : Int), .int .i32 c]) ts pb rw' K) (retE o.dst (.tup [.lit false]) ts pb rw K)
      | _ => none
    | _, _ => none
  | .makeMap t r => match r, tdV T t with
    | none, some (.map _ _) => pushE rw (.obj (.set [])) fun rw' => litE rw.length fun n => retE o.dst (.ob n) ts pb rw' K
    | _, _ => none
  | .mapUpdate t m k x => match tdV T t, opV ts m, opV ts k, opV ts x with
    | some (.map _ _), some (.ob j), some k, some (.lit true) => match drV rw j, tKU.ofV k with
      | some (.obj (.set ks)), some k => setE rw j (.obj (.set (addU ks k))) fun rw => retE o.dst .und ts pb rw K
      | _, _ => none
    | _, _, _, _ => none
  | .lookup t m k c => match c, tdV T t, opV ts m, opV ts k with
    | false, some (.map _ _), some a, some k => match tKU.ofV k with
      | some x => match a with
        | .set ks => retE o.dst (.bool (memU x ks)) ts pb rw K
        | .ob j => match drV rw j with
          | some (.obj (.set ks)) => retE o.dst (.bool (memU x ks)) ts pb rw K
          | _ => none
        | _ => none
      | none => none
    | _, _, _, _ => none
  | .entry it => match opV ts it with
    | some (.ob j) => match drV rw j with
      | some (.obj (.walk _ dn)) => W.idx dn ((dn.length : Int) - 1) fun k => retE o.dst (.tup [tKU.val k, .lit true]) ts pb rw K
      | _ => none
    | _ => none
  | .convert src dst x => match bytesQ T o ts with
    | some s => retE o.dst (.str s) ts pb rw K
    | none => match strQ T src dst (opV ts x) with
     | some s => W.str (s.size : Int) (retE o.dst (.sl (.int .u8) (bytesI s)) ts pb rw K)
     | none => purE W T (.convert src dst x) ts rw fun x => retE o.dst x ts pb rw K
  | op => purE W T op ts rw fun x => retE o.dst x ts pb rw K
def nilQ (T : List TI) (o : Oper) (ts : List DV) (rw : List DR) : Option (Bool × Bool) :=
  match o.op with
  | .binOp op t x y _ => match tdV T t, opV ts x, opV ts y with
    | some (.slice _), some (.sl d l), some (.v (.slice none 0 0)) => match Nat.blt 0 d.size with
      | true => match op with
        | .eql => some (List.isEmpty l, false)
        | .neq => some (List.isEmpty l, true)
        | _ => none
      | false => none
    | some (.slice _), some (.row j), some (.v (.slice none 0 0)) => match drV rw j with
      | some (.own _ _ l) => match op with
        | .eql => some (List.isEmpty l, false)
        | .neq => some (List.isEmpty l, true)
        | _ => none
      | _ => none
    | _, _, _ => none
  | _ => none
/-- the next one of a set -/
def pickQ (o : Oper) (ts : List DV) (rw : List DR) : Option (Nat × List KU × List KU) :=
  match o.op with
  | .next it false => match opV ts it with
    | some (.ob j) => match drV rw j with
      | some (.obj (.walk ks dn)) => some (j, ks, dn)
      | _ => none
    | _ => none
  | _ => none
def evOpN [EqB β] (W : Wd) (T : List TI) (C : ESs) (al : Nat → Bool) (av : List (Nat × Nat)) (o : Oper) (ts : List DV) (pb : DBs) (rw : List DR) (K : DK β) : Option β :=
  match nilQ T o ts rw with
  | some (e, neg) => W.nilq e fun g => retE o.dst (.bool (notIf neg g)) ts pb rw K
  | none => match pickQ o ts rw with
    | some (j, ks, dn) => W.pick (restU ks dn) (fun k => setE rw j (.obj (.walk ks (dn ++ [k]))) fun rw' => retE o.dst (.tup [.lit true, tKU.val k, .lit true]) ts pb rw' K) (retE o.dst (.tup [.lit false]) ts pb rw K)
    | none => evOp W T C al av o ts pb rw K
def isClear : List Oper → Bool
  | o :: _ => match o.op with
    | .call c => match c.callee with | .builtin .clear => true | _ => false
    | _ => false
  | [] => false
/-- the end of a row of one's own is taken, to be cleared at once -/
def tailQ (T : List TI) (o : Oper) (rest : List Oper) (ts : List DV) (rw : List DR) : Option (Nat × Int × Nat) :=
  match isClear rest with
  | true => match o.op with
    | .slice t x (some lo) none none => match tdV T t, opV ts x, opV ts lo with
      | some (.slice e), some (.row j), some (.int _ i) => match tiV T e, drV rw j with
        | some te, some (.own _ t' l) => match Nat.beq t'.size te.size with | true => some (j, i, l.length) | false => none
        | _, _ => none
      | _, _, _ => none
    | _ => none
  | false => none
def evOpT [EqB β] (W : Wd) (T : List TI) (C : ESs) (al : Nat → Bool) (av : List (Nat × Nat)) (o : Oper) (rest : List Oper) (ts : List DV) (pb : DBs) (rw : List DR) (K : DK β) : Option β :=
  match tailQ T o rest ts rw with
  | some (j, i, n) => W.bnd i n fun m => retE o.dst (.rt j m) ts pb rw K
  | none => evOpN W T C al av o ts pb rw K

/-! ### Orders -/
inductive OT where
  | nil
  | rd (i : Nat) (t : OT)
  | er (i : Nat) (D : List Nat) (t : OT)
  | op (i : Nat) (t : OT)
  | two (i j : Nat) (ti tj : OT)
  | three (i j k : Nat) (ti tj tk : OT)
  | four (i j k l : Nat) (ti tj tk tl : OT)

/-! a load that all that writes waits for -/
def isLoad (o : Oper) : Bool := match o.op with | .load _ _ => true | _ => false
def depB (ops : Array Oper) (D : List Nat) (i d : Nat) : Bool := match Nat.beq d i with
  | true => true
  | false => match ops[d]? with
    | some o => o.after.any fun e => Region.binds .any e && memN e.on D
    | none => false
def unlB (L : Array Bool) : List Nat → Bool
  | [] => true
  | d :: D => !L.getD d true && unlB L D
/-- all that does not wait for 'i' are loads -/
def earlyT (ops : Array Oper) (L : Array Bool) (i : Nat) (D : List Nat) : Bool :=
  memN i D && unlB L D && D.all (depB ops D i) && (List.range ops.size).all fun j => memN j D || L.getD j true || (match ops[j]? with | some o => isLoad o | none => true)

def okT (ops : Array Oper) : Nat → OT → Array Bool → Bool
  | _, .nil, L => (Region.ready .any ops L).isEmpty
  | n + 1, .rd i t, L => Region.free .any ops L i && (Region.ready .any ops L).contains i && okT ops n t (L.setIfInBounds i true)
  | n + 1, .er i D t, L => Region.free .any ops L i && (Region.ready .any ops L).contains i && earlyT ops L i D && okT ops n t (L.setIfInBounds i true)
  | n + 1, .op i t, L => (Region.ready .any ops L == [i]) && okT ops n t (L.setIfInBounds i true)
  | n + 1, .two i j ti tj, L => (Region.ready .any ops L == [i, j]) && okT ops n ti (L.setIfInBounds i true) && okT ops n tj (L.setIfInBounds j true)
  | n + 1, .three i j k ti tj tk, L => (Region.ready .any ops L == [i, j, k]) && okT ops n ti (L.setIfInBounds i true) && okT ops n tj (L.setIfInBounds j true) && okT ops n tk (L.setIfInBounds k true)
  | n + 1, .four i j k l ti tj tk tl, L => (Region.ready .any ops L == [i, j, k, l]) && okT ops n ti (L.setIfInBounds i true) && okT ops n tj (L.setIfInBounds j true) && okT ops n tk (L.setIfInBounds k true) && okT ops n tl (L.setIfInBounds l true)
  | 0, _, _ => false

def setBE : List Bool → Nat → (List Bool → Bool) → Bool
  | [], _, K => K []
  | _ :: l, 0, K => K (true :: l)
  | b :: l, n + 1, K => setBE l n fun l => K (b :: l)
/-- the same, in a form that the kernel can run -/
def okQ (ops : Array Oper) : Nat → OT → List Bool → Bool
  | _, .nil, L => (Region.ready .any ops L.toArray).isEmpty
  | n + 1, .rd i t, L => Region.free .any ops L.toArray i && (Region.ready .any ops L.toArray).contains i && setBE L i fun L => okQ ops n t L
  | n + 1, .er i D t, L => Region.free .any ops L.toArray i && (Region.ready .any ops L.toArray).contains i && earlyT ops L.toArray i D && setBE L i fun L => okQ ops n t L
  | n + 1, .op i t, L => (Region.ready .any ops L.toArray == [i]) && setBE L i fun L => okQ ops n t L
  | n + 1, .two i j ti tj, L => (Region.ready .any ops L.toArray == [i, j]) && (setBE L i fun L => okQ ops n ti L) && (setBE L j fun L => okQ ops n tj L)
  | n + 1, .three i j k ti tj tk, L => (Region.ready .any ops L.toArray == [i, j, k]) && (setBE L i fun L => okQ ops n ti L) && (setBE L j fun L => okQ ops n tj L) && (setBE L k fun L => okQ ops n tk L)
  | n + 1, .four i j k l ti tj tk tl, L => (Region.ready .any ops L.toArray == [i, j, k, l]) && (setBE L i fun L => okQ ops n ti L) && (setBE L j fun L => okQ ops n tj L) && (setBE L k fun L => okQ ops n tk L) && (setBE L l fun L => okQ ops n tl L)
  | 0, _, _ => false

def nthDst : List Oper → Nat → Option Nat
  | [], _ => none
  | o :: _, 0 => o.dst
  | _ :: os, n + 1 => nthDst os n
def alOf (Ia : List Nat) (n : Nat) (i : Nat) : Bool := match memN i Ia with | true => true | false => Nat.ble n i
/-- the boxes that stay as they are -/
def snOf (Ia : List Nat) (has : Nat → Bool) (i : Nat) : Bool := match memN i Ia with | true => false | false => has i
def dstL (o : Oper) : List Nat := match o.dst with | some d => [d] | none => []
def dsts : List Oper → List Nat
  | [] => []
  | o :: os => dstL o ++ dsts os
def subB (xs ys : List Nat) : Bool := xs.all fun x => ys.contains x
def codeKey : Code → Nat
  | .region id _ _ => id
  | .seq a _ => codeKey a
  | .block _ b => codeKey b
  | .loop b => codeKey b
  | .scope b => codeKey b
  | .cond c _ _ => match c with
    | .tmp t => t + 500000
    | _ => 0
  | _ => 0
def writes : Code → List Nat
  | .region _ ops _ => dsts ops.toList
  | .seq a b => writes a ++ writes b
  | .cond _ a b => writes a ++ writes b
  | .block _ b => writes b
  | .loop b => writes b
  | .scope b => writes b
  | _ => []
/-! ### Regions -/
def guardD (W : Wd) (ops : List Oper) (ts : List DV) (j : Nat) (want : Bool) (yes no : List DV → Option β) : Option β :=
  match nthDst ops j with
  | none => none
  | some d => match gtV ts d with
    | some (.lit true) => match want with | true => yes ts | false => no ts
    | some (.lit false) => match want with | true => no ts | false => yes ts
    | some (.bool b) => W.cnd b
      (setE ts d (.lit true) fun ts => match want with | true => yes ts | false => no ts)
      (setE ts d (.lit false) fun ts => match want with | true => no ts | false => yes ts)
    | some (.und) => no ts
    | _ => none
def evList [EqB β] (W : Wd) (T : List TI) (C : ESs) (al : Nat → Bool) (av : List (Nat × Nat)) (ops : List Oper) : List Oper → List DV → DBs → List DR → DK β → Option β
  | [], ts, pb, rw, K => K ts pb rw
  | o :: rest, ts, pb, rw, K => match o.guard with
    | none => evOpT W T C al av o rest ts pb rw fun ts pb rw => evList W T C al av ops rest ts pb rw K
    | some (j, want) => guardD W ops ts j want
      (fun ts => evOpN W T C al av o ts pb rw fun ts pb rw => evList W T C al av ops rest ts pb rw K)
      (fun ts => retE o.dst (.und) ts pb rw fun ts pb rw => evList W T C al av ops rest ts pb rw K)
def stepD [EqB β] (W : Wd) (T : List TI) (C : ESs) (al : Nat → Bool) (av : List (Nat × Nat)) (ops : List Oper) (o : Oper) (ts : List DV) (pb : DBs) (rw : List DR) (K : DK β) : Option β :=
  match o.guard with
  | none => evOpN W T C al av o ts pb rw K
  | some (j, want) => guardD W ops ts j want (fun ts => evOpN W T C al av o ts pb rw K) (fun ts => retE o.dst (.und) ts pb rw K)
def awayV (Ia : List Nat) : DV → Bool
  | .own i _ => match memN i Ia with | false => true | true => false
  | .el _ _ _ => true
  | _ => false
def seenV (sn : Nat → Bool) : DV → Bool
  | .own i _ => sn i
  | _ => false
def rdE (W : Wd) (T : List TI) (Ia : List Nat) (sn : Nat → Bool) (ph : Bool) (o : Oper) (ts : List DV) (pb : DBs) (rw : List DR) (ret : DV → Option β) : Option β :=
  match o.op with
  | .load t a => match ph with
    | false => o1 (opV ts a) fun A => match awayV Ia A with | true => loadE W T t A pb rw ret | false => none
    | true => o1 (opV ts a) fun A => match seenV sn A with | true => loadE W T t A pb rw ret | false => none
  | op => purE W T op ts rw ret
def nthO : List Oper → Nat → Option Oper
  | [], _ => none
  | o :: _, 0 => some o
  | _ :: os, n + 1 => nthO os n
def evT [EqB β] (W : Wd) (T : List TI) (C : ESs) (al : Nat → Bool) (av : List (Nat × Nat)) (Ia : List Nat) (sn : Nat → Bool) (ops : List Oper) : Bool → OT → List DV → DBs → List DR → DK β → Option β
  | _, .nil, ts, pb, rw, K => K ts pb rw
  | ph, .rd i t, ts, pb, rw, K => match nthO ops i with
    | some o => match o.guard with
      | none => rdE W T Ia sn ph o ts pb rw fun x => retE o.dst x ts pb rw fun ts pb rw => evT W T C al av Ia sn ops ph t ts pb rw K
      | some (j, want) => guardD W ops ts j want
        (fun ts => rdE W T Ia sn ph o ts pb rw fun x => retE o.dst x ts pb rw fun ts pb rw => evT W T C al av Ia sn ops ph t ts pb rw K)
        (fun ts => retE o.dst (.und) ts pb rw fun ts pb rw => evT W T C al av Ia sn ops ph t ts pb rw K)
    | none => none
  | ph, .er i _ t, ts, pb, rw, K => match ph, nthO ops i with
    | false, some o => match o.guard, o.op with
      | none, .load ty a => o1 (opV ts a) fun A => loadE W T ty A pb rw fun x => retE o.dst x ts pb rw fun ts pb rw => evT W T C al av Ia sn ops false t ts pb rw K
      | _, _ => none
    | _, _ => none
  | _, .op i t, ts, pb, rw, K => match nthO ops i with
    | some o => stepD W T C al av ops o ts pb rw fun ts pb rw => evT W T C al av Ia sn ops true t ts pb rw K
    | none => none
  | _, .two i j ti tj, ts, pb, rw, K => match nthO ops i, nthO ops j with
    | some o, some o' => W.both (stepD W T C al av ops o ts pb rw fun ts pb rw => evT W T C al av Ia sn ops true ti ts pb rw K)
      (stepD W T C al av ops o' ts pb rw fun ts pb rw => evT W T C al av Ia sn ops true tj ts pb rw K)
    | _, _ => none
  | _, .three i j k ti tj tk, ts, pb, rw, K => match nthO ops i, nthO ops j, nthO ops k with
    | some o, some o', some o2 => W.both (stepD W T C al av ops o ts pb rw fun ts pb rw => evT W T C al av Ia sn ops true ti ts pb rw K)
      (W.both (stepD W T C al av ops o' ts pb rw fun ts pb rw => evT W T C al av Ia sn ops true tj ts pb rw K)
        (stepD W T C al av ops o2 ts pb rw fun ts pb rw => evT W T C al av Ia sn ops true tk ts pb rw K))
    | _, _, _ => none
  | _, .four i j k l ti tj tk tl, ts, pb, rw, K => match nthO ops i, nthO ops j, nthO ops k, nthO ops l with
    | some o, some o', some o2, some o3 => W.both (stepD W T C al av ops o ts pb rw fun ts pb rw => evT W T C al av Ia sn ops true ti ts pb rw K)
      (W.both (stepD W T C al av ops o' ts pb rw fun ts pb rw => evT W T C al av Ia sn ops true tj ts pb rw K)
        (W.both (stepD W T C al av ops o2 ts pb rw fun ts pb rw => evT W T C al av Ia sn ops true tk ts pb rw K)
          (stepD W T C al av ops o3 ts pb rw fun ts pb rw => evT W T C al av Ia sn ops true tl ts pb rw K)))
    | _, _, _, _ => none
def placesE : List Oper → DBs → Nat → (List (Nat × Nat) → DBs → Option β) → Option β
  | [], pb, _, K => K [] pb
  | o :: os, pb, n, K => match o.op, o.dst with
    | .alloc _, some d => pushE pb none fun pb => placesE os pb (n + 1) fun av pb => litE n fun m => K ((d, m) :: av) pb
    | .box _ _, some d => pushE pb none fun pb => placesE os pb (n + 1) fun av pb => litE n fun m => K ((d, m) :: av) pb
    | _, _ => placesE os pb n K
abbrev DTs := List (Nat × List Nat × OT)
def treeV : DTs → Nat → Option (List Nat × OT)
  | [], _ => none
  | (k, o) :: os, n => match Nat.beq k n with | true => some o | false => treeV os n
def hasE : DBs → Nat → Bool
  | [], _ => false
  | o :: _, 0 => match o with | some _ => true | none => false
  | _ :: pb, n + 1 => hasE pb n
def drawD [EqB β] (W : Wd) (T : List TI) (C : ESs) (O : DTs) (id : Nat) (ops : Array Oper) (ts : List DV) (pb : DBs) (rw : List DR) (K : DK β) : Option β :=
  match treeV O id with
  | some (Ia, t) => match Region.noSelect ops && okQ ops ops.size t (ops.toList.map fun _ => false) with
    | true => litE pb.length fun n => placesE ops.toList pb n fun av pb' => evT W T C (alOf Ia n) av Ia (snOf Ia (hasE pb)) ops.toList false t ts pb' rw K
    | false => none
  | none => none

/-! ### Joins and loops: what they carry -/
/-- what is carried of what is owned -/
inductive RKd where
  | dead
  | own (e : TypeId) (t : DT)
  | obj (k : OKd)
inductive DS where
  | t (t : DT)
  | row (j : Nat)
  | ob (j : Nat)
  | own (i off : Nat)
  | nil
  | fn (f : FuncId) (cs : List (Nat × Nat))
def ownL : List (Nat × Nat) → List DV
  | [] => []
  | (i, o) :: cs => .own i o :: ownL cs
structure DJ where
  sl : List (Nat × DS)
  bo : List (Nat × List DS)
  ro : List RKd
def dsS : List (Nat × DS) → List DS
  | [] => []
  | (_, d) :: l => d :: dsS l
def dsN : List (Nat × DS) → List Nat
  | [] => []
  | (n, _) :: l => n :: dsN l
def boN : List (Nat × List DS) → List Nat
  | [] => []
  | (n, _) :: l => n :: boN l
def vsT : List DS → DT → DT
  | [], r => r
  | d :: l, r => match d with
    | .t t => .pair t (vsT l r)
    | _ => vsT l r
def boT : List (Nat × List DS) → DT → DT
  | [], r => r
  | (_, cs) :: l, r => vsT cs (boT l r)
def roT : List RKd → DT
  | [] => .unit
  | .own _ t :: l => .pair (.slc t) (roT l)
  | .obj k :: l => .pair k.T (roT l)
  | .dead :: l => roT l
@[reducible] def DJ.T (j : DJ) : DT := vsT (dsS j.sl) (boT j.bo (roT j.ro))
def vsV : (l : List DS) → (r : DT) → (vsT l r).den → List DV × r.den
  | [], _, z => ([], z)
  | .t t :: l, r, z => match vsV l r z.2 with | (vs, y) => (t.val z.1 :: vs, y)
  | .row j :: l, r, z => match vsV l r z with | (vs, y) => (.row j :: vs, y)
  | .ob j :: l, r, z => match vsV l r z with | (vs, y) => (.ob j :: vs, y)
  | .own i o :: l, r, z => match vsV l r z with | (vs, y) => (.own i o :: vs, y)
  | .nil :: l, r, z => match vsV l r z with | (vs, y) => (.v (.slice none 0 0) :: vs, y)
  | .fn f cs :: l, r, z => match vsV l r z with | (vs, y) => (.fn f (ownL cs) :: vs, y)
def boV : (l : List (Nat × List DS)) → (r : DT) → (boT l r).den → List (List DV) × r.den
  | [], _, z => ([], z)
  | (_, cs) :: l, r, z => match vsV cs (boT l r) z with
    | (vs, y) => match boV l r y with | (vss, y) => (vs :: vss, y)
def roV : (l : List RKd) → (roT l).den → List DR
  | [], _ => []
  | .own e t :: l, z => .own e t z.1 :: roV l z.2
  | .obj k :: l, z => .obj (k.od z.1) :: roV l z.2
  | .dead :: l, z => .dead :: roV l z
def roN : List RKd → Nat → Bool
  | [], _ => false
  | o :: _, 0 => match o with | .own _ _ => true | _ => false
  | _ :: l, n + 1 => roN l n
def roI : List RKd → Nat → Bool
  | [], _ => false
  | o :: _, 0 => match o with | .obj _ => true | _ => false
  | _ :: l, n + 1 => roI l n
def okObV (ro : List RKd) (rw : List DR) (j : Nat) (v : DV) : Bool :=
  roI ro j && match v with
  | .ob j' => match Nat.beq j j', drV rw j with | true, some (.obj _) => true | _, _ => false
  | _ => false
def okRowV (ro : List RKd) (rw : List DR) (j : Nat) (v : DV) : Bool :=
  roN ro j && match v with
  | .row j' => match Nat.beq j j', drV rw j with | true, some (.own _ _ _) => true | _, _ => false
  | .v (.slice none 0 0) => match drV rw j with | some (.own _ _ _) => false | _ => true
  | _ => false
def okOwnV (i o : Nat) (v : DV) : Bool :=
  match v with
  | .own i' o' => Nat.beq i i' && Nat.beq o o'
  | _ => false
def okNilV (v : DV) : Bool :=
  match v with
  | .v (.slice none 0 0) => true
  | _ => false
def okCapsV : List (Nat × Nat) → List DV → Bool
  | [], [] => true
  | (i, o) :: cs, v :: vs => okOwnV i o v && okCapsV cs vs
  | _, _ => false
def okFnV (f : FuncId) (cs : List (Nat × Nat)) (v : DV) : Bool :=
  match v with
  | .fn f' caps => Nat.beq f f' && okCapsV cs caps
  | _ => false
def vsX (ro : List RKd) (rw : List DR) : (l : List DS) → (r : DT) → List DV → r.den → Option (vsT l r).den
  | [], _, vs, y => match vs with | [] => some y | _ => none
  | .t t :: l, r, vs, y => match vs with
    | v :: vs => match t.ofV v, vsX ro rw l r vs y with
      | some x, some z => some (x, z)
      | _, _ => none
    | _ => none
  | .row j :: l, r, vs, y => match vs with
    | v :: vs => match okRowV ro rw j v with
      | true => vsX ro rw l r vs y
      | false => none
    | _ => none
  | .ob j :: l, r, vs, y => match vs with
    | v :: vs => match okObV ro rw j v with
      | true => vsX ro rw l r vs y
      | false => none
    | _ => none
  | .own i o :: l, r, vs, y => match vs with
    | v :: vs => match okOwnV i o v with
      | true => vsX ro rw l r vs y
      | false => none
    | _ => none
  | .nil :: l, r, vs, y => match vs with
    | v :: vs => match okNilV v with
      | true => vsX ro rw l r vs y
      | false => none
    | _ => none
  | .fn f cs :: l, r, vs, y => match vs with
    | v :: vs => match okFnV f cs v with
      | true => vsX ro rw l r vs y
      | false => none
    | _ => none
def boX (ro : List RKd) (pb : DBs) (rw : List DR) : (l : List (Nat × List DS)) → (r : DT) → r.den → Option (boT l r).den
  | [], _, y => some y
  | (i, cs) :: l, r, y => match dbV pb i, boX ro pb rw l r y with
    | some b, some z => vsX ro rw cs (boT l r) b.cells z
    | _, _ => none
def roX : (l : List RKd) → List DR → Option (roT l).den
  | [], _ => some ()
  | .own e t :: l, rw => match rw with
    | .own e' t' xs :: rw => match Nat.beq e e', t'.same t, roX l rw with
      | true, some ⟨h⟩, some y => some (DT.castL h xs, y)
      | _, _, _ => none
    | .obj _ :: _ => none
    | .dead :: rw => match roX l rw with | some y => some ([], y) | none => none
    | [] => match roX l [] with | some y => some ([], y) | none => none
  | .obj k :: l, rw => match rw with
    | .obj d :: rw => match k.of d, roX l rw with
      | some x, some y => some (x, y)
      | _, _ => none
    | _ => none
  | .dead :: l, rw => roX l rw.tail
/-- rows that are one's own no longer there -/
def deadL : List RKd → List DR → Nat → List Nat
  | ro, rw, n => match rw with
    | [] => []
    | .own _ _ _ :: rw => match ro with
      | .own _ _ :: ro => deadL ro rw (n + 1)
      | _ :: ro => n :: deadL ro rw (n + 1)
      | [] => n :: deadL [] rw (n + 1)
    | .obj _ :: rw => deadL ro.tail rw (n + 1)
    | .dead :: rw => deadL ro.tail rw (n + 1)
def gtVs (ts : List DV) : List Nat → Option (List DV)
  | [] => some []
  | n :: ns => match gtV ts n, gtVs ts ns with
    | some v, some vs => some (v :: vs)
    | _, _ => none
def ownCs (pb : DBs) : List (Nat × Nat) → Bool
  | [] => true
  | (i, _) :: cs => (dbV pb i).isSome && ownCs pb cs
def ownDS (pb : DBs) : List DS → Bool
  | [] => true
  | d :: l => (match d with | .own i _ => (dbV pb i).isSome | .fn _ cs => ownCs pb cs | _ => true) && ownDS pb l
def ownBo (pb : DBs) : List (Nat × List DS) → Bool
  | [] => true
  | (i, cs) :: l => (dbV pb i).isSome && ownDS pb cs && ownBo pb l
/-- slots that are written -/
def maskOf (ws : List Nat) : Nat → Nat → List Bool
  | 0, _ => []
  | n + 1, i => memN i ws :: maskOf ws n (i + 1)
def okJ (j : DJ) (x : Code) (ts : List DV) (pb : DBs) : Bool :=
  subB (writes x) (List.range ts.length) && ownDS pb (dsS j.sl) && ownBo pb j.bo && nodupN (dsN j.sl) && nodupN (boN j.bo)
/-- boxes that are not carried are as they were -/
def cleanB (l : List Nat) : Nat → DBs → DBs → Bool
  | _, [], _ => true
  | n, o :: pb, pb' => match o, pb' with
    | none, [] => false
    | none, _ :: pb' => cleanB l (n + 1) pb pb'
    | some b, some b' :: pb' => Nat.beq b.ty b'.ty && (memN n l || !b'.w) && cleanB l (n + 1) pb pb'
    | some _, _ => false
def outD (j : DJ) (pb0 : DBs) (ts : List DV) (pb : DBs) (rw : List DR) (k : j.T.den → Option β) : Option β :=
  match cleanB (boN j.bo) 0 pb0 pb with
  | true => frzE (deadL j.ro rw 0) ts pb rw [] fun ts pb rw _ => match gtVs ts (dsN j.sl), roX j.ro rw with
    | some vs, some y => match boX j.ro pb rw j.bo (roT j.ro) y with
      | some y => match vsX j.ro rw (dsS j.sl) (boT j.bo (roT j.ro)) vs y with
        | some z => k z
        | none => none
      | none => none
    | _, _ => none
  | false => none
def junkE : List DV → List Bool → (List DV → Option β) → Option β
  | [], [], K => K []
  | x :: xs, b :: bs, K => match b with
    | true => junkE xs bs fun l => K (.junk :: l)
    | false => junkE xs bs fun l => K (x :: l)
  | _, _, _ => none
def setsE : List DV → List Nat → List DV → (List DV → Option β) → Option β
  | ts, [], [], K => K ts
  | ts, s :: ss, v :: vs, K => setE ts s v fun ts => setsE ts ss vs K
  | _, _, _, _ => none
def setBs : DBs → List Nat → List (List DV) → (DBs → Option β) → Option β
  | pb, [], [], K => K pb
  | pb, i :: is, c :: cs, K => match dbV pb i with
    | some b => setE pb i (some ⟨b.ty, c, true⟩) fun pb => setBs pb is cs K
    | none => none
  | _, _, _, _ => none
def headD (j : DJ) (x : Code) (ts : List DV) (pb : DBs) (z : j.T.den) (K : DK β) : Option β :=
  match vsV (dsS j.sl) (boT j.bo (roT j.ro)) z with
  | (vs, y) => match boV j.bo (roT j.ro) y with
    | (vss, y) => subLE norowD ts fun ts' => junkE ts' (maskOf (writes x) ts.length 0) fun ts => setsE ts (dsN j.sl) vs fun ts => subBE norowD pb fun pb => setBs pb (boN j.bo) vss fun pb => K ts pb (roV j.ro y)
def clrB : DBs → DBs
  | [] => []
  | some b :: pb => some ⟨b.ty, b.cells, false⟩ :: clrB pb
  | none :: pb => none :: clrB pb
def orW : DBs → DBs → DBs
  | _, [] => []
  | ps, none :: pb => none :: orW ps.tail pb
  | ps, some b :: pb => some ⟨b.ty, b.cells, b.w || (match ps with | some a :: _ => a.w | _ => true)⟩ :: orW ps.tail pb
def djV : List (Nat × DJ) → Nat → Option DJ
  | [], _ => none
  | (k, j) :: l, n => match Nat.beq k n with | true => some j | false => djV l n
/-- which form of a join, of a loop is meant: that whose rows are where they are -/
def fitD (d : DS) (v : DV) : Bool :=
  match d, v with
  | .row k, .row k' => Nat.beq k k'
  | .ob k, .ob k' => Nat.beq k k'
  | _, _ => true
def fitS (ts : List DV) : List (Nat × DS) → Bool
  | [] => true
  | (n, d) :: l => (match gtV ts n with | some v => fitD d v | none => true) && fitS ts l
def fitC : List DS → List DV → Bool
  | d :: l, v :: vs => fitD d v && fitC l vs
  | _, _ => true
def fitB (pb : DBs) : List (Nat × List DS) → Bool
  | [] => true
  | (i, cs) :: l => (match dbV pb i with | some b => fitC cs b.cells | none => true) && fitB pb l
def djF : List (Nat × DJ) → Nat → List DV → DBs → Option DJ
  | [], _, _, _ => none
  | (k, j) :: l, n, ts, pb => match Nat.beq k n && (fitS ts j.sl && fitB pb j.bo) with | true => some j | false => djF l n ts pb
def djW (J : List (Nat × DJ)) (n : Nat) (ts : List DV) (pb : DBs) : Option DJ :=
  match djV J n with
  | none => none
  | some j => match djF J n ts pb with | some j => some j | none => some j
/-- rounds of a loop that are not alike: a first key from 2^50 on tells the round; joins have a key for each round, and a key from 2^51 on says which contract does not stand in a round -/
def hasK (J : List (Nat × DJ)) (k : Nat) : Bool := match J with
  | [] => false
  | (n, _) :: J => match Nat.beq n k with | true => true | false => hasK J k
def pickL (J : List (Nat × DJ)) (n : Nat) : Nat → ESs → ESs
  | _, [] => []
  | i, c :: C => match hasK J (2251799813685248 + n * 1024 + i) with | true => pickL J n (i + 1) C | false => c :: pickL J n (i + 1) C
def bigK (J : List (Nat × DJ)) : Bool := match J with
  | [] => false
  | (k, _) :: _ => Nat.ble 1125899906842624 k
def roundK (J : List (Nat × DJ)) : Nat := match J with
  | [] => 0
  | (k, _) :: _ => k - 1125899906842624
def markK (J : List (Nat × DJ)) (n : Nat) : List (Nat × DJ) := match bigK J with
  | true => (1125899906842624 + n, ⟨[], [], []⟩) :: J
  | false => J
def pickC (J : List (Nat × DJ)) (C : ESs) : ESs := match bigK J with
  | true => pickL J (roundK J) 0 C
  | false => C
def djX (J : List (Nat × DJ)) (n : Nat) (ts : List DV) (pb : DBs) : Option DJ := match bigK J with
  | true => djW J (n + 4294967296 * (roundK J + 1)) ts pb
  | false => djW J n ts pb
/-- a loop, round for round -/
def unr (f : Nat → DK β → DK β) : Nat → DK β
  | 0 => fun _ _ _ => none
  | n + 1 => f n (unr f n)
def ev [EqB β] (W : Wd) (T : List TI) (C : ESs) (O : DTs) (JC JL : List (Nat × DJ)) : Code → (Exit → DK β) → List DV → DBs → List DR → Option β
  | .skip, Q, ts, pb, rw => Q .normal ts pb rw
  | .label _, Q, ts, pb, rw => Q .normal ts pb rw
  | .exit id, Q, ts, pb, rw => Q (.exit id) ts pb rw
  | .ret, Q, ts, pb, rw => Q .ret ts pb rw
  | .seq x y, Q, ts, pb, rw => match djX JC (codeKey y) ts pb with
    | none => ev W T C O JC JL x (fun e ts pb rw => match e with
      | .normal => ev W T C O JC JL y Q ts pb rw
      | .exit i => Q (.exit i) ts pb rw
      | .ret => Q .ret ts pb rw
      | _ => none) ts pb rw
    | some j => match okJ j x ts pb with
      | true => W.join (X := j.T.den) (fun z => headD j x ts pb z fun ts1 pb1 rw1 => ev W T C O JC JL y Q ts1 pb1 rw1) fun k =>
        ev W T C O JC JL x (fun e ts' pb' rw' => match e with
          | .normal => outD j pb ts' pb' rw' k
          | .exit i => Q (.exit i) ts' (orW pb pb') rw'
          | .ret => Q .ret ts' (orW pb pb') rw'
          | _ => none) ts (clrB pb) rw
      | false => none
  | .cond c x y, Q, ts, pb, rw => match opV ts c with
    | some (.lit true) => ev W T C O JC JL x Q ts pb rw
    | some (.lit false) => ev W T C O JC JL y Q ts pb rw
    | some (.bool b) => W.cnd b (ev W T C O JC JL x Q ts pb rw) (ev W T C O JC JL y Q ts pb rw)
    | _ => none
  | .block id x, Q, ts, pb, rw => ev W T C O JC JL x (fun e ts pb rw => match e with
    | .normal => Q .normal ts pb rw
    | .exit i => match Nat.beq i id with | true => Q .normal ts pb rw | false => Q (.exit i) ts pb rw
    | .ret => Q .ret ts pb rw
    | _ => none) ts pb rw
  | .scope x, Q, ts, pb, rw => ev W T C O JC JL x Q ts pb rw
  | .region id ops draw, Q, ts, pb, rw => match draw with
    | false => evList W T (pickC JC C) (fun _ => true) [] ops.toList ops.toList ts pb rw (Q .normal)
    | true => drawD W T (pickC JC C) O id ops ts pb rw (Q .normal)
  | .loop x, Q, ts, pb, rw => match djW JL (codeKey x) ts pb with
    | none => unr (fun n again ts pb rw => ev W T C O (markK JC n) JL x (fun e ts pb rw => match e with
      | .normal => again ts pb rw
      | .exit i => Q (.exit i) ts pb rw
      | .ret => Q .ret ts pb rw
      | _ => none) ts pb rw) 5 ts pb rw
    | some j => match okJ j x ts pb with
      | true => outD j pb ts (clrB pb) rw fun z0 => W.loop (X := j.T.den) (fun z again => headD j x ts (clrB pb) z fun ts1 pb1 rw1 =>
        ev W T C O JC JL x (fun e ts' pb' rw' => match e with
          | .normal => outD j pb ts' pb' rw' again
          | .exit i => Q (.exit i) ts' (orW pb pb') rw'
          | .ret => Q .ret ts' (orW pb pb') rw'
          | _ => none) ts1 pb1 rw1) z0
      | false => none
  | _, _, _, _, _ => none

/-! ### Functions -/
def resE (W : Wd) (T : List TI) : List ResultVar → List DV → DBs → List DR → (List DV → Option β) → Option β
  | [], _, _, _, K => K []
  | .tmp t :: rs, ts, pb, rw, K => match gtV ts t with
    | some x => resE W T rs ts pb rw fun xs => K (x :: xs)
    | none => none
  | .cell c t :: rs, ts, pb, rw, K => match gtV ts c with
    | some A => loadE W T t A pb rw fun x => resE W T rs ts pb rw fun xs => K (x :: xs)
    | none => none
def oneV (xs : List DV) : DV := match xs with | [x] => x | xs => .tup xs
mutual
def QT.ids : QT → DV → List (Nat × Nat) → List (Nat × Nat)
  | .ptr k, .own i _, am => match lkA am k with | some _ => am | none => (k, i) :: am
  | .pair a b, .tup (p :: ps), am => b.idss ps (a.ids p am)
  | _, _, am => am
def QT.idss : QT → List DV → List (Nat × Nat) → List (Nat × Nat)
  | .pair a b, p :: ps, am => b.idss ps (a.ids p am)
  | _, _, am => am
end
mutual
def QT.frz : QT → DV → List Nat → List Nat
  | .v _, p, acc => p.rows acc
  | .pair a b, .tup (p :: ps), acc => a.frz p (b.frzs ps acc)
  | _, _, acc => acc
def QT.frzs : QT → List DV → List Nat → List Nat
  | .pair a b, p :: ps, acc => a.frz p (b.frzs ps acc)
  | _, _, acc => acc
end
mutual
/-- results out of what the function leaves -/
def QT.x (am : List (Nat × Nat)) : (Q : QT) → DV → MS → Option (Q.den × MS)
  | .v t, p, m => match t.ofV p with | some x => some (x, m) | none => none
  | .own e t, p, m => match p with
    | .row j => match drV m.rw j with
      | some (.own e' t' l) => match Nat.beq e' e, t'.same t with
        | true, some ⟨h⟩ => some (DT.castL h l, ⟨m.rs ++ [some j], m.rw.set j .dead⟩)
        | _, _ => none
      | _ => none
    | .v (.slice none 0 0) => some ([], ⟨m.rs ++ [none], m.rw⟩)
    | _ => none
  | .ptr n, p, m => match p with
    | .own i o => match o, lkA am n with
      | 0, some i' => match Nat.beq i i' with | true => some ((), m) | false => none
      | _, _ => none
    | _ => none
  | .nil n, p, m => match p with
    | .v y => match n.is y with | true => some ((), m) | false => none
    | _ => none
  | .unit, p, m => match p with | .tup [] => some ((), m) | _ => none
  | .pair a b, p, m => match p with
    | .tup (p :: ps) => match a.x am p m with
      | some (x, m) => match b.xs am ps m with
        | some (y, m) => some ((x, y), m)
        | none => none
      | none => none
    | _ => none
def QT.xs (am : List (Nat × Nat)) : (Q : QT) → List DV → MS → Option (Q.den × MS)
  | .unit, ps, m => match ps with | [] => some ((), m) | _ => none
  | .pair a b, ps, m => match ps with
    | p :: ps => match a.x am p m with
      | some (x, m) => match b.xs am ps m with
        | some (y, m) => some ((x, y), m)
        | none => none
      | none => none
    | _ => none
  | _, _, _ => none
end
def idA : Nat → List (Nat × Nat)
  | 0 => []
  | n + 1 => (n, n) :: idA n
/-- what was lent is where it was -/
def selfA (am : List (Nat × Nat)) : Nat → Bool
  | 0 => true
  | n + 1 => (match lkA am n with | some i => Nat.beq i n | none => false) && selfA am n
def finL (s : LS) (ts : List DV) (pb : DBs) (rw : List DR) (p : DV) : Option (s.Q.den × (bkT s.E .unit).den) :=
  match idsB s.E 0 pb (s.Q.ids p (idA s.B.length)) with
  | am => frzE (frzB am s.E 0 pb (s.Q.frz p [])) ts pb rw [p] fun _ pb rw ps => match ps with
    | [p] => match nodupN (sndN am) && keysLt am s.E.length && selfA am s.B.length, bkX am pb s.E 0 .unit ⟨[], rw⟩ (fun m => some ((), m)) with
      | true, some (e, m) => match s.Q.x am p m with | some (q, _) => some (q, e) | none => none
      | _, _ => none
    | _ => none
def retL (W : Wd) (T : List TI) (rs : List ResultVar) (s : LS) (e : Exit) (ts : List DV) (pb : DBs) (rw : List DR) : Option (s.Q.den × (bkT s.E .unit).den) :=
  match e with
  | .normal => resE W T rs ts pb rw fun xs => finL s ts pb rw (oneV xs)
  | .ret => resE W T rs ts pb rw fun xs => finL s ts pb rw (oneV xs)
  | _ => none
def finD (Q : QT) (ts : List DV) (pb : DBs) (rw : List DR) (p : DV) : Option Q.den :=
  frzE (Q.frz p []) ts pb rw [p] fun _ _ rw ps => match ps with
    | [p] => match Q.x [] p ⟨[], rw⟩ with | some (q, _) => some q | none => none
    | _ => none
def retD (W : Wd) (T : List TI) (rs : List ResultVar) (Q : QT) (e : Exit) (ts : List DV) (pb : DBs) (rw : List DR) : Option Q.den :=
  match e with
  | .normal => resE W T rs ts pb rw fun xs => finD Q ts pb rw (oneV xs)
  | .ret => resE W T rs ts pb rw fun xs => finD Q ts pb rw (oneV xs)
  | _ => none
def initE : List DV → Nat → (List DV → Option β) → Option β
  | [], n, K => K (List.replicate n .und)
  | x :: xs, n + 1, K => initE xs n fun l => K (x :: l)
  | _ :: _, 0, _ => none
@[reducible] def QT.eqb : (Q : QT) → EqB Q.den
  | .v t => t.eqb
  | .own _ t => have := t.eqb; inferInstanceAs (EqB (List t.den))
  | .ptr _ => inferInstanceAs (EqB Unit)
  | .nil _ => inferInstanceAs (EqB Unit)
  | .unit => inferInstanceAs (EqB Unit)
  | .pair a b => have := a.eqb; have := b.eqb; inferInstanceAs (EqB (a.den × b.den))
/-- WHAT A FUNCTION COMPUTES -/
def evF (W : Wd) (T : List TI) (C : ESs) (O : DTs) (JC JL : List (Nat × DJ)) (fn : Func) (P : DT) (Q : QT) (x : P.den) : Option Q.den :=
  match fn.body with
  | some c => have := Q.eqb; initE (argVs P x) fn.ntmps fun ts => ev W T C O JC JL c (retD W T fn.results.toList Q) ts [] []
  | none => none
/-- that is lent boxes -/
def evFL (W : Wd) (T : List TI) (C : ESs) (O : DTs) (JC JL : List (Nat × DJ)) (fn : Func) (s : LS) (z : (bkT s.B (pkT s.P .unit)).den) : Option (s.Q.den × (bkT s.E .unit).den) :=
  match fn.body with
  | some c => match bkM s.B (pkT s.P .unit) z [] with
    | (pb, y, rw) => match pkM s.P .unit y rw with
      | (vs, _, rw) => have := s.Q.eqb; have := (bkT s.E .unit).eqb; initE vs fn.ntmps fun ts => ev W T C O JC JL c (retL W T fn.results.toList s) ts pb rw
  | none => none
end Go.Vc

namespace Go.Vc
open Go Go.RowKit

/-! ### What is known, in a world -/
structure Env where
  U : Nat → Prop
  w : World
  B : Nat → Nat
  A : Nat → Option Addr × Nat
  pb : DBs
  rw : List DR
def live (pb : DBs) (i : Nat) : Prop := ∃ b, pb[i]? = some (some b)
def OD.at (d : OD) (ad : Addr) : Value := bif d.isM then .map (some ad.block) else .pointer (some ad)
/-- a function as a value: what it has caught, or (from a million on) what its first arguments are -/
def fnV (f : Nat) (vs : Array Value) : Value := bif Nat.ble 1000000 f then .func (.func (f - 1000000)) vs #[] else .func (.func f) #[] vs
mutual
def DV.h (E : Env) : DV → Value → Prop
  | .int k n, v => v = .int k n
  | .bool b, v => v = .bool b
  | .lit b, v => v = .bool b
  | .str s, v => v = .string s
  | .v y, v => v = y
  | .und, v => v = undef
  | .sl t l, v => (DT.slc t).h E.U E.w l [v]
  | .cs t l, v => (DT.slc t).h E.U E.w l [v] ∧ ∃ a, v = .slice a l.length l.length
  | .set ks, v => DT.set.h E.U E.w ks [v]
  | .row j, v => ∃ e t l, E.rw[j]? = some (.own e t l) ∧ v = .slice (E.A j).1 l.length (E.A j).2
  | .el t x off, v => ∃ ad us, v = .pointer (some (ad.add off)) ∧ t.h E.U E.w x us ∧ At E.U E.w (some ad) 0 us
  | .re j i off, v => ∃ e t l ad, E.rw[j]? = some (.own e t l) ∧ i < l.length ∧ (E.A j).1 = some ad ∧ v = .pointer (some (ad.add (i * t.size + off)))
  | .rt j i, v => ∃ e t l, E.rw[j]? = some (.own e t l) ∧ i ≤ l.length ∧ v = .slice (if (E.A j).2 = i then (E.A j).1 else (E.A j).1.map (·.add (i * t.size))) (l.length - i) ((E.A j).2 - i)
  | .ob j, v => ∃ d ad, E.rw[j]? = some (.obj d) ∧ (E.A j).1 = some ad ∧ v = d.at ad
  | .own i off, v => live E.pb i ∧ v = .pointer (some ⟨E.B i, off, none⟩)
  | .fn f caps, v => ∃ vs, v = fnV f vs ∧ hL E caps vs.toList
  | .agg xs, v => ∃ vs, v = .agg vs ∧ hL E xs vs.toList
  | .tup xs, v => ∃ vs, v = .tuple vs ∧ hL E xs vs.toList
  | .fns xs, v => ∃ ad vs c, v = .slice (some ad) xs.length c ∧ hL E xs vs ∧ At E.U E.w (some ad) 0 vs
  | .fp xs k, v => ∃ ad vs, v = .pointer (some (ad.add k)) ∧ hL E xs vs ∧ At E.U E.w (some ad) 0 vs
  | .ra j, v => ∃ e t l ad, E.rw[j]? = some (.own e t l) ∧ t.size = 1 ∧ E.A j = (some ad, l.length) ∧ v = .pointer (some ad)
  | .rs j i, v => ∃ e t l ad, E.rw[j]? = some (.own e t l) ∧ i < l.length ∧ (E.A j).1 = some ad ∧ v = .slice (some (ad.add (i * t.size))) t.size t.size
  | .junk, _ => True
def hL (E : Env) : List DV → List Value → Prop
  | [], vs => vs = []
  | p :: ps, vs => ∃ v vs', vs = v :: vs' ∧ DV.h E p v ∧ hL E ps vs'
end
section
variable {E E' : Env}
theorem hL_len : ∀ {ps : List DV} {vs : List Value}, hL E ps vs → vs.length = ps.length
  | [], _, h => by simp only [hL] at h; subst h; rfl
  | p :: ps, _, h => by simp only [hL] at h; obtain ⟨v, vs', rfl, _, h2⟩ := h; simp [hL_len h2]
theorem hL_get : ∀ {ps : List DV} {vs : List Value}, hL E ps vs → ∀ (i : Nat) (p : DV), ps[i]? = some p → ∃ v, vs[i]? = some v ∧ p.h E v
  | [], _, _, i, p, hp => by simp at hp
  | q :: ps, _, h, i, p, hp => by
    simp only [hL] at h
    obtain ⟨v, vs', rfl, h1, h2⟩ := h
    cases i with
    | zero => simp at hp; subst hp; exact ⟨v, rfl, h1⟩
    | succ i => simpa using hL_get h2 i p (by simpa using hp)
theorem hL_of : ∀ {ps : List DV} {vs : List Value}, vs.length = ps.length → (∀ (i : Nat) (p : DV) (v : Value), ps[i]? = some p → vs[i]? = some v → p.h E v) → hL E ps vs
  | [], vs, hl, _ => by simp only [hL]; exact List.length_eq_zero_iff.1 (by simpa using hl)
  | p :: ps, [], hl, _ => by simp at hl
  | p :: ps, v :: vs, hl, h => by
    simp only [hL]
    exact ⟨v, vs, rfl, h 0 p v rfl rfl, hL_of (by simpa using hl) fun i p v hp hv => h (i + 1) p v (by simpa using hp) (by simpa using hv)⟩
theorem hL_app {ps qs : List DV} {vs us : List Value} (h : hL E ps vs) (k : hL E qs us) : hL E (ps ++ qs) (vs ++ us) := by
  induction ps generalizing vs with
  | nil => simp only [hL] at h; subst h; simpa using k
  | cons p ps ih =>
    simp only [hL] at h
    obtain ⟨v, vs', rfl, h1, h2⟩ := h
    simp only [List.cons_append, hL]
    exact ⟨v, _, rfl, h1, ih h2⟩
theorem hL_set {ps : List DV} {vs : List Value} (h : hL E ps vs) (i : Nat) {p : DV} {v : Value} (hp : p.h E v) : hL E (ps.set i p) (vs.set i v) := by
  refine hL_of (by simp [hL_len h]) fun j q u hq hu => ?_
  rw [List.getElem?_set] at hq hu
  split at hq
  · rename_i hij; subst hij
    split at hq
    · rw [if_pos rfl, if_pos (by rw [hL_len h]; assumption)] at hu
      simp at hq hu; subst hq; subst hu; exact hp
    · cases hq
  · rename_i hij
    rw [if_neg hij] at hu
    obtain ⟨u', h1, h2⟩ := hL_get h j q hq
    rw [hu] at h1; simp at h1; subst h1; exact h2
theorem hL_wr {ps qs : List DV} {vs us : List Value} (off : Nat) (h : hL E ps vs) (k : hL E qs us) : hL E (wr ps off qs) (wr vs off us) := by
  induction qs generalizing ps vs us off with
  | nil => simp only [hL] at k; subst k; simpa [wr] using h
  | cons q qs ih =>
    simp only [hL] at k
    obtain ⟨u, us', rfl, h1, h2⟩ := k
    simp only [wr]
    exact ih _ (hL_set h off h1) h2
theorem hL_sub {ps : List DV} {vs : List Value} (h : hL E ps vs) (o n : Nat) : hL E ((ps.drop o).take n) ((vs.drop o).take n) := by
  refine hL_of (by simp [hL_len h]) fun j q u hq hu => ?_
  obtain ⟨h1, h2⟩ := drop_take_get.1 hq
  obtain ⟨_, h3⟩ := drop_take_get.1 hu
  obtain ⟨u', h4, h5⟩ := hL_get h _ q h2
  rw [h3] at h4; simp at h4; subst h4; exact h5
end

/-! ### Another world, other rows -/
mutual
def DV.sub (f : Nat → Option DV) : DV → DV
  | .row i => match f i with | some p => p | none => .row i
  | .re i a b => match f i with | some _ => .junk | none => .re i a b
  | .rt i a => match f i with | some _ => .junk | none => .rt i a
  | .ob i => match f i with | some q => q | none => .ob i
  | .fn g cs => .fn g (subL f cs)
  | .agg xs => .agg (subL f xs)
  | .tup xs => .tup (subL f xs)
  | .fns xs => .fns (subL f xs)
  | .fp xs k => .fp (subL f xs) k
  | .ra i => match f i with | some _ => .junk | none => .ra i
  | .rs i a => match f i with | some _ => .junk | none => .rs i a
  | p => p
def subL (f : Nat → Option DV) : List DV → List DV
  | [] => []
  | p :: ps => p.sub f :: subL f ps
end
theorem subL_map (f : Nat → Option DV) : ∀ ps, subL f ps = ps.map (·.sub f)
  | [] => rfl
  | p :: ps => by simp only [subL, subL_map f ps, List.map_cons]
theorem subL_len (f : Nat → Option DV) (ps : List DV) : (subL f ps).length = ps.length := by rw [subL_map]; simp
structure Sub (f : Nat → Option DV) (E E' : Env) : Prop where
  later : Later E.U E'.U E.w E'.w
  bx : ∀ i, live E.pb i → live E'.pb i ∧ E'.B i = E.B i
  keep : ∀ j e t l, f j = none → E.rw[j]? = some (.own e t l) → ∃ l', E'.rw[j]? = some (.own e t l') ∧ l'.length = l.length ∧ E'.A j = E.A j
  keepI : ∀ j d, f j = none → E.rw[j]? = some (.obj d) → (∃ d', E'.rw[j]? = some (.obj d') ∧ d'.isM = d.isM) ∧ E'.A j = E.A j
  to : ∀ j q e t l, f j = some q → E.rw[j]? = some (.own e t l) → q.h E' (.slice (E.A j).1 l.length (E.A j).2)
  toI : ∀ j q d ad, f j = some q → E.rw[j]? = some (.obj d) → (E.A j).1 = some ad → q.h E' (d.at ad)
mutual
theorem DV.h_sub {E E' : Env} {f : Nat → Option DV} (s : Sub f E E') : (p : DV) → {v : Value} → p.h E v → (p.sub f).h E' v
  | .int _ _, _, h => by simpa only [DV.sub, DV.h] using h
  | .bool _, _, h => by simpa only [DV.sub, DV.h] using h
  | .lit _, _, h => by simpa only [DV.sub, DV.h] using h
  | .str _, _, h => by simpa only [DV.sub, DV.h] using h
  | .v _, _, h => by simpa only [DV.sub, DV.h] using h
  | .und, _, h => by simpa only [DV.sub, DV.h] using h
  | .sl t l, _, h => by simp only [DV.sub, DV.h] at h ⊢; exact (DT.slc t).mono s.later h
  | .cs t l, _, h => by simp only [DV.sub, DV.h] at h ⊢; exact ⟨(DT.slc t).mono s.later h.1, h.2⟩
  | .set ks, _, h => by simp only [DV.sub, DV.h] at h ⊢; exact DT.set.mono s.later h
  | .row j, v, h => by
    simp only [DV.h] at h
    obtain ⟨e, t, l, hj, rfl⟩ := h
    unfold DV.sub
    cases hf : f j with
    | none => obtain ⟨l', h1, h2, h3⟩ := s.keep j e t l hf hj; simp only [DV.h]; exact ⟨e, t, l', h1, by rw [h2, h3]⟩
    | some q => exact s.to j q e t l hf hj
  | .el t x off, v, h => by
    simp only [DV.sub, DV.h] at h ⊢
    obtain ⟨ad, us, rfl, h1, h2⟩ := h
    exact ⟨ad, us, rfl, t.mono s.later h1, h2.mono s.later⟩
  | .re j i off, v, h => by
    simp only [DV.h] at h
    obtain ⟨e, t, l, ad, hj, hi, ha, rfl⟩ := h
    unfold DV.sub
    cases hf : f j with
    | none => obtain ⟨l', h1, h2, h3⟩ := s.keep j e t l hf hj; simp only [DV.h]; exact ⟨e, t, l', ad, h1, by rw [h2]; exact hi, by rw [h3]; exact ha, rfl⟩
    | some q => simp only [DV.h]
  | .rt j i, v, h => by
    simp only [DV.h] at h
    obtain ⟨e, t, l, hj, hi, rfl⟩ := h
    unfold DV.sub
    cases hf : f j with
    | none => obtain ⟨l', h1, h2, h3⟩ := s.keep j e t l hf hj; simp only [DV.h]; exact ⟨e, t, l', h1, by rw [h2]; exact hi, by rw [h2, h3]⟩
    | some q => simp only [DV.h]
  | .ob j, v, h => by
    simp only [DV.h] at h
    obtain ⟨d, ad, hj, ha, rfl⟩ := h
    unfold DV.sub
    cases hf : f j with
    | none => obtain ⟨⟨d', h1, h3⟩, h2⟩ := s.keepI j d hf hj; simp only [DV.h]; exact ⟨d', ad, h1, by rw [h2]; exact ha, by simp only [OD.at, h3]⟩
    | some q => exact s.toI j q d ad hf hj ha
  | .own i off, v, h => by
    simp only [DV.sub, DV.h] at h ⊢
    obtain ⟨h1, rfl⟩ := h
    obtain ⟨h2, h3⟩ := s.bx i h1
    exact ⟨h2, by rw [h3]⟩
  | .fn g caps, v, h => by
    simp only [DV.sub, DV.h] at h ⊢
    obtain ⟨vs, rfl, h⟩ := h
    exact ⟨vs, rfl, hL_subL s caps h⟩
  | .agg xs, v, h => by
    simp only [DV.sub, DV.h] at h ⊢
    obtain ⟨vs, rfl, h⟩ := h
    exact ⟨vs, rfl, hL_subL s xs h⟩
  | .tup xs, v, h => by
    simp only [DV.sub, DV.h] at h ⊢
    obtain ⟨vs, rfl, h⟩ := h
    exact ⟨vs, rfl, hL_subL s xs h⟩
  | .fns xs, v, h => by
    simp only [DV.sub, DV.h] at h ⊢
    obtain ⟨ad, vs, c, rfl, h, k⟩ := h
    exact ⟨ad, vs, c, by rw [subL_len], hL_subL s xs h, k.mono s.later⟩
  | .fp xs n, v, h => by
    simp only [DV.sub, DV.h] at h ⊢
    obtain ⟨ad, vs, rfl, h, k⟩ := h
    exact ⟨ad, vs, rfl, hL_subL s xs h, k.mono s.later⟩
  | .ra j, v, h => by
    simp only [DV.h] at h
    obtain ⟨e, t, l, ad, hj, hi, ha, rfl⟩ := h
    unfold DV.sub
    cases hf : f j with
    | none => obtain ⟨l', h1, h2, h3⟩ := s.keep j e t l hf hj; simp only [DV.h]; exact ⟨e, t, l', ad, h1, hi, by rw [h2, h3]; exact ha, rfl⟩
    | some q => simp only [DV.h]
  | .rs j i, v, h => by
    simp only [DV.h] at h
    obtain ⟨e, t, l, ad, hj, hi, ha, rfl⟩ := h
    unfold DV.sub
    cases hf : f j with
    | none => obtain ⟨l', h1, h2, h3⟩ := s.keep j e t l hf hj; simp only [DV.h]; exact ⟨e, t, l', ad, h1, by rw [h2]; exact hi, by rw [h3]; exact ha, rfl⟩
    | some q => simp only [DV.h]
  | .junk, _, _ => by simp only [DV.sub, DV.h]
theorem hL_subL {E E' : Env} {f : Nat → Option DV} (s : Sub f E E') : (ps : List DV) → {vs : List Value} → hL E ps vs → hL E' (subL f ps) vs
  | [], _, h => by simpa only [subL, hL] using h
  | p :: ps, _, h => by
    simp only [hL, subL] at h ⊢
    obtain ⟨v, vs', rfl, h1, h2⟩ := h
    exact ⟨v, vs', rfl, DV.h_sub s p h1, hL_subL s ps h2⟩
end
def noF : Nat → Option DV := fun _ => none
mutual
theorem DV.sub_no : (p : DV) → p.sub noF = p
  | .row _ | .re _ _ _ | .rt _ _ | .ob _ | .ra _ | .rs _ _ => rfl
  | .fns xs => by simp only [DV.sub, subL_no]
  | .fp xs _ => by simp only [DV.sub, subL_no]
  | .fn g cs => by simp only [DV.sub, subL_no]
  | .agg xs => by simp only [DV.sub, subL_no]
  | .tup xs => by simp only [DV.sub, subL_no]
  | .int _ _ | .bool _ | .lit _ | .str _ | .v _ | .und | .sl _ _ | .cs _ _ | .set _ | .el _ _ _ | .own _ _ | .junk => rfl
theorem subL_no : (ps : List DV) → subL noF ps = ps
  | [] => rfl
  | p :: ps => by simp only [subL, DV.sub_no p, subL_no ps]
end
mutual
theorem DV.subE_eq {β : Type} (f : Nat → Option DV) : (p : DV) → (K : DV → Option β) → p.subE f K = K (p.sub f)
  | .row i, K => by unfold DV.subE DV.sub; cases f i <;> rfl
  | .re i a b, K => by unfold DV.subE DV.sub; cases f i <;> rfl
  | .rt i a, K => by unfold DV.subE DV.sub; cases f i <;> rfl
  | .ob i, K => by unfold DV.subE DV.sub; cases f i <;> rfl
  | .ra i, K => by unfold DV.subE DV.sub; cases f i <;> rfl
  | .rs i a, K => by unfold DV.subE DV.sub; cases f i <;> rfl
  | .fns xs, K => by unfold DV.subE DV.sub; rw [subLE_eq f xs]
  | .fp xs k, K => by unfold DV.subE DV.sub; rw [subLE_eq f xs]
  | .fn g cs, K => by unfold DV.subE DV.sub; rw [subLE_eq f cs]
  | .agg xs, K => by unfold DV.subE DV.sub; rw [subLE_eq f xs]
  | .tup xs, K => by unfold DV.subE DV.sub; rw [subLE_eq f xs]
  | .int _ _, _ | .bool _, _ | .lit _, _ | .str _, _ | .v _, _ | .und, _ | .sl _ _, _ | .cs _ _, _ | .set _, _ | .el _ _ _, _ | .own _ _, _ | .junk, _ => rfl
theorem subLE_eq {β : Type} (f : Nat → Option DV) : (ps : List DV) → (K : List DV → Option β) → subLE f ps K = K (subL f ps)
  | [], K => rfl
  | p :: ps, K => by unfold subLE; rw [DV.subE_eq f p, subLE_eq f ps]; simp only [subL]
end
def subB' (f : Nat → Option DV) (pb : DBs) : DBs := pb.map fun o => o.map fun b => ⟨b.ty, subL f b.cells, b.w⟩
theorem subBE_eq {β : Type} (f : Nat → Option DV) : (pb : DBs) → (K : DBs → Option β) → subBE f pb K = K (subB' f pb)
  | [], K => rfl
  | some ⟨t, cs, w⟩ :: ps, K => by unfold subBE; rw [subLE_eq, subBE_eq f ps]; rfl
  | none :: ps, K => by unfold subBE; rw [subBE_eq f ps]; rfl
theorem subB'_get {f : Nat → Option DV} {pb : DBs} {i : Nat} {b : DB} : (subB' f pb)[i]? = some (some b) ↔ ∃ b0, pb[i]? = some (some b0) ∧ b = ⟨b0.ty, subL f b0.cells, b0.w⟩ := by
  unfold subB'
  rw [List.getElem?_map]
  constructor
  · intro h
    cases hp : pb[i]? with
    | none => simp [hp] at h
    | some o =>
      cases o with
      | none => simp [hp] at h
      | some b0 => simp [hp] at h; exact ⟨b0, rfl, h.symm⟩
  · rintro ⟨b0, h, rfl⟩; simp [h]
theorem subB'_live {f : Nat → Option DV} {pb : DBs} {i : Nat} : live (subB' f pb) i ↔ live pb i := by
  constructor
  · rintro ⟨b, h⟩; obtain ⟨b0, h0, _⟩ := subB'_get.1 h; exact ⟨b0, h0⟩
  · rintro ⟨b, h⟩; exact ⟨_, subB'_get.2 ⟨b, h, rfl⟩⟩
theorem subB'_no (pb : DBs) : subB' noF pb = pb := by
  unfold subB'
  conv => rhs; rw [← List.map_id pb]
  apply List.map_congr_left
  intro o _
  cases o with
  | none => rfl
  | some b => simp [subL_no]
theorem subB'_len {f : Nat → Option DV} {pb : DBs} : (subB' f pb).length = pb.length := by simp [subB']
theorem setE_eq {α β : Type} : ∀ (xs : List α) (n : Nat) (y : α) (K : List α → Option β), setE xs n y K = K (xs.set n y)
  | [], _, _, _ => rfl
  | _ :: _, 0, _, _ => rfl
  | x :: xs, n + 1, y, K => by simp only [setE, List.set_cons_succ]; exact setE_eq xs n y _
theorem pushE_eq {α β : Type} : ∀ (xs : List α) (y : α) (K : List α → Option β), pushE xs y K = K (xs ++ [y])
  | [], _, _ => rfl
  | x :: xs, y, K => by simp only [pushE, List.cons_append]; exact pushE_eq xs y _
theorem litE_eq {β : Type} (n : Nat) (K : Nat → Option β) : litE n K = K n := by
  unfold litE; split <;> rfl
theorem wrE_eq {β : Type} : ∀ (vs xs : List DV) (off : Nat) (K : List DV → Option β), wrE xs off vs K = K (wr xs off vs)
  | [], _, _, _ => rfl
  | v :: vs, xs, off, K => by simp only [wrE, setE_eq, wr]; exact wrE_eq vs _ _ _
theorem dbV_spec : ∀ {pb : DBs} {i : Nat} {b : DB}, dbV pb i = some b ↔ pb[i]? = some (some b)
  | [], i, b => by simp [dbV]
  | o :: pb, 0, b => by simp [dbV]
  | o :: pb, i + 1, b => by simp only [dbV, List.getElem?_cons_succ]; exact dbV_spec
theorem drV_spec : ∀ {rw : List DR} {j : Nat}, drV rw j = rw[j]?
  | [], j => by simp [drV]
  | r :: rw, 0 => rfl
  | r :: rw, j + 1 => by simp only [drV, List.getElem?_cons_succ]; exact drV_spec
theorem subV_spec : ∀ {xs : List DV} {o n : Nat} {l : List DV}, subV xs o n = some l → l = (xs.drop o).take n ∧ o + n ≤ xs.length
  | [], 0, 0, l, h => by simp [subV] at h; simp [h]
  | [], 0, n + 1, l, h => by simp [subV] at h
  | [], o + 1, n, l, h => by cases n <;> simp [subV] at h
  | x :: xs, 0, 0, l, h => by simp [subV] at h; simp [h]
  | x :: xs, 0, n + 1, l, h => by
    simp only [subV] at h
    split at h
    · rename_i l' h'
      obtain ⟨h1, h2⟩ := subV_spec h'
      simp only [Option.some.injEq] at h; subst h
      exact ⟨by simpa using h1, by simp; omega⟩
    · cases h
  | x :: xs, o + 1, n, l, h => by
    simp only [subV] at h
    obtain ⟨h1, h2⟩ := subV_spec h
    exact ⟨by simpa using h1, by simp; omega⟩
theorem sub1_spec {xs : List DV} {o : Nat} {x : DV} (h : subV xs o 1 = some [x]) : xs[o]? = some x := by
  have := congrArg (fun l : List DV => l[0]?) (subV_spec h).1
  simpa [List.getElem?_take, List.getElem?_drop] using this.symm

/-! ### Data as values -/
theorem castL_h {U : Nat → Prop} {w : World} {a b : DT} (h : a = b) (l : List a.den) {vs : List Value} (k : (DT.slc a).h U w l vs) : (DT.slc b).h U w (DT.castL h l) vs := by subst h; exact k
/-- cells that are known hold data -/
theorem DT.of_h {E : Env} : (t : DT) → {cs : List DV} → {x : t.den} → {r : List DV} → t.of cs = some (x, r) → {vs : List Value} → hL E cs vs → ∃ us us', vs = us ++ us' ∧ t.h E.U E.w x us ∧ hL E r us'
  | .int k, cs, x, r, h, vs, hv => by
    simp only [DT.of] at h
    split at h
    · split at h
      · rename_i hk
        simp only [Option.some.injEq, Prod.mk.injEq] at h
        obtain ⟨rfl, rfl⟩ := h
        simp only [hL, DV.h] at hv
        obtain ⟨v, vs', rfl, rfl, h2⟩ := hv
        exact ⟨[_], vs', rfl, by rw [eqk_eq hk]; rfl, h2⟩
      · cases h
    · cases h
  | .bool, cs, x, r, h, vs, hv => by
    simp only [DT.of] at h
    split at h
    · simp only [Option.some.injEq, Prod.mk.injEq] at h
      obtain ⟨rfl, rfl⟩ := h
      simp only [hL, DV.h] at hv
      obtain ⟨v, vs', rfl, rfl, h2⟩ := hv
      exact ⟨[_], vs', rfl, rfl, h2⟩
    · simp only [Option.some.injEq, Prod.mk.injEq] at h
      obtain ⟨rfl, rfl⟩ := h
      simp only [hL, DV.h] at hv
      obtain ⟨v, vs', rfl, rfl, h2⟩ := hv
      exact ⟨[_], vs', rfl, rfl, h2⟩
    · cases h
  | .str, cs, x, r, h, vs, hv => by
    simp only [DT.of] at h
    split at h
    · simp only [Option.some.injEq, Prod.mk.injEq] at h
      obtain ⟨rfl, rfl⟩ := h
      simp only [hL, DV.h] at hv
      obtain ⟨v, vs', rfl, rfl, h2⟩ := hv
      exact ⟨[_], vs', rfl, rfl, h2⟩
    · cases h
  | .slc t, cs, x, r, h, vs, hv => by
    simp only [DT.of] at h
    split at h
    · split at h
      · rename_i hs _
        simp only [Option.some.injEq, Prod.mk.injEq] at h
        obtain ⟨rfl, rfl⟩ := h
        simp only [hL, DV.h] at hv
        obtain ⟨v, vs', rfl, h1, h2⟩ := hv
        exact ⟨[v], vs', rfl, castL_h _ _ h1, h2⟩
      · cases h
    · simp only [Option.some.injEq, Prod.mk.injEq] at h
      obtain ⟨rfl, rfl⟩ := h
      simp only [hL, DV.h] at hv
      obtain ⟨v, vs', rfl, rfl, h2⟩ := hv
      exact ⟨[_], vs', rfl, ⟨none, 0, rfl, Nat.le_refl _, Nat.zero_le _, by simp⟩, h2⟩
    · cases h
  | .set, cs, x, r, h, vs, hv => by
    simp only [DT.of] at h
    split at h
    · simp only [Option.some.injEq, Prod.mk.injEq] at h
      obtain ⟨rfl, rfl⟩ := h
      simp only [hL, DV.h] at hv
      obtain ⟨v, vs', rfl, h1, h2⟩ := hv
      exact ⟨[v], vs', rfl, h1, h2⟩
    · cases h
  | .unit, cs, x, r, h, vs, hv => by
    simp only [DT.of, Option.some.injEq, Prod.mk.injEq] at h
    obtain ⟨_, rfl⟩ := h
    exact ⟨[], vs, rfl, rfl, hv⟩
  | .pair a b, cs, x, r, h, vs, hv => by
    simp only [DT.of] at h
    split at h
    · rename_i x1 r1 h1
      split at h
      · rename_i x2 r2 h2
        simp only [Option.some.injEq, Prod.mk.injEq] at h
        obtain ⟨rfl, rfl⟩ := h
        obtain ⟨us, us', rfl, g1, g2⟩ := a.of_h h1 hv
        obtain ⟨vs, vs', rfl, g3, g4⟩ := b.of_h h2 g2
        exact ⟨us ++ vs, vs', by simp, ⟨us, vs, rfl, g1, g3⟩, g4⟩
      · cases h
    · cases h
/-- data are what their cells are -/
theorem DT.cells_h {E : Env} : (t : DT) → {x : t.den} → {us : List Value} → t.h E.U E.w x us → {r : List DV} → {us' : List Value} → hL E r us' → hL E (t.cells x r) (us ++ us')
  | .int k, x, us, h, r, us', hr => by subst h; simp only [DT.cells, hL, DV.h]; exact ⟨_, _, rfl, rfl, hr⟩
  | .bool, x, us, h, r, us', hr => by subst h; simp only [DT.cells, hL, DV.h]; exact ⟨_, _, rfl, rfl, hr⟩
  | .str, x, us, h, r, us', hr => by subst h; simp only [DT.cells, hL, DV.h]; exact ⟨_, _, rfl, rfl, hr⟩
  | .slc t, x, us, h, r, us', hr => by
    have hl := (DT.slc t).h_len h
    obtain ⟨a, c, rfl, _⟩ := id h
    simp only [DT.cells, hL, DV.h]
    exact ⟨_, _, rfl, h, hr⟩
  | .set, x, us, h, r, us', hr => by
    obtain ⟨b, es, clock, rfl, _⟩ := id h
    simp only [DT.cells, hL, DV.h]
    exact ⟨_, _, rfl, h, hr⟩
  | .unit, x, us, h, r, us', hr => by subst h; simpa [DT.cells] using hr
  | .pair a b, x, us, h, r, us', hr => by
    obtain ⟨u1, u2, rfl, h1, h2⟩ := h
    simp only [DT.cells, List.append_assoc]
    exact a.cells_h h1 (b.cells_h h2 hr)
/-- a value of this type -/
def DT.hv (U : Nat → Prop) (w : World) (t : DT) (x : t.den) (v : Value) : Prop := ∃ us, t.h U w x us ∧ v = (match t.agg with | true => .agg us.toArray | false => us.headD undef)
theorem DT.hv_mono {U U' : Nat → Prop} {w w' : World} (l : Later U U' w w') {t : DT} {x : t.den} {v : Value} (h : t.hv U w x v) : t.hv U' w' x v := let ⟨us, h1, h2⟩ := h; ⟨us, t.mono l h1, h2⟩
theorem DT.size1 : (t : DT) → t.agg = false → t.size = 1
  | .int _, _ | .bool, _ | .str, _ | .slc _, _ | .set, _ => rfl
theorem DT.ofV_h {E : Env} {t : DT} {p : DV} {x : t.den} (h : t.ofV p = some x) {v : Value} (hv : p.h E v) : t.hv E.U E.w x v := by
  unfold DT.ofV at h
  split at h
  · rename_i ha
    split at h
    · rename_i cs
      split at h
      · rename_i y r hy
        split at h
        · simp only [Option.some.injEq] at h; subst h
          simp only [DV.h] at hv
          obtain ⟨vs, rfl, hv⟩ := hv
          obtain ⟨us, us', e, h1, h2⟩ := t.of_h hy hv
          simp only [hL] at h2; subst h2
          refine ⟨us, h1, ?_⟩
          rw [ha]; simp only [Value.agg.injEq]
          apply Array.ext'; simpa using e
        · cases h
      · cases h
    · cases h
  · rename_i ha
    split at h
    · rename_i y r hy
      split at h
      · simp only [Option.some.injEq] at h; subst h
        obtain ⟨us, us', e, h1, h2⟩ := t.of_h hy (E := E) (vs := [v]) (by simp only [hL]; exact ⟨v, [], rfl, hv, rfl⟩)
        simp only [hL] at h2; subst h2
        simp only [List.append_nil] at e; subst e
        exact ⟨[v], h1, by rw [ha]; rfl⟩
      · cases h
    · cases h
theorem DT.val_h {E : Env} : (t : DT) → {x : t.den} → {v : Value} → t.hv E.U E.w x v → (t.val x).h E v
  | .int _, _, _, h => by obtain ⟨us, rfl, rfl⟩ := h; simp only [DT.val, DV.h]; rfl
  | .bool, _, _, h => by obtain ⟨us, rfl, rfl⟩ := h; simp only [DT.val, DV.h]; rfl
  | .str, _, _, h => by obtain ⟨us, rfl, rfl⟩ := h; simp only [DT.val, DV.h]; rfl
  | .slc t, _, _, h => by
    obtain ⟨us, h1, rfl⟩ := h
    obtain ⟨a, c, rfl, _⟩ := id h1
    simp only [DT.val, DV.h]; exact h1
  | .set, _, _, h => by
    obtain ⟨us, h1, rfl⟩ := h
    obtain ⟨b, es, clock, rfl, _⟩ := id h1
    simp only [DT.val, DV.h]; exact h1
  | .unit, _, _, h => by obtain ⟨us, rfl, rfl⟩ := h; simp only [DT.val, DV.h]; exact ⟨_, rfl, by simp [hL]⟩
  | .pair a b, _, _, h => by
    obtain ⟨us, ⟨u1, u2, rfl, h1, h2⟩, rfl⟩ := h
    simp only [DT.val, DV.h]
    refine ⟨_, rfl, ?_⟩
    have := a.cells_h (E := E) h1 (b.cells_h h2 (r := []) (us' := []) (by simp [hL]))
    simpa using this
end Go.Vc
