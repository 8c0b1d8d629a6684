import Derived.Test.YtnldhkhnfodplaaVcA
namespace Go.Vc
open Go

/-! ### What the executor knows of a type -/
inductive LK where
  | int (k : IntKind) | bool | str

inductive TD where
  | struct (fs : List (Nat × Nat × Nat))
  | slice (e : TypeId)
  | array (n : Nat) (e : TypeId)
  | int (k : IntKind)
  | bool
  | string
  | ptr (e : TypeId)
  | map (k e : TypeId)
  | other

structure TI where
  ok : Bool
  td : TD
  size : Nat
  bytes : Nat
  agg : Bool
  zero : List Value
  leaves : Option (List LK)

def leavesFs (lv : TypeId → Option (List LK)) (sz : TypeId → Nat) : List Field → Nat → Option (List LK)
  | [], _ => some []
  | f :: fs, off =>
    if f.name == "_" || f.offset != off then none else
    match lv f.type with
    | none => none
    | some l => if l.length != sz f.type || l.length == 0 then none else
      match leavesFs lv sz fs (off + l.length) with
      | none => none
      | some r => some (l ++ r)

def leavesOf (P : Program) : Nat → TypeId → Option (List LK)
  | 0, _ => none
  | d + 1, t =>
    match P.underlying t with
    | some (.int k) => some [.int k]
    | some .bool => some [.bool]
    | some .string => some [.str]
    | some (.struct fs) => if P.stoodInHeld t then none else leavesFs (leavesOf P d) P.cellsOf fs.toList 0
    | _ => none

def TD.of (P : Program) : TypeDesc → TD
  | .struct fs => .struct (fs.toList.map fun f => (f.offset, f.type, P.cellsOf f.type))
  | .slice e => .slice e
  | .array n e => .array n e
  | .int k => .int k
  | .bool => .bool
  | .string => .string
  | .pointer e => .ptr e
  | .map k e => .map k e
  | _ => .other

def isAggD : TypeDesc → Bool
  | .struct _ => true
  | .array _ _ => true
  | _ => false

def rowOf (P : Program) (t : TypeId) : TI :=
  match P.underlying t, P.info? t with
  | some d, some i =>
    { ok := true, td := .of P d, size := i.size, bytes := i.bytes, agg := isAggD d
      zero := (match i.zero with | some z => z.cells.toList | none => [])
      leaves := if P.eqGuardType P.depth t then none else leavesOf P 8 t }
  | _, _ => { ok := false, td := .other, size := 0, bytes := 0, agg := false, zero := [], leaves := none }

/-- The table is the program's, where it says so. -/
def TableOk (P : Program) (T : List TI) : Prop := ∀ (t : TypeId) (ti : TI), T[t]? = some ti → ti.ok = true → ti = rowOf P t
def maskRows (P : Program) : Nat → List TI → List TI
  | _, [] => []
  | n, ti :: T => (match ti.ok with | true => rowOf P n | false => ti) :: maskRows P (n + 1) T
theorem tableOk_of {P : Program} {T : List TI} (h : maskRows P 0 T = T) : TableOk P T := by
  have key : ∀ (T : List TI) (n : Nat), maskRows P n T = T → ∀ (t : TypeId) (ti : TI), T[t]? = some ti → ti.ok = true → ti = rowOf P (n + t) := by
    intro T
    induction T with
    | nil => intro n _ t ti ht; simp at ht
    | cons x T ih =>
      intro n h t ti ht ho
      simp only [maskRows, List.cons.injEq] at h
      cases t with
      | zero =>
        simp at ht; subst ht
        rw [ho] at h
        simpa using h.1.symm
      | succ t =>
        have := ih (n + 1) h.2 t ti (by simpa using ht) ho
        rwa [show n + (t + 1) = n + 1 + t by omega]
  intro t ti ht ho
  simpa using key T 0 h t ti ht ho

/-- What a row that is not empty says. -/
structure TFacts (P : Program) (t : TypeId) (ti : TI) : Prop where
  ex : ∃ d i, P.underlying t = some d ∧ P.info? t = some i ∧ ti.td = .of P d ∧ ti.size = i.size ∧ ti.bytes = i.bytes ∧
    ti.agg = isAggD d ∧
    ti.zero = (match i.zero with | some z => z.cells.toList | none => []) ∧
    ti.leaves = if P.eqGuardType P.depth t then none else leavesOf P 8 t

theorem TableOk.facts {P : Program} {T : List TI} (h : TableOk P T) {t : TypeId} {ti : TI} (ht : T[t]? = some ti) (hs : ti.ok = true) : TFacts P t ti := by
  have hr := h t ti ht hs
  unfold rowOf at hr
  split at hr
  · rename_i d i hd hi
    subst hr
    exact ⟨d, i, hd, hi, rfl, rfl, rfl, rfl, rfl, rfl⟩
  · subst hr; simp at hs

theorem run_typeInfo {P : Program} {t : TypeId} {i : TypeInfo} (h : P.info? t = some i) (w : World) : (typeInfo t).run P w = .ok i w := by
  simp [typeInfo, Sem.run_bind, run_program, h]
theorem run_sizeOf' {P : Program} {t : TypeId} {i : TypeInfo} (h : P.info? t = some i) (w : World) : (sizeOf t).run P w = .ok i.size w := by
  simp [sizeOf, Sem.run_bind, run_typeInfo h]
theorem run_isAgg' {P : Program} {t : TypeId} {d : TypeDesc} (h : P.underlying t = some d) (w : World) :
    (isAgg t).run P w = .ok (isAggD d) w := by
  simp only [isAgg, Sem.run_bind, run_underlying h, Result.andThen_ok]
  cases d <;> simp [isAggD]
theorem run_zeroValue' {P : Program} {t : TypeId} {i : TypeInfo} {z : Value} (h : P.info? t = some i) (hz : i.zero = some z) (w : World) : (zeroValue t).run P w = .ok z w := by
  simp [zeroValue, Sem.run_bind, run_typeInfo h, hz]

/-! ### Equality of structs, leaf by leaf -/
def cmpV : List LK → List Value → List Value → Option Bool
  | [], [], [] => some true
  | .int _ :: ls, .int k1 a :: xs, .int k2 b :: ys => if k1 = k2 then (cmpV ls xs ys).map ((a == b) && ·) else none
  | .bool :: ls, .bool a :: xs, .bool b :: ys => (cmpV ls xs ys).map ((a == b) && ·)
  | .str :: ls, .string a :: xs, .string b :: ys => (cmpV ls xs ys).map ((a.toList == b.toList) && ·)
  | _, _, _ => none

theorem cmpV_append {l r : List LK} {xs ys : List Value} {b : Bool} (h : cmpV (l ++ r) xs ys = some b) :
    ∃ b1 b2, cmpV l (xs.take l.length) (ys.take l.length) = some b1 ∧ cmpV r (xs.drop l.length) (ys.drop l.length) = some b2 ∧ b = (b1 && b2) ∧ l.length ≤ xs.length ∧ l.length ≤ ys.length := by
  induction l generalizing xs ys b with
  | nil => exact ⟨true, b, by simp [cmpV], by simpa using h, by simp, by simp, by simp⟩
  | cons k l ih =>
    simp only [List.cons_append] at h
    unfold cmpV at h
    split at h
    · simp_all
    · rename_i ls k1 a xs k2 b' ys heq
      injection heq with h1 h2
      subst h2
      split at h
      · rename_i hk
        simp only [Option.map_eq_some_iff] at h
        obtain ⟨c, hc, rfl⟩ := h
        obtain ⟨b1, b2, h3, h4, rfl, h5, h6⟩ := ih hc
        subst h1
        refine ⟨(a == b') && b1, b2, ?_, by simpa using h4, ?_, by simpa using h5, by simpa using h6⟩
        · simp only [List.length_cons, List.take_succ_cons, cmpV, if_pos hk, h3, Option.map_some]
        · simp [Bool.and_assoc]
      · cases h
    · rename_i ls a xs b' ys heq
      injection heq with h1 h2
      subst h2
      simp only [Option.map_eq_some_iff] at h
      obtain ⟨c, hc, rfl⟩ := h
      obtain ⟨b1, b2, h3, h4, rfl, h5, h6⟩ := ih hc
      subst h1
      exact ⟨(a == b') && b1, b2, by simp only [List.length_cons, List.take_succ_cons, cmpV, h3, Option.map_some], by simpa using h4, by simp [Bool.and_assoc], by simpa using h5, by simpa using h6⟩
    · rename_i ls a xs b' ys heq
      injection heq with h1 h2
      subst h2
      simp only [Option.map_eq_some_iff] at h
      obtain ⟨c, hc, rfl⟩ := h
      obtain ⟨b1, b2, h3, h4, rfl, h5, h6⟩ := ih hc
      subst h1
      exact ⟨(a.toList == b'.toList) && b1, b2, by simp only [List.length_cons, List.take_succ_cons, cmpV, h3, Option.map_some], by simpa using h4, by simp [Bool.and_assoc], by simpa using h5, by simpa using h6⟩
    · cases h

theorem cmpV_single_len {l : List LK} {xs ys : List Value} {b : Bool} (h : cmpV l xs ys = some b) : xs.length = l.length ∧ ys.length = l.length := by
  induction l generalizing xs ys b with
  | nil =>
    unfold cmpV at h
    split at h <;> simp_all
  | cons k l ih =>
    unfold cmpV at h
    split at h
    · simp_all
    · rename_i heq; injection heq with h1 h2; subst h2
      split at h
      · simp only [Option.map_eq_some_iff] at h
        obtain ⟨c, hc, _⟩ := h
        have := ih hc; simp [this]
      · cases h
    · rename_i heq; injection heq with h1 h2; subst h2
      simp only [Option.map_eq_some_iff] at h
      obtain ⟨c, hc, _⟩ := h
      have := ih hc; simp [this]
    · rename_i heq; injection heq with h1 h2; subst h2
      simp only [Option.map_eq_some_iff] at h
      obtain ⟨c, hc, _⟩ := h
      have := ih hc; simp [this]
    · cases h

/-- a value of cells -/
def wrapV (P : Program) (t : TypeId) (xs : List Value) : Value :=
  match P.underlying t with
  | some (.struct _) => .agg xs.toArray
  | _ => xs.getD 0 undef

theorem run_part {P : Program} {t : TypeId} {xs : Array Value} {off : Nat} {i : TypeInfo} {l : List LK} {d : Nat} (hl : leavesOf P d t = some l) (hi : P.info? t = some i) (hsz : l.length = i.size) (hx : off + l.length ≤ xs.size) (w : World) :
    (part t xs off).run P w = .ok (wrapV P t ((xs.toList.drop off).take l.length)) w := by
  cases d with
  | zero => simp [leavesOf] at hl
  | succ d =>
    unfold leavesOf at hl
    unfold wrapV
    have one : ∀ k : LK, l = [k] → off < xs.size := by rintro k rfl; simp at hx; omega
    split at hl
    · rename_i k hu
      simp only [Option.some.injEq] at hl
      have := one _ hl.symm
      subst hl
      simp [part, Sem.run_bind, run_isAgg' hu, isAggD, hu, this, List.getD]
    · rename_i hu
      simp only [Option.some.injEq] at hl
      have := one _ hl.symm
      subst hl
      simp [part, Sem.run_bind, run_isAgg' hu, isAggD, hu, this, List.getD]
    · rename_i hu
      simp only [Option.some.injEq] at hl
      have := one _ hl.symm
      subst hl
      simp [part, Sem.run_bind, run_isAgg' hu, isAggD, hu, this, List.getD]
    · rename_i fs hu
      simp only [part, Sem.run_bind, run_isAgg' hu, isAggD, Result.andThen_ok, if_true, run_sizeOf' hi, hu, Sem.run_pure]
      congr 2
      apply Array.ext'
      simp [hsz, Array.toList_extract, List.extract_eq_take_drop]
    · cases hl

theorem eq_fields {P : Program} {d : Nat} (hsz : ∀ t, P.cellsOf t ≠ 0 → ∃ i, P.info? t = some i ∧ i.size = P.cellsOf t)
    (ih : ∀ (t : TypeId) (l : List LK), leavesOf P d t = some l → ∀ (D : Nat), d ≤ D → ∀ (xs ys : List Value) (r : Bool), cmpV l xs ys = some r → ∀ w, (Op.equalIn D t (wrapV P t xs) (wrapV P t ys)).run P w = .ok r w) :
    ∀ (fs : List Field) (off : Nat) (l : List LK), leavesFs (leavesOf P d) P.cellsOf fs off = some l → ∀ (D : Nat), d ≤ D → ∀ (xs ys : Array Value) (r : Bool), cmpV l (xs.toList.drop off) (ys.toList.drop off) = some r → ∀ w,
      (Op.eqFields D xs ys fs).run P w = .ok r w := by
  intro fs
  induction fs with
  | nil =>
    intro off l hl D hD xs ys r hr w
    simp only [leavesFs, Option.some.injEq] at hl
    subst hl
    unfold cmpV at hr
    split at hr <;> simp_all [Op.eqFields]
  | cons f fs ihf =>
    intro off l hl D hD xs ys r hr w
    unfold leavesFs at hl
    split at hl
    · cases hl
    · rename_i hnm
      simp only [Bool.or_eq_true, beq_iff_eq, bne_iff_ne, not_or, Decidable.not_not] at hnm
      obtain ⟨hn, hoff⟩ := hnm
      subst hoff
      split at hl
      · cases hl
      · rename_i lf hlf
        split at hl
        · cases hl
        · rename_i hlen
          simp only [Bool.or_eq_true, beq_iff_eq, bne_iff_ne, not_or, ne_eq, Decidable.not_not] at hlen
          obtain ⟨hlen, hne⟩ := hlen
          split at hl
          · cases hl
          · rename_i rest hrest
            simp only [Option.some.injEq] at hl
            subst hl
            obtain ⟨b1, b2, h1, h2, rfl, h3, h4⟩ := cmpV_append hr
            have hpos : lf ≠ [] := by intro h0; subst h0; simp at hne
            obtain ⟨i, hi, hisz⟩ := hsz f.type (by rw [← hlen]; simpa using hpos)
            have hx : f.offset + lf.length ≤ xs.size := by
              have : lf.length ≤ xs.toList.length - f.offset := by simpa using h3
              have : 0 < lf.length := List.length_pos_iff.2 hpos
              simp at *; omega
            have hy : f.offset + lf.length ≤ ys.size := by
              have : lf.length ≤ ys.toList.length - f.offset := by simpa using h4
              have : 0 < lf.length := List.length_pos_iff.2 hpos
              simp at *; omega
            simp only [Op.eqFields, ne_eq, hn, not_false_eq_true, if_true, Sem.run_bind, run_part hlf hi (by omega) hx, run_part hlf hi (by omega) hy, Result.andThen_ok,
              ih f.type lf hlf D hD _ _ b1 h1, Sem.run_ite, Sem.run_pure]
            cases b1
            · simp
            · simp only [Bool.not_true, Bool.false_eq_true, if_false, Bool.true_and]
              exact ihf (f.offset + lf.length) rest hrest D hD xs ys b2 (by simpa [List.drop_drop] using h2) w

theorem info_of_cells {P : Program} (t : TypeId) (h : P.cellsOf t ≠ 0) : ∃ i, P.info? t = some i ∧ i.size = P.cellsOf t := by
  unfold Program.cellsOf at *
  cases hi : P.info? t with
  | none => simp [hi] at h
  | some i => exact ⟨i, rfl, by simp⟩

theorem eq_leaves {P : Program} : ∀ (d : Nat) (t : TypeId) (l : List LK), leavesOf P d t = some l → ∀ (D : Nat), d ≤ D → ∀ (xs ys : List Value) (r : Bool), cmpV l xs ys = some r → ∀ w,
    (Op.equalIn D t (wrapV P t xs) (wrapV P t ys)).run P w = .ok r w := by
  intro d
  induction d with
  | zero => intro t l hl; simp [leavesOf] at hl
  | succ d ih =>
    intro t l hl D hD xs ys r hr w
    obtain ⟨D, rfl⟩ : ∃ D', D = D' + 1 := ⟨D - 1, by omega⟩
    unfold leavesOf at hl
    split at hl
    · rename_i k hu
      simp only [Option.some.injEq] at hl; subst hl
      unfold cmpV at hr
      split at hr <;> try (simp_all; done)
      rename_i h1; injection h1 with h1 h2; subst h2
      split at hr
      · rename_i hk; subst hk
        simp only [Option.map_eq_some_iff] at hr
        obtain ⟨c, hc, rfl⟩ := hr
        unfold cmpV at hc
        split at hc <;> simp_all [wrapV, List.getD, run_equalIn_int]
        all_goals rw [run_equalIn_int (h := hu)]
      · cases hr
    · rename_i hu
      simp only [Option.some.injEq] at hl; subst hl
      unfold cmpV at hr
      split at hr <;> try (simp_all; done)
      rename_i h1; injection h1 with h1 h2; subst h2
      simp only [Option.map_eq_some_iff] at hr
      obtain ⟨c, hc, rfl⟩ := hr
      unfold cmpV at hc
      split at hc <;> simp_all [wrapV, List.getD]
      all_goals rw [run_equalIn_bool' (h := hu)]
    · rename_i hu
      simp only [Option.some.injEq] at hl; subst hl
      unfold cmpV at hr
      split at hr <;> try (simp_all; done)
      rename_i h1; injection h1 with h1 h2; subst h2
      simp only [Option.map_eq_some_iff] at hr
      obtain ⟨c, hc, rfl⟩ := hr
      unfold cmpV at hc
      split at hc <;> simp_all [wrapV, List.getD]
      all_goals rw [run_equalIn_string (h := hu)]
    · rename_i fs hu
      split at hl
      · cases hl
      · rename_i hst
        have hf : P.fieldsOf t = fs := by simp [Program.fieldsOf, hu]
        simp only [wrapV, hu]
        rw [run_equalIn_struct w D t _ _ (by rw [hf]; exact hu) (by simpa using hst), hf]
        exact eq_fields info_of_cells ih fs.toList 0 l hl D (by omega) _ _ r (by simpa using hr) w
    · cases hl

end Go.Vc
