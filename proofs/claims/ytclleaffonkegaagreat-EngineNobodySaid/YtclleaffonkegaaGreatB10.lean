import Derived.Test.YtclleaffonkegaaGreatB9
import Derived.WalkKit
import Derived.ProofKit
import Derived.OpenShut
import Derived.ShutString
import Derived.ChangeOld
import Derived.Below
import Derived.Lib.SmallJoins
import Derived.Test.YtclleaffonkegaaGreatRows
import Derived.JoinedOf
namespace Go.Proofs.YtclleaffonkegaaGreat
open Go Go.Vc Go.RowKit
set_option maxRecDepth 100000
theorem cutE (b : List Int) : ref01_CutW stdW b 90 = some (b.take 90) := by
  unfold ref01_CutW
  by_cases h : 90 < b.length
  · have h1 : decide ((90 : Int) < (b.length : Int)) = true := decide_eq_true (by omega)
    rw [h1]
    have h2 : (decide ((0 : Int) ≤ 90) && decide ((90 : Int) ≤ (b.length : Int))) = true := by simp; omega
    show bndF 90 b.length (fun h1 => some (b.take h1)) = _
    unfold bndF
    rw [h2]
    rfl
  · have h1 : decide ((90 : Int) < (b.length : Int)) = false := decide_eq_false (by omega)
    rw [h1, List.take_of_length_le (by omega)]
    rfl
theorem lives37 : law37_livesNW stdW = some true := by kernel_rfl
theorem nobody_true (b : List Int) (each : Int) : law37_EngineNobodyNW stdW b each = some true := by
  unfold law37_EngineNobodyNW
  rw [cutE, lives37]
  generalize b.take 90 = l
  kernel_rfl
end Go.Proofs.YtclleaffonkegaaGreat

namespace Go.Vc
open Go Go.RowKit Go.ChangeShapes Go.WideShapes
/-! ### Arguments, opened by their types' shapes -/
def noU : Nat → Prop := fun _ => False
/-! what a well formed argument is known to be -/
def DT.okD : (t : DT) → t.den → Prop
  | .int k, n => (Lit.int k n).wf = true
  | .bool, _ => True
  | .str, s => s.size ≤ maxLen
  | .slc t, l => (∀ x ∈ l, t.okD x) ∧ l.length ≤ maxLen
  | .unit, _ => True
  | .pair a b, x => a.okD x.1 ∧ b.okD x.2
  | .set, _ => False
/-- a type that is laid out as these data (a struct; its fields from a cell on) -/
def lay (P : Program) : DT → (TypeId → Bool) × (List Field → Nat → Bool)
  | .int k => (fun t => match P.underlying t with | some (.int k') => eqk k' k | _ => false, fun _ _ => false)
  | .bool => (fun t => match P.underlying t with | some .bool => true | _ => false, fun _ _ => false)
  | .set => (fun _ => false, fun _ _ => false)
  | .str => (fun t => match P.underlying t with | some .string => true | _ => false, fun _ _ => false)
  | .slc d => (fun t => match P.underlying t with | some (.slice e) => (lay P d).1 e && Nat.beq (P.cellsOf e) d.size | _ => false, fun _ _ => false)
  | .unit => (fun t => match P.underlying t with | some (.struct fs) => fs.toList.isEmpty && Nat.beq (P.cellsOf t) 0 | _ => false, fun fl _ => fl.isEmpty)
  | .pair a b =>
    (fun t => match P.underlying t with
      | some (.struct fs) => (match fs.toList with
        | f :: fl => Nat.beq f.offset 0 && Nat.beq (P.cellsOf f.type) a.size && (lay P a).1 f.type && (lay P b).2 fl a.size
        | [] => false) && Nat.beq (fs.toList.foldl (fun s f => s + P.cellsOf f.type) 0) (P.cellsOf t)
      | _ => false,
    fun fl off => match fl with
      | f :: fl => Nat.beq f.offset off && Nat.beq (P.cellsOf f.type) a.size && (lay P a).1 f.type && (lay P b).2 fl (off + a.size)
      | [] => false)
def OpnD (P : Program) (t : TypeId) (d : DT) : Prop :=
  ∀ (H : Type) (enc : TypeId × Value → H) (w : World) (base : Nat) (spare : Nat → Bool) (held : Bool) (fuel : Nat) (cs : List Value) (x : DataW H × List MemPlace),
    DataW.trod enc P w base spare held fuel t cs = some x → ∃ a, d.okD a ∧ d.h noU w a cs
def OpnF (P : Program) (fl : List Field) (off : Nat) (d : DT) : Prop :=
  ∀ (H : Type) (enc : TypeId × Value → H) (w : World) (base : Nat) (spare : Nat → Bool) (held : Bool) (fuel : Nat) (cs : List Value) (n : Nat), cs.length = n → fl.foldl (fun s f => s + P.cellsOf f.type) off = n →
    (∀ f ∈ fl, ∃ x, DataW.trod enc P w base spare held fuel f.type ((cs.drop f.offset).take (P.cellsOf f.type)) = some x) → ∃ a, d.okD a ∧ d.h noU w a (cs.drop off)
theorem choose_list {α : Type} {Q : Nat → α → Prop} : ∀ (n : Nat), (∀ i, i < n → ∃ a, Q i a) → ∃ l : List α, l.length = n ∧ ∀ i a, l[i]? = some a → Q i a
  | 0, _ => ⟨[], rfl, by simp⟩
  | n + 1, h => by
    obtain ⟨l, hl, hq⟩ := choose_list n fun i hi => h i (by omega)
    obtain ⟨a, ha⟩ := h n (by omega)
    refine ⟨l ++ [a], by simp [hl], fun i b hb => ?_⟩
    rcases Nat.lt_or_ge i n with hi | hi
    · rw [List.getElem?_append_left (by omega)] at hb; exact hq i b hb
    · rw [List.getElem?_append_right (by omega), hl] at hb
      rcases Nat.eq_or_lt_of_le hi with e | e
      · subst e; simp at hb; subst hb; exact ha
      · rw [List.getElem?_eq_none (by simp; omega)] at hb; cases hb
theorem cells_get {w : World} {base : Nat} {a : Addr} {n : Nat} {cs : List Value} (h : w.cells? base a n = some cs) : cs.length = n ∧ ∀ j u, cs[j]? = some u → w.cell? (a.add j) = some u := by
  unfold World.cells? at h
  split at h
  · have hl := mapM_some_length h
    refine ⟨by simpa using hl, fun j u hj => ?_⟩
    have hlt : j < n := by have := (List.getElem?_eq_some_iff.1 hj).1; simp at hl; omega
    have := mapM_some_get h j j (by simp [hlt])
    rw [this, hj]
  · cases h
theorem opn_slice {P : Program} {t e : TypeId} {d : DT} (ht : P.underlying t = some (.slice e)) (hk : P.cellsOf e = d.size) (he : OpnD P e d) : OpnD P t (.slc d) := by
  intro H enc w base spare held fuel cs x h
  rcases DataW.trod_slice ht h with ⟨rfl, _⟩ | ⟨a, len, cap, elems, rest, n, _, rfl, _, hb, hl, hm, hlen, hel, _, _⟩
  · exact ⟨[], ⟨by simp, Nat.zero_le _⟩, none, 0, rfl, Nat.le_refl _, Nat.zero_le _, by simp⟩
  · have hq : ∀ i, i < len → ∃ b : d.den, d.okD b ∧ ∃ us, d.h noU w b us ∧ ∀ j u, us[j]? = some u → w.cell? (a.add (i * d.size + j)) = some u := by
      intro i hi
      have h1 := hel i hi
      have h2 : elems[i]? = some elems[i] := List.getElem?_eq_getElem (by omega)
      rw [h2, Option.bind_eq_some_iff] at h1
      obtain ⟨us, h3, h4⟩ := h1
      obtain ⟨b, hb1, hb2⟩ := he H enc w base spare held n us _ h4
      obtain ⟨_, g2⟩ := cells_get h3
      refine ⟨b, hb1, us, hb2, fun j u hj => ?_⟩
      have := g2 j u hj
      rwa [Addr.add_add, hk] at this
    obtain ⟨l, hll, hl2⟩ := choose_list len hq
    refine ⟨l, ⟨fun b hb => ?_, by omega⟩, some a, cap, by rw [hll], by omega, hm, fun i x hi => ?_⟩
    · obtain ⟨i, hi⟩ := List.mem_iff_getElem?.1 hb
      exact (hl2 i b hi).1
    · obtain ⟨_, us, g2, g3⟩ := hl2 i x hi
      refine ⟨us, g2, fun j u hj => ⟨a, rfl, fun h => h, ?_, g3 j u hj⟩⟩
      have := World.block_lt_of_cell? w _ (g3 j u hj)
      rwa [add_block] at this
theorem opn_struct {P : Program} {t : TypeId} {fs : Array Field} {d : DT} (ht : P.underlying t = some (.struct fs)) (hs : fs.toList.foldl (fun s f => s + P.cellsOf f.type) 0 = P.cellsOf t) (h : OpnF P fs.toList 0 d) : OpnD P t d := by
  intro H enc w base spare held fuel cs x hx
  obtain ⟨xs, n, _, _, hl, hxl, hf⟩ := DataW.trod_struct ht hx
  have := h H enc w base spare held n cs _ hl hs fun f hf' => by
    obtain ⟨i, hi⟩ := List.mem_iff_getElem?.1 hf'
    have h1 := hf i f (by simpa using hi)
    have hlt := (List.getElem?_eq_some_iff.1 hi).1
    rw [List.getElem?_eq_getElem (by rw [hxl]; simpa using hlt)] at h1
    exact ⟨_, h1⟩
  simpa using this
theorem opn_nil {P : Program} {off : Nat} : OpnF P [] off .unit := by
  intro H enc w base spare held fuel cs n hl hn _
  simp at hn
  exact ⟨(), trivial, by simp only [DT.h]; simp; omega⟩
theorem opn_cons {P : Program} {f : Field} {fl : List Field} {off : Nat} {a b : DT} (ho : f.offset = off) (hk : P.cellsOf f.type = a.size) (h1 : OpnD P f.type a) (h2 : OpnF P fl (off + a.size) b) : OpnF P (f :: fl) off (.pair a b) := by
  intro H enc w base spare held fuel cs n hl hn hf
  subst ho
  obtain ⟨x, hx⟩ := hf f (by simp)
  obtain ⟨y, a1, a2⟩ := h1 H enc w base spare held fuel _ x hx
  obtain ⟨z, b1, b2⟩ := h2 H enc w base spare held fuel cs n hl (by rw [← hk]; simpa using hn) fun g hg => hf g (by simp [hg])
  refine ⟨(y, z), ⟨a1, b1⟩, _, _, ?_, a2, b2⟩
  rw [← List.drop_drop, hk, List.take_append_drop]
theorem lay_ok (P : Program) : ∀ d : DT, (∀ t, (lay P d).1 t = true → OpnD P t d) ∧ ∀ fl off, (lay P d).2 fl off = true → OpnF P fl off d
  | .set => ⟨fun _ h => by simp [lay] at h, fun _ _ h => by simp [lay] at h⟩
  | .int k => by
      refine ⟨fun t h => ?_, fun fl off h => ?_⟩
      case refine_2 => simp [lay] at h
      simp only [lay] at h
      split at h
      · rename_i k' ht
        have := eqk_eq h
        subst this
        intro H enc w base spare held fuel cs x hx
        obtain ⟨n, rfl, _, hw⟩ := DataW.trod_int ht hx
        exact ⟨n, hw, rfl⟩
      · cases h
  | .bool => by
      refine ⟨fun t h => ?_, fun fl off h => ?_⟩
      case refine_2 => simp [lay] at h
      simp only [lay] at h
      split at h
      · rename_i ht
        intro H enc w base spare held fuel cs x hx
        obtain ⟨n, rfl, _⟩ := DataW.trod_bool ht hx
        exact ⟨n, trivial, rfl⟩
      · cases h
  | .str => by
      refine ⟨fun t h => ?_, fun fl off h => ?_⟩
      case refine_2 => simp [lay] at h
      simp only [lay] at h
      split at h
      · rename_i ht
        intro H enc w base spare held fuel cs x hx
        obtain ⟨n, rfl, _, hl⟩ := DataW.trod_string ht hx
        exact ⟨n, hl, rfl⟩
      · cases h
  | .slc d => by
      refine ⟨fun t h => ?_, fun fl off h => ?_⟩
      case refine_2 => simp [lay] at h
      simp only [lay] at h
      split at h
      · rename_i e ht
        simp only [Bool.and_eq_true] at h
        exact opn_slice ht (Nat.eq_of_beq_eq_true h.2) ((lay_ok P d).1 _ h.1)
      · cases h
  | .unit => by
      refine ⟨fun t h => ?_, fun fl off h => ?_⟩
      case refine_2 => simp only [lay, List.isEmpty_iff] at h; subst h; exact opn_nil
      simp only [lay] at h
      split at h
      · rename_i fs ht
        simp only [Bool.and_eq_true, List.isEmpty_iff] at h
        refine opn_struct ht (by rw [h.1, Nat.eq_of_beq_eq_true h.2]; rfl) ?_
        rw [h.1]; exact opn_nil
      · cases h
  | .pair a b => by
    have hF : ∀ fl off, (lay P (.pair a b)).2 fl off = true → OpnF P fl off (.pair a b) := fun fl off h => by
      simp only [lay] at h
      split at h
      · simp only [Bool.and_eq_true] at h
        obtain ⟨⟨⟨h1, h2⟩, h3⟩, h4⟩ := h
        exact opn_cons (Nat.eq_of_beq_eq_true h1) (Nat.eq_of_beq_eq_true h2) ((lay_ok P a).1 _ h3) ((lay_ok P b).2 _ _ h4)
      · cases h
    refine ⟨fun t h => ?_, hF⟩
    simp only [lay] at h
    split at h
    · rename_i fs ht
      simp only [Bool.and_eq_true] at h
      refine opn_struct ht (Nat.eq_of_beq_eq_true h.2) (hF _ _ ?_)
      have h1 := h.1
      simp only [lay]
      split at h1
      · rename_i f fl hfs
        rw [Nat.zero_add]; exact h1
      · cases h1
    · cases h
/-- an argument -/
theorem openD {P : Program} {t : TypeId} {d : DT} (hl : (lay P d).1 t = true) {H : Type} {enc : TypeId × Value → H} {w : World} {re : Reach} {b0 base : Nat} {spare : Nat → Bool} {held : Bool} {v : Value} {D : DataW H} {p : List MemPlace}
    (hv : Value.okWide P w re b0 t v) (h : DataW.Trod enc P w base spare held t v D p) : ∃ a, d.okD a ∧ d.hv noU w a v := by
  have ho := (lay_ok P d).1 t hl
  obtain ⟨fuel, h⟩ := h
  obtain ⟨a, h1, h2⟩ := ho H enc w base spare held fuel _ _ h
  refine ⟨a, h1, _, h2, ?_⟩
  cases d with
  | set => simp [lay] at hl
  | int k =>
    simp only [lay] at hl
    split at hl
    · rename_i ht; obtain ⟨s, rfl⟩ := okWide_int ht hv; rfl
    · cases hl
  | bool =>
    simp only [lay] at hl
    split at hl
    · rename_i ht; obtain ⟨s, rfl⟩ := okWide_bool ht hv; rfl
    · cases hl
  | str =>
    simp only [lay] at hl
    split at hl
    · rename_i ht; obtain ⟨s, rfl⟩ := okWide_string ht hv; rfl
    · cases hl
  | slc d =>
    simp only [lay] at hl
    split at hl
    · rename_i ht; obtain ⟨x, n, c, rfl⟩ := okWide_slice ht hv; rfl
    · cases hl
  | unit =>
    simp only [lay] at hl
    split at hl
    · rename_i ht; obtain ⟨cs, rfl, _⟩ := okWide_struct ht hv; simp [DT.agg, Value.cells]
    · cases hl
  | pair a b =>
    simp only [lay] at hl
    split at hl
    · rename_i ht; obtain ⟨cs, rfl, _⟩ := okWide_struct ht hv; simp [DT.agg, Value.cells]
    · cases hl
/-- arguments, one behind the other -/
def envS (w : World) : Env := ⟨noU, w, fun _ => 0, fun _ => (none, 0), [], []⟩
theorem argNil {w : World} : hL (envS w) (argVs .unit ()) [] := by simp only [argVs, hL]
theorem argCons {w : World} {a b : DT} {x : a.den} {y : b.den} {v : Value} {vs : List Value} (h : a.hv noU w x v) (k : hL (envS w) (argVs b y) vs) : hL (envS w) (argVs (.pair a b) (x, y)) (v :: vs) := by
  simp only [argVs, hL]
  exact ⟨v, vs, rfl, a.val_h (E := envS w) h, k⟩
/-- A LAW: called with what its arguments stand for it answers true, and of what was there nothing has turned -/
theorem esays {P : Program} {f : FuncId} {A : DT} {F : A.den → Option Bool} (h : ESok P f ⟨A, .v .bool, F⟩) {x : A.den} (hx : F x = some true) {vs : List Value} {w : World} (hv : hL (envS w) (argVs A x) vs) (hb : HasBody P f) :
    Calls P f vs.toArray w fun e w' => e = .returned (.bool true) ∧ Below w.heap.size w w' := by
  have hno : ∀ b, ¬ Ow (fun _ => 0) (fun _ => (none, 0)) [] [] b := by
    rintro b ⟨k, i, h⟩
    cases k with
    | false => obtain ⟨⟨_, h⟩, _⟩ := h; simp at h
    | true => obtain ⟨r, ad, h, _⟩ := h; simp at h
  have m : Mem w noU (Ow (fun _ => 0) (fun _ => (none, 0)) [] []) (fun _ => 0) (fun _ => (none, 0)) [] [] w :=
    ⟨rfl, rfl, rfl, Nat.le_refl _, fun _ _ _ => rfl, fun b h => h.elim, fun k i b h => (hno b ⟨k, i, h⟩).elim, fun k i k' i' b h => (hno b ⟨k, i, h⟩).elim, fun i b h => by simp at h, fun j e t l h => by simp at h, fun j d h => by simp at h⟩
  have hU : ∀ b, Us noU (fun _ => 0) (fun _ => (none, 0)) [] [] b → noU b := fun b h => h.elim id fun h => (hno b h).elim
  have s : Sub noF (envS w) (env noU (fun _ => 0) (fun _ => (none, 0)) [] [] w) := ⟨⟨fun _ _ _ => rfl, Nat.le_refl _, fun b _ h => hU b h⟩, fun i h => ⟨h, rfl⟩, fun j e t l _ h => ⟨l, h, rfl, rfl⟩, fun j d _ h => ⟨⟨d, h, rfl⟩, rfl⟩, fun j q e t l h => (by cases h), fun j p d ad h => (by cases h)⟩
  refine ((h x true hx noU _ _ vs w m (noSub s hv)).calls hb).mono ?_
  rintro e w' ⟨v, rfl, B', A', r, pb', rw', m', hr, _, _, hq⟩
  simp only [QT.mk, Prod.mk.injEq] at hq
  obtain ⟨rfl, _⟩ := hq
  simp only [DT.val, DV.h] at hr
  subst hr
  exact ⟨rfl, m'.os, m'.tape, m'.output, m'.size, fun b hb => m'.same b hb (hno b)⟩
end Go.Vc
namespace Go.Proofs.YtclleaffonkegaaGreat
open Go Go.Vc Go.RowKit Go.ChangeShapes Go.WideShapes Go.ChangeAt Go.Joins

theorem own : ownKnob Tryz.prog.godebug = none := by kernel_rfl
theorem laidOut : laidOutB Tryz.prog = true := by kernel_rfl
theorem trod_places {H : Type} {enc : TypeId × Value → H} {w : World} {spare : Nat → Bool} {held : Bool} {t : TypeId} {v : Value} {d : DataW H} {p : List MemPlace} (h : DataW.Trod enc Tryz.prog w 0 spare held t v d p) : ∀ x ∈ p, x.block < w.heap.size := by
  obtain ⟨m, hm⟩ := h; exact DataW.trod_lt m _ _ _ hm
end Go.Proofs.YtclleaffonkegaaGreat
/-! A program's closures over a table of who leads to whom (own work): so that 'recurses' is not reckoned by the kernel function by function. -/
namespace Go.Vc
open Go
def closT (T : List (List Nat)) : Nat → List Nat → List Nat → List Nat
  | 0, _, seen => seen.reverse
  | _, [], seen => seen.reverse
  | n + 1, f :: todo, seen => if seen.contains f then closT T n todo seen else closT T n ((T[f]?).getD [] ++ todo) (f :: seen)
theorem lead_eq {P : Program} {T : List (List Nat)} (hT : P.funcs.toList.map P.leadsTo = T) (f : Nat) : (P.funcs[f]?).elim [] P.leadsTo = (T[f]?).getD [] := by
  subst hT
  rw [List.getElem?_map, Array.getElem?_toList]
  cases P.funcs[f]? <;> rfl
theorem closureVia_eq {P : Program} {T : List (List Nat)} (hT : P.funcs.toList.map P.leadsTo = T) : ∀ n todo seen, P.closureVia n todo seen = closT T n todo seen
  | 0, _, _ => by simp only [Program.closureVia, closT]
  | n + 1, [], _ => by simp only [Program.closureVia, closT]
  | n + 1, f :: todo, seen => by
    simp only [Program.closureVia, closT]
    rw [closureVia_eq hT n, closureVia_eq hT n, lead_eq hT f]
theorem closure_eq {P : Program} {T : List (List Nat)} (hT : P.funcs.toList.map P.leadsTo = T) (f : Nat) : P.closure f = closT T (1 + (T.map fun l => l.length + 1).sum) [f] [] := by
  unfold Program.closure
  rw [closureVia_eq hT]
  subst hT
  rw [List.map_map]; rfl
end Go.Vc

namespace Go.Proofs.YtclleaffonkegaaGreat
open Go Go.Vc
def leadsT : List (List Nat) := [[], [], [1], [6, 5, 7, 8, 10, 9, 11, 12], [13, 6, 14, 15, 16, 17, 18, 19, 20, 17, 19, 20], [21, 22, 23, 24, 25, 26, 23, 27], [], [28, 29, 30, 31, 32, 33], [21, 36, 35, 34], [37, 38, 39, 40, 41, 42, 43, 44, 44, 45, 46], [47], [48], [49, 7, 5, 7, 16, 10], [6], [50, 51, 17], [52, 53, 53, 54, 53, 53, 53], [], [55, 56, 57, 58, 59, 51, 60], [61, 61, 62, 61, 61, 61, 63], [15, 15], [14, 64, 16, 16, 16], [65], [66], [27], [68, 69, 70, 71, 67], [], [72, 36, 35, 72, 34], [73, 74, 74, 74, 75, 75, 74, 74, 75, 74, 74, 76], [77, 78, 79, 80], [], [81, 82], [55, 83, 84, 85, 86, 87, 87, 89, 88, 93, 92, 59, 96, 36, 60], [81, 97], [22, 25, 24], [], [98, 99, 100, 82, 80], [73, 101, 102, 103, 104, 105, 105, 106, 76], [], [107], [], [108], [], [], [], [109], [], [110], [111, 112, 113, 114, 115, 116, 117, 118, 119, 120, 121, 121, 122, 123], [81, 77, 124], [], [], [73, 74, 125, 76], [126], [], [53], [127], [128, 129, 130, 131], [], [56, 132, 56, 56, 57, 56], [57], [], [133, 133, 133], [61, 133], [], [135, 134], [136], [55, 56, 137, 138, 139, 59], [], [140, 66, 141], [142, 143], [144], [145, 146, 147, 148, 149], [98, 150, 100], [], [151, 153, 152], [74], [151, 127], [136], [154, 155], [156, 157, 157], [77, 158], [], [], [56], [160, 159, 162, 161, 165, 164], [167, 166, 170, 169], [172, 171, 174, 173], [177, 176], [56, 57], [90, 91], [83, 83], [56], [56, 57], [90, 95, 94], [56, 57], [83, 83, 91], [179, 180, 181, 182, 183, 184, 184, 185], [186, 82], [81, 65], [79, 187, 188], [], [74], [101, 101, 74, 101, 101, 101, 74, 101, 74, 101, 101, 74], [101, 101, 101, 101, 189, 190], [101, 101, 189, 101, 74, 101, 101, 189, 101, 74, 101], [101, 189, 101, 101, 74], [101, 189, 74, 101, 189, 101, 101, 74], [191], [], [], [], [], [], [], [], [], [], [], [], [], [], [192, 193], [], [], [186], [74, 194, 74, 74], [], [], [], [131, 131], [], [], [56, 128, 131], [], [17, 195, 196, 10], [], [], [56], [], [137, 197, 197, 137, 137, 137, 137, 56, 56, 198], [73, 74, 138, 199, 76], [200], [201], [], [202, 203, 203, 204, 203, 204, 203, 205, 203, 203], [206, 207, 208, 209, 210, 211, 212], [213, 214, 215, 216, 216, 217, 218], [219, 220, 221, 222, 223], [224, 225, 226, 227, 228, 229, 230], [231], [186, 65, 187, 188, 82], [], [], [], [77], [232, 233], [77, 77, 77], [234, 235], [77, 154, 78, 236], [56, 57], [83, 91, 83, 83], [56, 57], [83, 91, 91, 91, 91, 163], [56, 57], [56, 57], [83, 91, 91], [56, 57], [83, 83, 83, 83, 168], [56, 57], [56, 57], [90, 90, 56], [56, 57], [83, 90, 83, 91, 91], [56, 57], [83, 90, 90, 175, 91, 83, 83, 83], [83, 91], [56, 57], [90, 175, 178], [56, 57], [237], [238, 239, 240, 241], [242, 242, 243], [242, 244, 245, 246], [242, 242, 244, 246, 245], [242, 244, 247], [248, 248, 249, 250, 251], [], [252], [253, 254, 255, 256, 257], [101], [101], [], [], [], [151, 153, 152], [49, 7], [258, 260, 259, 261, 259, 8, 259], [137, 137], [137, 57, 56], [74, 75, 75, 74, 74, 74, 74, 74, 74, 74, 74], [], [263, 262], [264], [265], [266], [267], [238, 201, 111], [239, 268, 270, 269, 272, 273, 271], [240, 249, 274, 275, 112, 276], [211, 143, 277], [264, 142, 143, 278, 279], [142], [238, 201, 111], [280, 281, 282, 283], [280, 281, 284], [266, 280, 285, 282, 283], [285, 266, 286], [280, 281, 287, 288, 289, 290, 292, 291], [267, 280, 293, 284], [268, 294, 272], [249, 295, 112], [296, 297, 299, 298], [300, 280, 301, 302, 249, 304, 303], [280, 301, 305, 264, 306, 308, 307], [309, 310, 309, 311], [280, 312], [211, 313, 314, 315, 298], [316], [211, 317, 314, 318], [319, 310, 320, 283], [211, 321, 314, 322, 323, 324], [325, 326, 327, 328, 329], [136], [330, 331, 331, 331, 82, 252, 60], [232, 233], [332, 333], [155, 334, 155, 235], [], [], [294, 294, 335, 336], [295], [142, 337], [], [338], [339], [], [], [340, 338], [242], [], [338], [341, 338], [342, 343, 343, 343, 344], [136], [345], [], [], [346], [5, 259], [27], [253, 120], [347, 7], [], [], [348, 349], [350], [351], [352], [353, 269], [], [], [354, 355], [273], [119], [], [356], [357, 358], [337, 348, 360, 349, 359], [337, 361, 362, 120, 363], [337, 348, 360, 349], [319, 310, 143], [339], [281, 364], [310, 365], [366], [351, 115], [352, 367, 368, 369], [], [370, 371, 372], [288, 373], [368, 114], [374, 250, 375], [], [352, 369], [], [], [250, 376, 375], [272], [216], [378, 377], [], [], [375], [380, 379, 381], [], [382, 302, 304, 383], [350, 384], [385, 386, 387, 380, 382, 388, 367], [], [319, 264], [265, 142], [243, 389, 391, 390, 392], [393, 243, 113], [394], [212], [395, 237, 396, 397, 398], [399, 401, 400, 402, 382, 291, 403, 389], [394], [404, 405, 406], [265], [407, 339, 408, 409, 406, 406, 291], [394], [405], [395, 410, 411, 412, 413, 300, 413], [250, 251, 395, 237, 414, 415], [401, 319], [300, 292, 319, 382], [264, 386, 308, 307], [308, 416], [211, 365], [127, 344, 60], [], [417, 417, 342], [418], [], [419], [], [362], [], [268, 273], [], [420, 421], [], [], [422, 333], [], [], [136], [], [120], [237, 423], [425, 424], [427, 426], [], [], [428], [429, 429], [], [430], [431, 432], [349], [433, 434, 434], [], [435, 436], [437, 438, 408, 402, 291], [440, 439], [], [441, 443, 442], [], [114], [444, 445, 446, 447, 443], [448, 449, 450, 451, 450, 452], [441], [447, 372], [441, 441, 453, 442], [250, 454, 455, 456, 367], [247, 457], [], [], [458, 459, 421, 123, 460, 367, 123], [123], [251, 461], [], [380, 462, 381], [], [247, 250, 251], [247, 463, 423, 387, 464, 465], [463, 423, 237], [466, 467, 367], [113, 469, 468], [], [338], [470, 471], [472, 390], [238], [360, 474, 473], [475, 377], [477, 476], [], [478, 479, 480], [481, 482, 483, 367], [193], [247, 409, 406, 406], [251, 380, 380, 461, 461], [247, 247], [395, 485, 484], [247, 401, 400, 486, 487, 488, 489], [339, 404, 250, 401, 483, 490, 491], [239, 294, 294, 447, 492, 372], [482, 374], [237, 237], [494, 493], [237, 495, 493], [496, 493], [382, 380], [375, 497], [463, 307], [], [], [], [], [356, 356, 498], [499], [500], [], [], [], [], [501, 501, 501], [], [502, 502, 502], [], [503], [429, 429], [], [], [504], [247, 250], [239], [247, 401, 505, 367], [395, 237], [], [372], [506, 507], [508], [368], [374], [441, 441, 448, 448, 509, 450, 450, 452], [450, 510, 510], [511], [], [], [510, 510], [506, 506, 441, 506, 507], [512], [513, 514], [], [340, 515, 443, 372], [341, 420], [], [516, 517], [123, 338, 123], [458, 459, 421, 123, 518], [384, 237], [247, 401, 400], [519, 520, 372], [341, 249], [521, 240, 522], [390], [], [], [523], [], [524], [], [], [525, 526, 527, 528, 529, 530, 433, 531, 532, 476, 476], [533, 534], [535, 142, 536], [537], [535, 142, 143, 538, 439, 365, 539], [540], [340], [], [524], [350], [338], [193], [], [541, 542], [], [264, 350, 142, 143], [448, 441, 448, 509, 509, 451, 450, 452, 543], [], [544, 545, 544], [546, 544, 546, 547, 548, 549, 549, 550], [544, 551, 548, 550], [341, 381], [], [], [], [], [], [552, 552, 552], [553, 553, 553], [482, 446, 367], [451, 451], [543], [], [], [], [534], [], [477, 554], [338, 338], [339, 447, 492], [], [555], [], [556], [557], [240, 373], [447, 371, 442], [558, 558, 558], [], [433], [559, 559], [560, 561], [562, 562, 562, 563], [], [433, 433, 433], [433, 433], [433, 433, 433, 433], [], [], [264, 350], [564], [393], [401, 382, 380], [565, 367], [], [], [566], [], [382, 446], [250, 251, 292, 380, 382, 374, 567], [367], [551, 382], [], [568, 367, 569], [545, 291], [380, 570, 382, 367], [], [], [571, 572, 573, 574, 575, 576, 577, 578, 554, 554], [579, 579, 579], [340, 339, 580, 443, 581], [582, 583, 498], [], [433, 433], [477], [], [563], [584, 584, 584], [], [], [585, 585, 585], [249, 586, 521, 292, 587, 292, 291], [565], [568, 367, 588, 589, 590], [466, 521, 367], [], [591, 591], [560, 561], [592, 592, 592, 593], [], [], [], [], [], [239, 373, 447], [448, 450, 452, 543], [594, 594], [595, 595], [433], [], [240, 596], [251, 383, 303], [522], [477, 597], [582, 356, 498], [], [593], [598, 598, 598], [], [], [447, 371, 441, 443, 442], [599, 600, 601, 602, 603, 604, 605, 606, 597, 597], [], [], [607, 607], [560, 561], [608, 608, 608, 609], [], [], [], [], [], [609], [610, 610, 610], [], [], [], [], [], [], [], [], [], [], [], [], [], [], [], [], [], [], [], [], []]
set_option maxRecDepth 1000000 in
theorem leads_ok : Tryz.prog.funcs.toList.map Tryz.prog.leadsTo = leadsT := by kernel_rfl
/-- the variables that a closure names, over tables -/
theorem varsNamed_eq {P : Program} {T G : List (List Nat)} (hT : P.funcs.toList.map P.leadsTo = T) (hG : P.funcs.toList.map (fun fn => fn.body.elim [] Code.globalsNamed) = G)
    (hE : P.funcs.toList.all (fun fn => (if fn.body.isNone then entryReads.lookup fn.name else none).isNone) = true) (f : Nat) :
    P.varsNamed f = ((((closT T (1 + (T.map fun l => l.length + 1).sum) [f] []).flatMap fun g => (G[g]?).getD []).eraseDups).filterMap fun g => (P.globals[g]?).map (·.name)).eraseDups := by
  unfold Program.varsNamed
  rw [closure_eq hT]
  have h1 : (fun g => ((P.funcs[g]?).bind (·.body)).elim [] Code.globalsNamed) = fun g : Nat => (G[g]?).getD [] := by
    funext g
    rw [← hG, List.getElem?_map, Array.getElem?_toList]
    cases P.funcs[g]? with
    | none => rfl
    | some fn => rfl
  have h2 : (fun g : Nat => (P.funcs[g]?).bind fun fn => if fn.body.isNone then entryReads.lookup fn.name else none) = fun _ => none := by
    funext g
    cases h : P.funcs[g]? with
    | none => rfl
    | some fn =>
      have hm : fn ∈ P.funcs.toList := by rw [Array.mem_toList_iff]; exact Array.mem_of_getElem? h
      have := List.all_eq_true.1 hE fn hm
      exact Option.isNone_iff_eq_none.1 this
  have h3 : ∀ l : List Nat, l.filterMap (fun _ => (none : Option String)) = [] := fun l => by
    induction l with
    | nil => rfl
    | cons x l ih => exact ih
  rw [h1, h2, h3, List.append_nil]
def globT : List (List Nat) := [[], [], [], [], [], [], [], [], [], [], [], [], [], [], [], [], [], [], [], [], [], [], [], [], [], [], [], [], [], [], [], [], [], [], [], [], [], [], [], [], [], [], [], [], [], [], [], [], [], [], [], [], [], [], [], [], [], [], [], [], [], [], [], [], [], [], [], [], [], [], [], [], [], [], [], [], [], [], [], [], [], [], [], [], [], [], [], [], [], [], [], [], [], [], [], [], [], [], [], [], [], [], [], [], [], [], [], [], [], [], [], [], [], [], [], [], [], [], [], [], [], [], [], [], [], [], [], [], [], [], [], [], [], [], [], [], [], [], [], [], [], [], [], [], [], [], [], [], [], [], [], [], [], [], [], [], [], [], [], [], [], [], [], [], [], [], [], [], [], [], [], [], [], [], [], [], [], [], [], [], [], [], [], [], [], [], [], [], [], [], [], [], [], [], [], [], [], [], [], [], [], [], [], [], [], [], [], [], [], [], [], [], [], [], [], [], [], [], [], [], [], [], [], [], [], [], [], [], [], [], [], [], [], [], [], [], [], [], [], [], [], [], [], [], [], [], [], [], [], [], [], [], [], [], [], [], [], [], [], [], [], [], [], [], [], [], [], [], [], [], [], [], [], [], [], [], [], [], [], [], [], [], [], [], [], [], [], [], [], [], [], [], [], [], [], [], [], [], [], [], [], [], [], [], [], [], [], [], [], [], [], [], [], [], [], [], [], [], [], [], [], [], [], [], [], [], [], [], [], [], [], [], [], [], [], [], [], [], [], [], [], [], [], [], [], [], [], [], [], [], [], [], [], [], [], [], [], [], [], [], [], [], [], [], [], [], [], [], [], [], [], [], [], [], [], [], [], [], [], [], [], [], [], [], [], [], [], [], [], [], [], [], [], [], [], [], [], [], [], [], [], [], [], [], [], [], [], [], [], [], [], [], [], [], [], [], [], [], [], [], [], [], [], [], [], [], [], [], [], [], [], [], [], [], [], [], [], [], [], [], [], [], [], [], [], [], [], [], [], [0, 1], [], [], [], [], [], [], [], [], [], [], [], [], [], [], [], [], [], [], [], [], [], [], [], [], [], [], [], [], [], [], [], [], [], [], [], [], [], [], [], [], [], [], [], [], [], [], [], [], [], [], [], [], [], [], [], [], [], [], [], [], [], [], [], [], [], [], [], [], [], [], [], [], [], [], [], [], [], [], [], [], [], [], [], [], [], [], [], [], [], [], [], [], [], [], [], [], [], [], [], [], [], [], [], [], [], [], [], [], [], [], [], [], [], [], [], [], [], [], [], [], [], [], [], [], [], [], [], [], [], [], [], [], [], [], [], [], [], [], [], [], [], [], [], [], [], [], [], [], [], [], [], [], [], [], [], [], [], [], [], [], [], [], [], [], [], [], [], [], [], [], [], [], [], [], [], [], [], [], [], [], []]
set_option maxRecDepth 1000000 in
theorem glob_ok : Tryz.prog.funcs.toList.map (fun fn => fn.body.elim [] Code.globalsNamed) = globT := by kernel_rfl
set_option maxRecDepth 1000000 in
theorem ent_ok : Tryz.prog.funcs.toList.all (fun fn => (if fn.body.isNone then entryReads.lookup fn.name else none).isNone) = true := by kernel_rfl
end Go.Proofs.YtclleaffonkegaaGreat