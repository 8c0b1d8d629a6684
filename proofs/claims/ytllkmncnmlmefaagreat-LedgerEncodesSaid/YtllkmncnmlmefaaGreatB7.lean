import Derived.Test.YtllkmncnmlmefaaGreatB6
import Derived.Laws.Externs
import Derived.WalkKit
import Derived.ProofKit
import Derived.OpenShut
import Derived.ShutString
import Derived.ChangeOld
import Derived.Below
import Derived.Lib.SmallJoins
namespace Go.Vc
open Go Go.RowKit
end Go.Vc

namespace Go.Vc
open Go Go.RowKit Go.ChangeShapes Go.WideShapes
/-! ### Arguments, opened by their types' shapes -/
def noU : Nat → Prop := fun _ => False
/-! what a well formed argument is known to be -/
def DT.okD : (t : DT) → t.den → Prop
  | .int k, n => (Lit.int k n).wf = true
  | .bool, _ => True
  | .str, s => s.size ≤ maxLen
  | .slc t, l => (∀ x ∈ l, t.okD x) ∧ l.length ≤ maxLen
  | .unit, _ => True
  | .pair a b, x => a.okD x.1 ∧ b.okD x.2
  | .set, _ => False
theorem wf_i64 {n : Int} (h : (Lit.int .i64 n).wf = true) : -9223372036854775808 ≤ n ∧ n ≤ 9223372036854775807 := by
  simp [Lit.wf, IntKind.min, IntKind.max, IntKind.signed, IntKind.bits] at h; omega
theorem wf_u8 {n : Int} (h : (Lit.int .u8 n).wf = true) : 0 ≤ n ∧ n ≤ 255 := by
  simp [Lit.wf, IntKind.min, IntKind.max, IntKind.signed, IntKind.bits] at h; omega
/-- a type that is laid out as these data (a struct; its fields from a cell on) -/
def lay (P : Program) : DT → (TypeId → Bool) × (List Field → Nat → Bool)
  | .int k => (fun t => match P.underlying t with | some (.int k') => eqk k' k | _ => false, fun _ _ => false)
  | .bool => (fun t => match P.underlying t with | some .bool => true | _ => false, fun _ _ => false)
  | .set => (fun _ => false, fun _ _ => false)
  | .str => (fun t => match P.underlying t with | some .string => true | _ => false, fun _ _ => false)
  | .slc d => (fun t => match P.underlying t with | some (.slice e) => (lay P d).1 e && Nat.beq (P.cellsOf e) d.size | _ => false, fun _ _ => false)
  | .unit => (fun t => match P.underlying t with | some (.struct fs) => fs.toList.isEmpty && Nat.beq (P.cellsOf t) 0 | _ => false, fun fl _ => fl.isEmpty)
  | .pair a b =>
    (fun t => match P.underlying t with
      | some (.struct fs) => (match fs.toList with
        | f :: fl => Nat.beq f.offset 0 && Nat.beq (P.cellsOf f.type) a.size && (lay P a).1 f.type && (lay P b).2 fl a.size
        | [] => false) && Nat.beq (fs.toList.foldl (fun s f => s + P.cellsOf f.type) 0) (P.cellsOf t)
      | _ => false,
    fun fl off => match fl with
      | f :: fl => Nat.beq f.offset off && Nat.beq (P.cellsOf f.type) a.size && (lay P a).1 f.type && (lay P b).2 fl (off + a.size)
      | [] => false)
def OpnD (P : Program) (t : TypeId) (d : DT) : Prop :=
  ∀ (H : Type) (enc : TypeId × Value → H) (w : World) (base : Nat) (spare : Nat → Bool) (held : Bool) (fuel : Nat) (cs : List Value) (x : DataW H × List MemPlace),
    DataW.trod enc P w base spare held fuel t cs = some x → ∃ a, d.okD a ∧ d.h noU w a cs
def OpnF (P : Program) (fl : List Field) (off : Nat) (d : DT) : Prop :=
  ∀ (H : Type) (enc : TypeId × Value → H) (w : World) (base : Nat) (spare : Nat → Bool) (held : Bool) (fuel : Nat) (cs : List Value) (n : Nat), cs.length = n → fl.foldl (fun s f => s + P.cellsOf f.type) off = n →
    (∀ f ∈ fl, ∃ x, DataW.trod enc P w base spare held fuel f.type ((cs.drop f.offset).take (P.cellsOf f.type)) = some x) → ∃ a, d.okD a ∧ d.h noU w a (cs.drop off)
theorem choose_list {α : Type} {Q : Nat → α → Prop} : ∀ (n : Nat), (∀ i, i < n → ∃ a, Q i a) → ∃ l : List α, l.length = n ∧ ∀ i a, l[i]? = some a → Q i a
  | 0, _ => ⟨[], rfl, by simp⟩
  | n + 1, h => by
    obtain ⟨l, hl, hq⟩ := choose_list n fun i hi => h i (by omega)
    obtain ⟨a, ha⟩ := h n (by omega)
    refine ⟨l ++ [a], by simp [hl], fun i b hb => ?_⟩
    rcases Nat.lt_or_ge i n with hi | hi
    · rw [List.getElem?_append_left (by omega)] at hb; exact hq i b hb
    · rw [List.getElem?_append_right (by omega), hl] at hb
      rcases Nat.eq_or_lt_of_le hi with e | e
      · subst e; simp at hb; subst hb; exact ha
      · rw [List.getElem?_eq_none (by simp; omega)] at hb; cases hb
theorem cells_get {w : World} {base : Nat} {a : Addr} {n : Nat} {cs : List Value} (h : w.cells? base a n = some cs) : cs.length = n ∧ ∀ j u, cs[j]? = some u → w.cell? (a.add j) = some u := by
  unfold World.cells? at h
  split at h
  · have hl := mapM_some_length h
    refine ⟨by simpa using hl, fun j u hj => ?_⟩
    have hlt : j < n := by have := (List.getElem?_eq_some_iff.1 hj).1; simp at hl; omega
    have := mapM_some_get h j j (by simp [hlt])
    rw [this, hj]
  · cases h
theorem opn_slice {P : Program} {t e : TypeId} {d : DT} (ht : P.underlying t = some (.slice e)) (hk : P.cellsOf e = d.size) (he : OpnD P e d) : OpnD P t (.slc d) := by
  intro H enc w base spare held fuel cs x h
  rcases DataW.trod_slice ht h with ⟨rfl, _⟩ | ⟨a, len, cap, elems, rest, n, _, rfl, _, hb, hl, hm, hlen, hel, _, _⟩
  · exact ⟨[], ⟨by simp, Nat.zero_le _⟩, none, 0, rfl, Nat.le_refl _, Nat.zero_le _, by simp⟩
  · have hq : ∀ i, i < len → ∃ b : d.den, d.okD b ∧ ∃ us, d.h noU w b us ∧ ∀ j u, us[j]? = some u → w.cell? (a.add (i * d.size + j)) = some u := by
      intro i hi
      have h1 := hel i hi
      have h2 : elems[i]? = some elems[i] := List.getElem?_eq_getElem (by omega)
      rw [h2, Option.bind_eq_some_iff] at h1
      obtain ⟨us, h3, h4⟩ := h1
      obtain ⟨b, hb1, hb2⟩ := he H enc w base spare held n us _ h4
      obtain ⟨_, g2⟩ := cells_get h3
      refine ⟨b, hb1, us, hb2, fun j u hj => ?_⟩
      have := g2 j u hj
      rwa [Addr.add_add, hk] at this
    obtain ⟨l, hll, hl2⟩ := choose_list len hq
    refine ⟨l, ⟨fun b hb => ?_, by omega⟩, some a, cap, by rw [hll], by omega, hm, fun i x hi => ?_⟩
    · obtain ⟨i, hi⟩ := List.mem_iff_getElem?.1 hb
      exact (hl2 i b hi).1
    · obtain ⟨_, us, g2, g3⟩ := hl2 i x hi
      refine ⟨us, g2, fun j u hj => ⟨a, rfl, fun h => h, ?_, g3 j u hj⟩⟩
      have := World.block_lt_of_cell? w _ (g3 j u hj)
      rwa [add_block] at this
theorem opn_struct {P : Program} {t : TypeId} {fs : Array Field} {d : DT} (ht : P.underlying t = some (.struct fs)) (hs : fs.toList.foldl (fun s f => s + P.cellsOf f.type) 0 = P.cellsOf t) (h : OpnF P fs.toList 0 d) : OpnD P t d := by
  intro H enc w base spare held fuel cs x hx
  obtain ⟨xs, n, _, _, hl, hxl, hf⟩ := DataW.trod_struct ht hx
  have := h H enc w base spare held n cs _ hl hs fun f hf' => by
    obtain ⟨i, hi⟩ := List.mem_iff_getElem?.1 hf'
    have h1 := hf i f (by simpa using hi)
    have hlt := (List.getElem?_eq_some_iff.1 hi).1
    rw [List.getElem?_eq_getElem (by rw [hxl]; simpa using hlt)] at h1
    exact ⟨_, h1⟩
  simpa using this
theorem opn_nil {P : Program} {off : Nat} : OpnF P [] off .unit := by
  intro H enc w base spare held fuel cs n hl hn _
  simp at hn
  exact ⟨(), trivial, by simp only [DT.h]; simp; omega⟩
theorem opn_cons {P : Program} {f : Field} {fl : List Field} {off : Nat} {a b : DT} (ho : f.offset = off) (hk : P.cellsOf f.type = a.size) (h1 : OpnD P f.type a) (h2 : OpnF P fl (off + a.size) b) : OpnF P (f :: fl) off (.pair a b) := by
  intro H enc w base spare held fuel cs n hl hn hf
  subst ho
  obtain ⟨x, hx⟩ := hf f (by simp)
  obtain ⟨y, a1, a2⟩ := h1 H enc w base spare held fuel _ x hx
  obtain ⟨z, b1, b2⟩ := h2 H enc w base spare held fuel cs n hl (by rw [← hk]; simpa using hn) fun g hg => hf g (by simp [hg])
  refine ⟨(y, z), ⟨a1, b1⟩, _, _, ?_, a2, b2⟩
  rw [← List.drop_drop, hk, List.take_append_drop]
theorem lay_ok (P : Program) : ∀ d : DT, (∀ t, (lay P d).1 t = true → OpnD P t d) ∧ ∀ fl off, (lay P d).2 fl off = true → OpnF P fl off d
  | .set => ⟨fun _ h => by simp [lay] at h, fun _ _ h => by simp [lay] at h⟩
  | .int k => by
      refine ⟨fun t h => ?_, fun fl off h => ?_⟩
      case refine_2 => simp [lay] at h
      simp only [lay] at h
      split at h
      · rename_i k' ht
        have := eqk_eq h
        subst this
        intro H enc w base spare held fuel cs x hx
        obtain ⟨n, rfl, _, hw⟩ := DataW.trod_int ht hx
        exact ⟨n, hw, rfl⟩
      · cases h
  | .bool => by
      refine ⟨fun t h => ?_, fun fl off h => ?_⟩
      case refine_2 => simp [lay] at h
      simp only [lay] at h
      split at h
      · rename_i ht
        intro H enc w base spare held fuel cs x hx
        obtain ⟨n, rfl, _⟩ := DataW.trod_bool ht hx
        exact ⟨n, trivial, rfl⟩
      · cases h
  | .str => by
      refine ⟨fun t h => ?_, fun fl off h => ?_⟩
      case refine_2 => simp [lay] at h
      simp only [lay] at h
      split at h
      · rename_i ht
        intro H enc w base spare held fuel cs x hx
        obtain ⟨n, rfl, _, hl⟩ := DataW.trod_string ht hx
        exact ⟨n, hl, rfl⟩
      · cases h
  | .slc d => by
      refine ⟨fun t h => ?_, fun fl off h => ?_⟩
      case refine_2 => simp [lay] at h
      simp only [lay] at h
      split at h
      · rename_i e ht
        simp only [Bool.and_eq_true] at h
        exact opn_slice ht (Nat.eq_of_beq_eq_true h.2) ((lay_ok P d).1 _ h.1)
      · cases h
  | .unit => by
      refine ⟨fun t h => ?_, fun fl off h => ?_⟩
      case refine_2 => simp only [lay, List.isEmpty_iff] at h; subst h; exact opn_nil
      simp only [lay] at h
      split at h
      · rename_i fs ht
        simp only [Bool.and_eq_true, List.isEmpty_iff] at h
        refine opn_struct ht (by rw [h.1, Nat.eq_of_beq_eq_true h.2]; rfl) ?_
        rw [h.1]; exact opn_nil
      · cases h
  | .pair a b => by
    have hF : ∀ fl off, (lay P (.pair a b)).2 fl off = true → OpnF P fl off (.pair a b) := fun fl off h => by
      simp only [lay] at h
      split at h
      · simp only [Bool.and_eq_true] at h
        obtain ⟨⟨⟨h1, h2⟩, h3⟩, h4⟩ := h
        exact opn_cons (Nat.eq_of_beq_eq_true h1) (Nat.eq_of_beq_eq_true h2) ((lay_ok P a).1 _ h3) ((lay_ok P b).2 _ _ h4)
      · cases h
    refine ⟨fun t h => ?_, hF⟩
    simp only [lay] at h
    split at h
    · rename_i fs ht
      simp only [Bool.and_eq_true] at h
      refine opn_struct ht (Nat.eq_of_beq_eq_true h.2) (hF _ _ ?_)
      have h1 := h.1
      simp only [lay]
      split at h1
      · rename_i f fl hfs
        rw [Nat.zero_add]; exact h1
      · cases h1
    · cases h
/-- an argument -/
theorem openD {P : Program} {t : TypeId} {d : DT} (hl : (lay P d).1 t = true) {H : Type} {enc : TypeId × Value → H} {w : World} {re : Reach} {b0 base : Nat} {spare : Nat → Bool} {held : Bool} {v : Value} {D : DataW H} {p : List MemPlace}
    (hv : Value.okWide P w re b0 t v) (h : DataW.Trod enc P w base spare held t v D p) : ∃ a, d.okD a ∧ d.hv noU w a v := by
  have ho := (lay_ok P d).1 t hl
  obtain ⟨fuel, h⟩ := h
  obtain ⟨a, h1, h2⟩ := ho H enc w base spare held fuel _ _ h
  refine ⟨a, h1, _, h2, ?_⟩
  cases d with
  | set => simp [lay] at hl
  | int k =>
    simp only [lay] at hl
    split at hl
    · rename_i ht; obtain ⟨s, rfl⟩ := okWide_int ht hv; rfl
    · cases hl
  | bool =>
    simp only [lay] at hl
    split at hl
    · rename_i ht; obtain ⟨s, rfl⟩ := okWide_bool ht hv; rfl
    · cases hl
  | str =>
    simp only [lay] at hl
    split at hl
    · rename_i ht; obtain ⟨s, rfl⟩ := okWide_string ht hv; rfl
    · cases hl
  | slc d =>
    simp only [lay] at hl
    split at hl
    · rename_i ht; obtain ⟨x, n, c, rfl⟩ := okWide_slice ht hv; rfl
    · cases hl
  | unit =>
    simp only [lay] at hl
    split at hl
    · rename_i ht; obtain ⟨cs, rfl, _⟩ := okWide_struct ht hv; simp [DT.agg, Value.cells]
    · cases hl
  | pair a b =>
    simp only [lay] at hl
    split at hl
    · rename_i ht; obtain ⟨cs, rfl, _⟩ := okWide_struct ht hv; simp [DT.agg, Value.cells]
    · cases hl
/-- arguments, one behind the other -/
def envS (w : World) : Env := ⟨noU, w, fun _ => 0, fun _ => (none, 0), [], []⟩
theorem argNil {w : World} : hL (envS w) (argVs .unit ()) [] := by simp only [argVs, hL]
theorem argCons {w : World} {a b : DT} {x : a.den} {y : b.den} {v : Value} {vs : List Value} (h : a.hv noU w x v) (k : hL (envS w) (argVs b y) vs) : hL (envS w) (argVs (.pair a b) (x, y)) (v :: vs) := by
  simp only [argVs, hL]
  exact ⟨v, vs, rfl, a.val_h (E := envS w) h, k⟩
/-- A LAW: called with what its arguments stand for it answers true, and of what was there nothing has turned -/
theorem esays {P : Program} {f : FuncId} {A : DT} {F : A.den → Option Bool} (h : ESok P f ⟨A, .v .bool, F⟩) {x : A.den} (hx : F x = some true) {vs : List Value} {w : World} (hv : hL (envS w) (argVs A x) vs) (hb : HasBody P f) :
    Calls P f vs.toArray w fun e w' => e = .returned (.bool true) ∧ Below w.heap.size w w' := by
  have hno : ∀ b, ¬ Ow (fun _ => 0) (fun _ => (none, 0)) [] [] b := by
    rintro b ⟨k, i, h⟩
    cases k with
    | false => obtain ⟨⟨_, h⟩, _⟩ := h; simp at h
    | true => obtain ⟨r, ad, h, _⟩ := h; simp at h
  have m : Mem w noU (Ow (fun _ => 0) (fun _ => (none, 0)) [] []) (fun _ => 0) (fun _ => (none, 0)) [] [] w :=
    ⟨rfl, rfl, rfl, Nat.le_refl _, fun _ _ _ => rfl, fun b h => h.elim, fun k i b h => (hno b ⟨k, i, h⟩).elim, fun k i k' i' b h => (hno b ⟨k, i, h⟩).elim, fun i b h => by simp at h, fun j e t l h => by simp at h, fun j d h => by simp at h⟩
  have hU : ∀ b, Us noU (fun _ => 0) (fun _ => (none, 0)) [] [] b → noU b := fun b h => h.elim id fun h => (hno b h).elim
  have s : Sub noF (envS w) (env noU (fun _ => 0) (fun _ => (none, 0)) [] [] w) := ⟨⟨fun _ _ _ => rfl, Nat.le_refl _, fun b _ h => hU b h⟩, fun i h => ⟨h, rfl⟩, fun j e t l _ h => ⟨l, h, rfl, rfl⟩, fun j d _ h => ⟨⟨d, h, rfl⟩, rfl⟩, fun j q e t l h => (by cases h), fun j p d ad h => (by cases h)⟩
  refine ((h x true hx noU _ _ vs w m (noSub s hv)).calls hb).mono ?_
  rintro e w' ⟨v, rfl, B', A', r, pb', rw', m', hr, _, _, hq⟩
  simp only [QT.mk, Prod.mk.injEq] at hq
  obtain ⟨rfl, _⟩ := hq
  simp only [DT.val, DV.h] at hr
  subst hr
  exact ⟨rfl, m'.os, m'.tape, m'.output, m'.size, fun b hb => m'.same b hb (hno b)⟩
end Go.Vc
namespace Go.Proofs.YtllkmncnmlmefaaGreat
open Go Go.Vc Go.RowKit
end Go.Proofs.YtllkmncnmlmefaaGreat

namespace Go.Proofs.YtllkmncnmlmefaaGreat
open Go Go.Vc Go.RowKit
set_option synthInstance.maxSize 100000
set_option synthInstance.maxHeartbeats 0
set_option maxHeartbeats 1000000
/-! ### a ledger of none too many -/
theorem r_few16L {l : List AChoice'} (hl : l.length ≤ 9223372036854775807) : law16_Few l = some (l.take 20) := by
  show law16_FewW stdW l = _
  unfold law16_FewW
  by_cases h : 20 < l.length
  · rw [cnd_y (decide_eq_true (by omega)), bnd_w (by omega) (by omega)]; rfl
  · rw [cnd_n (decide_eq_false (by omega)), List.take_of_length_le (by omega)]
theorem r_few11L (l : List AUnit') (hl : l.length ≤ 9223372036854775807) : law11_Few l = some (l.take 12) := by
  show law11_FewW stdW l = _
  unfold law11_FewW
  by_cases h : 12 < l.length
  · rw [cnd_y (decide_eq_true (by omega)), bnd_w (by omega) (by omega)]; rfl
  · rw [cnd_n (decide_eq_false (by omega)), List.take_of_length_le (by omega)]
def fewPosL (p : APos') : APos' := (p.1, (p.2.1.take 12, ()))
def few19L (l : List APos') : List APos' := (l.take 12).map fewPosL
theorem r_few19L (l : List APos') (hl : l.length ≤ 9223372036854775807) (hm : ∀ p ∈ l, p.2.1.length ≤ 9223372036854775807) : law19_Few l = some (few19L l) := by
  show law19_FewW stdW l = _
  unfold law19_FewW
  rw [join_w]
  have hm' : ∀ i (h : i < l.length), l[i].2.1.length ≤ 9223372036854775807 := fun i h => hm _ (List.getElem_mem h)
  refine (loop_std (fun z => l.length + 1 - z.1.toNat) (fun z => ∃ j : Nat, j ≤ l.length ∧ j ≤ 12 ∧ z = ((j : Int), (few19L (l.take j), ()))) (fun _ => some (few19L l)) ⟨0, Nat.zero_le _, Nat.zero_le _, rfl⟩ (by show _ - (0 : Int).toNat < _; omega) ?_)
  rintro _ ⟨j, hj, hj10, rfl⟩ again ha
  have ft : few19L (l.take j) = (l.take j).map fewPosL := by
    unfold few19L; rw [List.take_take, Nat.min_eq_right hj10]
  show stdW.cnd (decide ((j : Int) < (l.length : Int))) (stdW.cnd (decide ((j : Int) < 12)) _ _) _ = _
  by_cases h : j < l.length
  · rw [cnd_lt h]
    by_cases h10 : j < 12
    · have ft1 : few19L (l.take (j + 1)) = few19L (l.take j) ++ [fewPosL l[j]] := by
        unfold few19L; rw [List.take_take, List.take_take, Nat.min_eq_right hj10, Nat.min_eq_right (by omega), List.take_succ_eq_append_getElem h, List.map_append]; rfl
      have hlen : (few19L (l.take j)).length ≤ 12 := by rw [ft, List.length_map, List.length_take]; omega
      rw [cnd_y (decide_eq_true (by omega))]
      show stdW.idx l (j : Int) _ = _
      rw [idx_w h, idx_w h, call_eq (r_few11L _ (hm' j h))]
      show stdW.room ((few19L (l.take j)).length + 1) 40 (again (IntKind.i64.wrap ((j : Int) + 1), (few19L (l.take j) ++ [fewPosL l[j]], ()))) = _
      rw [room_w (by omega) (by omega), ← ft1, i64_s j (by omega)]
      exact ha _ ⟨j + 1, by omega, by omega, rfl⟩ (by show _ - ((j + 1 : Nat) : Int).toNat < _ - ((j : Nat) : Int).toNat; omega)
    · rw [cnd_n (decide_eq_false (by omega))]
      show some (few19L (l.take j)) = _
      have : j = 12 := by omega
      subst this
      unfold few19L; rw [List.take_take, Nat.min_self]
  · have : j = l.length := by omega
    subst this
    rw [cnd_end, List.take_length]
def fewI (x : AInst') : AInst' := (x.1, (x.2.1, (x.2.2.1, (x.2.2.2.1, (x.2.2.2.2.1.take 12, ())))))
def few33 (s : AState') : AState' := (s.1, (s.2.1.take 20, ((s.2.2.1.take 20).map fewI, (s.2.2.2.1.take 20, ((s.2.2.2.2.1.take 20).map short25, (s.2.2.2.2.2.1.take 20, (s.2.2.2.2.2.2.1.take 70, (s.2.2.2.2.2.2.2.1.take 70, (few19L s.2.2.2.2.2.2.2.2.1, (few19L s.2.2.2.2.2.2.2.2.2.1, (s.2.2.2.2.2.2.2.2.2.2.1.take 20, (few26 s.2.2.2.2.2.2.2.2.2.2.2.1, ()))))))))))))
/-- lengths of a state's rows -/
structure LenS (s : AState') (n : Nat) : Prop where
  m : s.2.1.length ≤ n
  i : s.2.2.1.length ≤ n
  im : ∀ x ∈ s.2.2.1, x.2.2.2.2.1.length ≤ n
  a : s.2.2.2.1.length ≤ n
  ac : s.2.2.2.2.1.length ≤ n
  acm : ∀ x ∈ s.2.2.2.2.1, x.2.2.2.1.length ≤ n
  c : s.2.2.2.2.2.1.length ≤ n
  g : s.2.2.2.2.2.2.1.length ≤ n
  v : s.2.2.2.2.2.2.2.1.length ≤ n
  b : s.2.2.2.2.2.2.2.2.1.length ≤ n
  bm : ∀ x ∈ s.2.2.2.2.2.2.2.2.1, x.2.1.length ≤ n
  s' : s.2.2.2.2.2.2.2.2.2.1.length ≤ n
  sm : ∀ x ∈ s.2.2.2.2.2.2.2.2.2.1, x.2.1.length ≤ n
  p : s.2.2.2.2.2.2.2.2.2.2.1.length ≤ n
  h : s.2.2.2.2.2.2.2.2.2.2.2.1.length ≤ n
  hm : ∀ x ∈ s.2.2.2.2.2.2.2.2.2.2.2.1, x.2.1.length ≤ n
theorem take_s {α : Type} {l : List α} {i : Nat} (h : i < l.length) : l.take (i + 1) = l.take i ++ [l[i]] := List.take_succ_eq_append_getElem h
theorem take_n {α : Type} {l : List α} {i : Nat} (h : ¬ i < l.length) : l.take (i + 1) = l.take i := by rw [List.take_of_length_le (by omega), List.take_of_length_le (by omega)]
theorem r_few33L {s : AState'} (L : LenS s 9223372036854775807) : law33_Few s = some (few33 s) := by
  show law33_FewW stdW s = _
  unfold law33_FewW
  have e16 : law16_FewW stdW s.2.2.2.2.2.1 = some (s.2.2.2.2.2.1.take 20) := r_few16L L.c
  have e19 : law19_FewW stdW s.2.2.2.2.2.2.2.2.1 = some (few19L s.2.2.2.2.2.2.2.2.1) := r_few19L _ L.b L.bm
  have e19s : law19_FewW stdW s.2.2.2.2.2.2.2.2.2.1 = some (few19L s.2.2.2.2.2.2.2.2.2.1) := r_few19L _ L.s' L.sm
  have e17 : law17_FewW stdW s.2.2.2.2.2.2.2.2.2.2.1 = some (s.2.2.2.2.2.2.2.2.2.2.1.take 20) := r_few17 _ L.p
  have e26 : law26_FewW stdW s.2.2.2.2.2.2.2.2.2.2.2.1 = some (few26 s.2.2.2.2.2.2.2.2.2.2.2.1) := r_few26 L.h L.hm
  have im : ∀ i (h : i < s.2.2.1.length), s.2.2.1[i].2.2.2.2.1.length ≤ 9223372036854775807 := fun i h => L.im _ (List.getElem_mem h)
  have acm : ∀ i (h : i < s.2.2.2.2.1.length), s.2.2.2.2.1[i].2.2.2.1.length ≤ 9223372036854775807 := fun i h => L.acm _ (List.getElem_mem h)
  have esh : ∀ i (h : i < s.2.2.2.2.1.length), law25_ShortW stdW s.2.2.2.2.1[i] = some (short25 s.2.2.2.2.1[i]) := fun i h => r_short (acm i h)
  unfold few33
  generalize s.2.2.2.2.2.1.take 20 = v1 at *
  generalize few19L s.2.2.2.2.2.2.2.2.1 = v2 at *
  generalize few19L s.2.2.2.2.2.2.2.2.2.1 = v3 at *
  generalize s.2.2.2.2.2.2.2.2.2.2.1.take 20 = v4 at *
  generalize few26 s.2.2.2.2.2.2.2.2.2.2.2.1 = v5 at *
  repeat' (first | rw [call_eq e16] | rw [call_eq e19] | rw [call_eq e19s] | rw [call_eq e17] | rw [call_eq e26] | rw [two_w] | refine both_of ?_ ?_)
  all_goals
    generalize hr : some (s.1, (s.2.1.take 20, ((s.2.2.1.take 20).map fewI, (s.2.2.2.1.take 20, ((s.2.2.2.2.1.take 20).map short25, (v1, (s.2.2.2.2.2.2.1.take 70, (s.2.2.2.2.2.2.2.1.take 70, (v2, (v3, (v4, (v5, ())))))))))))) = r
    refine loop_az (N := 20) (by decide) (fun i => ((i : Int), (s.1, (v1, (v4, (v2, (v3, (v5, (s.2.1.take i, (s.2.2.2.1.take i, ((s.2.2.2.2.1.take i).map short25, ((s.2.2.1.take i).map fewI, ())))))))))))) _ rfl ?_ ?_
    · intro again
      show stdW.cnd (decide (((20 : Nat) : Int) < 20)) _ (stdW.loop _ ((0 : Int), (s.1, (v1, (v4, (v2, (v3, (v5, (s.2.1.take 20, (s.2.2.2.1.take 20, ((s.2.2.2.2.1.take 20).map short25, ((s.2.2.1.take 20).map fewI, (([] : List AGroup'), (([] : List AGive'), ())))))))))))))) = r
      rw [cnd_n (by decide)]
      refine loop_az (N := 70) (by decide) (fun i => ((i : Int), (s.1, (v1, (v4, (v2, (v3, (v5, (s.2.1.take 20, (s.2.2.2.1.take 20, ((s.2.2.2.2.1.take 20).map short25, ((s.2.2.1.take 20).map fewI, (s.2.2.2.2.2.2.1.take i, (s.2.2.2.2.2.2.2.1.take i, ())))))))))))))) _ rfl ?_ ?_
      · intro again2
        show stdW.cnd (decide (((70 : Nat) : Int) < 70)) _ (some _) = r
        rw [cnd_n (by decide), ← hr]
      · intro i hi again2 ha
        show stdW.cnd (decide ((i : Int) < 70)) _ _ = r
        rw [cnd_y (decide_eq_true (by omega))]
        refine join_g fun k28 hk28 => ?_
        have K28 : ∀ g' v', g' = s.2.2.2.2.2.2.1.take (i + 1) → v' = s.2.2.2.2.2.2.2.1.take (i + 1) → k28 (s.1, (v1, (v4, (v2, (v3, (v5, (s.2.1.take 20, (s.2.2.2.1.take 20, ((s.2.2.2.2.1.take 20).map short25, ((s.2.2.1.take 20).map fewI, (g', (v', ())))))))))))) = r := by
          rintro _ _ rfl rfl
          subst hk28
          rw [← ha, ← i64_s i (by omega)]
        clear hk28 ha
        refine join_g fun k31 hk31 => ?_
        have K31 : ∀ g', g' = s.2.2.2.2.2.2.1.take (i + 1) → k31 (s.1, (v1, (v4, (v2, (v3, (v5, (s.2.1.take 20, (s.2.2.2.1.take 20, ((s.2.2.2.2.1.take 20).map short25, ((s.2.2.1.take 20).map fewI, (g', (s.2.2.2.2.2.2.2.1.take i, ())))))))))))) = r := by
          intro g' hg'
          subst hk31
          show stdW.cnd (decide ((i : Int) < (s.2.2.2.2.2.2.2.1.length : Int))) _ (k28 _) = r
          by_cases h : i < s.2.2.2.2.2.2.2.1.length
          · have hl : (s.2.2.2.2.2.2.2.1.take i).length ≤ 70 := by rw [List.length_take]; omega
            rw [cnd_lt h, idx_w h, two_w]
            show stdW.room ((s.2.2.2.2.2.2.2.1.take i).length + 1) 88 (k28 _) = r
            rw [room_w (by omega) (by omega)]
            exact K28 _ _ hg' (take_s h).symm
          · rw [cnd_n (decide_eq_false (by omega))]
            exact K28 _ _ hg' (take_n h).symm
        clear hk31 K28
        show stdW.cnd (decide ((i : Int) < (s.2.2.2.2.2.2.1.length : Int))) _ (k31 _) = r
        by_cases h : i < s.2.2.2.2.2.2.1.length
        · have hl : (s.2.2.2.2.2.2.1.take i).length ≤ 70 := by rw [List.length_take]; omega
          rw [cnd_lt h, idx_w h, two_w]
          show stdW.room ((s.2.2.2.2.2.2.1.take i).length + 1) 48 (k31 _) = r
          rw [room_w (by omega) (by omega)]
          exact K31 _ (take_s h).symm
        · rw [cnd_n (decide_eq_false (by omega))]
          exact K31 _ (take_n h).symm
    · intro i hi again ha
      show stdW.cnd (decide ((i : Int) < 20)) _ _ = r
      rw [cnd_y (decide_eq_true (by omega))]
      refine join_g fun k9 hk9 => ?_
      have K9 : ∀ m' a' c' i', m' = s.2.1.take (i + 1) → a' = s.2.2.2.1.take (i + 1) → c' = (s.2.2.2.2.1.take (i + 1)).map short25 → i' = (s.2.2.1.take (i + 1)).map fewI → k9 (s.1, (v1, (v4, (v2, (v3, (v5, (m', (a', (c', (i', ())))))))))) = r := by
        rintro _ _ _ _ rfl rfl rfl rfl
        subst hk9
        rw [← ha, ← i64_s i (by omega)]
      clear hk9 ha
      refine join_g fun k23 hk23 => ?_
      have K23 : ∀ m', m' = s.2.1.take (i + 1) → k23 (s.1, (v1, (v4, (v2, (v3, (v5, (m', (s.2.2.2.1.take i, ((s.2.2.2.2.1.take i).map short25, ((s.2.2.1.take i).map fewI, ())))))))))) = r := by
        intro m' hm'
        subst hk23
        show stdW.join _ _ = r
        refine join_g fun k21 hk21 => ?_
        have K21 : ∀ a', a' = s.2.2.2.1.take (i + 1) → k21 (s.1, (v1, (v4, (v2, (v3, (v5, (m', (a', ((s.2.2.2.2.1.take i).map short25, ((s.2.2.1.take i).map fewI, ())))))))))) = r := by
          intro a' ha'
          subst hk21
          show stdW.join _ _ = r
          refine join_g fun k17 hk17 => ?_
          have K17 : ∀ c', c' = (s.2.2.2.2.1.take (i + 1)).map short25 → k17 (s.1, (v1, (v4, (v2, (v3, (v5, (m', (a', (c', ((s.2.2.1.take i).map fewI, ())))))))))) = r := by
            intro c' hc'
            subst hk17
            show stdW.cnd (decide ((i : Int) < (s.2.2.1.length : Int))) _ (k9 _) = r
            by_cases h : i < s.2.2.1.length
            · have hl : ((s.2.2.1.take i).map fewI).length ≤ 20 := by rw [List.length_map, List.length_take]; omega
              have h12 := im i h
              rw [cnd_lt h, idx_w h]
              refine join_g fun k15 hk15 => ?_
              have K15 : ∀ mv, mv = s.2.2.1[i].2.2.2.2.1.take 12 → k15 (s.1, (v1, (v4, (s.2.2.1[i].1, (s.2.2.1[i].2.1, (s.2.2.1[i].2.2.1, (s.2.2.1[i].2.2.2.1, (mv, (v2, (v3, (v5, (m', (a', (c', ((s.2.2.1.take i).map fewI, ()))))))))))))))) = r := by
                rintro _ rfl
                subst hk15
                show stdW.room (((s.2.2.1.take i).map fewI).length + 1) 56 (k9 _) = r
                rw [room_w (by omega) (by omega)]
                refine K9 _ _ _ _ hm' ha' hc' ?_
                rw [take_s h, List.map_append]; rfl
              clear hk15
              show stdW.cnd (decide ((12 : Int) < (s.2.2.1[i].2.2.2.2.1.length : Int))) (stdW.bnd 12 s.2.2.1[i].2.2.2.2.1.length _) (k15 _) = r
              by_cases h2 : 12 < s.2.2.1[i].2.2.2.2.1.length
              · rw [cnd_y (decide_eq_true (by omega)), bnd_w (by omega) (by omega)]
                exact K15 _ rfl
              · rw [cnd_n (decide_eq_false (by omega))]
                exact K15 _ (List.take_of_length_le (by omega)).symm
            · rw [cnd_n (decide_eq_false (by omega))]
              exact K9 _ _ _ _ hm' ha' hc' (by rw [take_n h])
          clear hk17 K9
          show stdW.cnd (decide ((i : Int) < (s.2.2.2.2.1.length : Int))) _ (k17 _) = r
          by_cases h : i < s.2.2.2.2.1.length
          · have hl : ((s.2.2.2.2.1.take i).map short25).length ≤ 20 := by rw [List.length_map, List.length_take]; omega
            rw [cnd_lt h, idx_w h]
            have go : k17 (s.1, (v1, (v4, (v2, (v3, (v5, (m', (a', ((s.2.2.2.2.1.take i).map short25 ++ [short25 s.2.2.2.2.1[i]], ((s.2.2.1.take i).map fewI, ())))))))))) = r := K17 _ (by rw [take_s h, List.map_append]; rfl)
            refine both_of ?_ ?_
            · rw [call_eq (esh i h)]
              show stdW.room (((s.2.2.2.2.1.take i).map short25).length + 1) 48 (k17 _) = r
              rw [room_w (by omega) (by omega)]; exact go
            · rw [call_eq (esh i h), two_w]
              show stdW.room (((s.2.2.2.2.1.take i).map short25).length + 1) 48 (k17 _) = r
              rw [room_w (by omega) (by omega)]; exact go
          · rw [cnd_n (decide_eq_false (by omega))]
            exact K17 _ (by rw [take_n h])
        clear hk21 K9
        show stdW.cnd (decide ((i : Int) < (s.2.2.2.1.length : Int))) _ (k21 _) = r
        by_cases h : i < s.2.2.2.1.length
        · have hl : (s.2.2.2.1.take i).length ≤ 20 := by rw [List.length_take]; omega
          rw [cnd_lt h, idx_w h, two_w]
          show stdW.room ((s.2.2.2.1.take i).length + 1) 24 (k21 _) = r
          rw [room_w (by omega) (by omega)]
          exact K21 _ (take_s h).symm
        · rw [cnd_n (decide_eq_false (by omega))]
          exact K21 _ (take_n h).symm
      clear hk23 K9
      show stdW.cnd (decide ((i : Int) < (s.2.1.length : Int))) _ (k23 _) = r
      by_cases h : i < s.2.1.length
      · have hl : (s.2.1.take i).length ≤ 20 := by rw [List.length_take]; omega
        rw [cnd_lt h, idx_w h, two_w]
        show stdW.room ((s.2.1.take i).length + 1) 32 (k23 _) = r
        rw [room_w (by omega) (by omega)]
        exact K23 _ (take_s h).symm
      · rw [cnd_n (decide_eq_false (by omega))]
        exact K23 _ (take_n h).symm
end Go.Proofs.YtllkmncnmlmefaaGreat

namespace Go.Proofs.YtllkmncnmlmefaaGreat
open Go Go.Vc Go.RowKit
set_option synthInstance.maxSize 100000
set_option synthInstance.maxHeartbeats 0
set_option maxRecDepth 1000000
/-! ### LedgerEncodes -/
theorem r_lives33 : law33_lives = some true := by kernel_rfl
theorem flat_le {α : Type} {f : α → List Int} {k : Nat} : ∀ {l : List α}, (∀ x ∈ l, (f x).length ≤ k) → (l.flatMap f).length ≤ k * l.length
  | [], _ => by simp
  | x :: l, h => by
    have h1 := h x List.mem_cons_self
    have h2 := flat_le (l := l) fun y hy => h y (List.mem_cons_of_mem _ hy)
    rw [List.flatMap_cons, List.length_append, List.length_cons, Nat.mul_succ]; omega
theorem nL_le {α : Type} {f : α → List Int} {k n : Nat} {l : List α} (h : ∀ x ∈ l, (f x).length ≤ k) (hl : l.length ≤ n) : (nL f l).length ≤ 1 + k * n := by
  have h1 := flat_le h
  have h2 := Nat.mul_le_mul_left k hl
  unfold nL
  rw [List.length_cons]; omega
def allI (l : List Int) : Prop := ∀ n ∈ l, Is64 n
theorem allI.app {a b : List Int} (h : allI a) (k : allI b) : allI (a ++ b) := fun n hn => (List.mem_append.1 hn).elim (h n) (k n)
theorem allI.nL {α : Type} {f : α → List Int} {l : List α} (h : ∀ x ∈ l, allI (f x)) (hl : l.length ≤ 9223372036854775807) : allI (nL f l) := fun n hn => by
  unfold Go.Proofs.YtllkmncnmlmefaaGreat.nL at hn
  rcases List.mem_cons.1 hn with rfl | hn
  · unfold Is64; omega
  · obtain ⟨x, hx, hn⟩ := List.mem_flatMap.1 hn
    exact h x hx n hn
theorem allI.one {n : Int} (h : Is64 n) : allI [n] := fun m hm => by rw [List.mem_singleton.1 hm]; exact h
theorem allI.cons {n : Int} {l : List Int} (h : Is64 n) (k : allI l) : allI (n :: l) := fun m hm => (List.mem_cons.1 hm).elim (fun e => e ▸ h) (k m)
theorem allI.nil : allI [] := fun _ h => by cases h
/-- all numbers of a state are of 64 bits -/
structure NumS (s : AState') : Prop where
  d : Is64 s.1
  m : ∀ x ∈ s.2.1, allI (nM x)
  i : ∀ x ∈ s.2.2.1, allI [x.1, x.2.1, x.2.2.1, x.2.2.2.1] ∧ allI x.2.2.2.2.1
  a : ∀ x ∈ s.2.2.2.1, allI (nA x)
  ac : ∀ x ∈ s.2.2.2.2.1, allI [x.1, x.2.1, x.2.2.1] ∧ allI x.2.2.2.1
  c : ∀ x ∈ s.2.2.2.2.2.1, allI (nC x)
  g : ∀ x ∈ s.2.2.2.2.2.2.1, allI (nG x)
  v : ∀ x ∈ s.2.2.2.2.2.2.2.1, allI (nV x)
  b : ∀ x ∈ s.2.2.2.2.2.2.2.2.1, allI (nU x.1) ∧ ∀ y ∈ x.2.1, allI (nU y)
  s' : ∀ x ∈ s.2.2.2.2.2.2.2.2.2.1, allI (nU x.1) ∧ ∀ y ∈ x.2.1, allI (nU y)
  p : ∀ x ∈ s.2.2.2.2.2.2.2.2.2.2.1, allI (nF x)
  h : ∀ x ∈ s.2.2.2.2.2.2.2.2.2.2.2.1, allI (nU x.1) ∧ ∀ y ∈ x.2.1, allI (nA y)
theorem NumS.all {s : AState'} (N : NumS s) {n : Nat} (hn : n ≤ 9223372036854775807) (L : LenS s n) : allI (nS s) := by
  have ml : ∀ {m : Nat}, m ≤ n → m ≤ 9223372036854775807 := fun h => Nat.le_trans h hn
  have hP : ∀ x : APos', allI (nU x.1) → (∀ y ∈ x.2.1, allI (nU y)) → x.2.1.length ≤ n → allI (nP x) := fun x h1 h2 h3 => h1.app (allI.nL h2 (ml h3))
  refine (allI.one N.d).app (((allI.nL N.m (ml L.m)).app ((allI.nL (fun x hx => ?_) (ml L.i)).app (allI.nL N.a (ml L.a)))).app (((allI.nL (fun x hx => ?_) (ml L.ac)).app (allI.nL N.c (ml L.c))).app (((allI.nL N.g (ml L.g)).app (allI.nL N.v (ml L.v))).app
    ((allI.nL (fun x hx => hP x (N.b x hx).1 (N.b x hx).2 (L.bm x hx)) (ml L.b)).app ((allI.nL (fun x hx => hP x (N.s' x hx).1 (N.s' x hx).2 (L.sm x hx)) (ml L.s')).app ((allI.nL N.p (ml L.p)).app (allI.nL (fun x hx => ?_) (ml L.h))))))))
  · exact (N.i x hx).1.app (allI.nL (fun y hy => allI.one ((N.i x hx).2 y hy)) (ml (L.im x hx)))
  · exact (N.ac x hx).1.app (allI.nL (fun y hy => allI.one ((N.ac x hx).2 y hy)) (ml (L.acm x hx)))
  · exact (N.h x hx).1.app (allI.nL (N.h x hx).2 (ml (L.hm x hx)))
/-- a state whose rows are short has few numbers -/
theorem LenS.few {s : AState'} {n : Nat} (L : LenS s n) : (nS s).length ≤ 40 * (n + 1) * (n + 1) := by
  have k : ∀ a b c : Nat, a ≤ 1 + b * n → b ≤ c → a ≤ 1 + c * n := fun a b c h1 h2 => Nat.le_trans h1 (by have := Nat.mul_le_mul_right n h2; omega)
  have h1 := nL_le (f := nM) (k := 4) (fun x _ => by simp [nM]) L.m
  have h2 := nL_le (f := nI) (k := 5 + n) (fun x hx => by have := L.im x hx; unfold nI nL; rw [flat1]; simp only [List.length_append, List.length_cons, List.length_nil]; omega) L.i
  have h3 := nL_le (f := nA) (k := 3) (fun x _ => by simp [nA]) L.a
  have h4 := nL_le (f := nAc) (k := 4 + n) (fun x hx => by have := L.acm x hx; unfold nAc nL; rw [flat1]; simp only [List.length_append, List.length_cons, List.length_nil]; omega) L.ac
  have h5 := nL_le (f := nC) (k := 5) (fun x _ => by simp [nC, nU]) L.c
  have h6 := nL_le (f := nG) (k := 6) (fun x _ => by simp [nG, nU]) L.g
  have h7 := nL_le (f := nV) (k := 11) (fun x _ => by simp [nV, nU]) L.v
  have hp : ∀ x : APos', x.2.1.length ≤ n → (nP x).length ≤ 3 + 2 * n := fun x hx => by
    have := nL_le (f := nU) (k := 2) (fun x _ => by simp [nU]) hx
    unfold nP; rw [List.length_append]
    have e : (nU x.1).length = 2 := rfl
    omega
  have h8 := nL_le (f := nP) (k := 3 + 2 * n) (fun x hx => hp x (L.bm x hx)) L.b
  have h9 := nL_le (f := nP) (k := 3 + 2 * n) (fun x hx => hp x (L.sm x hx)) L.s'
  have h10 := nL_le (f := nF) (k := 3) (fun x _ => by simp [nF, nU]) L.p
  have h11 := nL_le (f := nH) (k := 3 + 3 * n) (fun x hx => by
    have := nL_le (f := nA) (k := 3) (fun x _ => by simp [nA]) (L.hm x hx)
    unfold nH; rw [List.length_append]
    have e : (nU x.1).length = 2 := rfl
    omega) L.h
  unfold nS nT nAs nDs nMo
  simp only [List.length_append, List.length_cons, List.length_nil]
  simp only [Nat.add_mul] at h2 h4 h8 h9 h11
  have e : 40 * (n + 1) * (n + 1) = 40 * (n * n) + 80 * n + 40 := by
    have e0 : (n + 1) * (n + 1) = n * n + 2 * n + 1 := by rw [Nat.add_mul, Nat.mul_add]; omega
    rw [Nat.mul_assoc, e0]; omega
  have e2 : 2 * n * n = 2 * (n * n) := Nat.mul_assoc ..
  have e3 : 3 * n * n = 3 * (n * n) := Nat.mul_assoc ..
  rw [e2] at h8 h9
  rw [e3] at h11
  omega
theorem take_le {α : Type} (l : List α) {k n : Nat} (h : k ≤ n) : (l.take k).length ≤ n := by rw [List.length_take]; omega
theorem few33_len (s : AState') : LenS (few33 s) 70 := by
  have h19 : ∀ l : List APos', (few19L l).length ≤ 70 := fun l => by unfold few19L; rw [List.length_map]; exact take_le _ (by decide)
  have h19m : ∀ l : List APos', ∀ x ∈ few19L l, x.2.1.length ≤ 70 := fun l x hx => by
    obtain ⟨y, _, rfl⟩ := List.mem_map.1 hx
    exact take_le _ (by decide)
  refine ⟨take_le _ (by decide), by unfold few33; rw [List.length_map]; exact take_le _ (by decide), fun x hx => ?_, take_le _ (by decide), by unfold few33; rw [List.length_map]; exact take_le _ (by decide), fun x hx => ?_, take_le _ (by decide), take_le _ (by decide), take_le _ (by decide), h19 _, h19m _, h19 _, h19m _, take_le _ (by decide), by unfold few33 few26; rw [List.length_map]; exact take_le _ (by decide), fun x hx => ?_⟩
  · obtain ⟨y, _, rfl⟩ := List.mem_map.1 hx
    exact take_le _ (by decide)
  · obtain ⟨y, _, rfl⟩ := List.mem_map.1 hx
    exact take_le _ (by decide)
  · obtain ⟨y, _, rfl⟩ := List.mem_map.1 hx
    exact take_le _ (by decide)
theorem few33_num {s : AState'} (N : NumS s) : NumS (few33 s) := by
  have h19 : ∀ l : List APos', (∀ x ∈ l, allI (nU x.1) ∧ ∀ y ∈ x.2.1, allI (nU y)) → ∀ x ∈ few19L l, allI (nU x.1) ∧ ∀ y ∈ x.2.1, allI (nU y) := fun l h x hx => by
    obtain ⟨y, hy, rfl⟩ := List.mem_map.1 hx
    have := h y (List.mem_of_mem_take hy)
    exact ⟨this.1, fun z hz => this.2 z (List.mem_of_mem_take hz)⟩
  refine ⟨N.d, fun x hx => N.m x (List.mem_of_mem_take hx), fun x hx => ?_, fun x hx => N.a x (List.mem_of_mem_take hx), fun x hx => ?_, fun x hx => N.c x (List.mem_of_mem_take hx), fun x hx => N.g x (List.mem_of_mem_take hx), fun x hx => N.v x (List.mem_of_mem_take hx), h19 _ N.b, h19 _ N.s', fun x hx => N.p x (List.mem_of_mem_take hx), fun x hx => ?_⟩
  · obtain ⟨y, hy, rfl⟩ := List.mem_map.1 hx
    have := N.i y (List.mem_of_mem_take hy)
    exact ⟨this.1, fun z hz => this.2 z (List.mem_of_mem_take hz)⟩
  · obtain ⟨y, hy, rfl⟩ := List.mem_map.1 hx
    have := N.ac y (List.mem_of_mem_take hy)
    exact ⟨this.1, fun z hz => this.2 z (List.mem_of_mem_take hz)⟩
  · obtain ⟨y, hy, rfl⟩ := List.mem_map.1 hx
    have := N.h y (List.mem_of_mem_take hy)
    exact ⟨this.1, fun z hz => this.2 z (List.mem_of_mem_take hz)⟩
/-- what is known of an argument -/
theorem okD_led {x : DT.den tAState} (o : DT.okD tAState x) : NumS x ∧ LenS x 9223372036854775807 := by
  obtain ⟨d, m, i, a, ac, c, g, v, b, sl, p, h, _⟩ := o
  have hm : maxLen = 9223372036854775807 := maxLen_eq
  rw [← hm]
  have w : ∀ {n : Int}, (Lit.int .i64 n).wf = true → Is64 n := fun h => wf_i64 h
  have nb : ∀ b : Bool, Is64 (nB b) := fun b => by cases b <;> (unfold nB Is64; simp)
  refine ⟨⟨w d, fun x hx => ?_, fun x hx => ?_, fun x hx => ?_, fun x hx => ?_, fun x hx => ?_, fun x hx => ?_, fun x hx => ?_, fun x hx => ?_, fun x hx => ?_, fun x hx => ?_, fun x hx => ?_⟩,
    ⟨m.2, i.2, fun x hx => (i.1 x hx).2.2.2.2.1.2, a.2, ac.2, fun x hx => (ac.1 x hx).2.2.2.1.2, c.2, g.2, v.2, b.2, fun x hx => (b.1 x hx).2.1.2, sl.2, fun x hx => (sl.1 x hx).2.1.2, p.2, h.2, fun x hx => (h.1 x hx).2.1.2⟩⟩
  · obtain ⟨a1, a2, a3, a4, _⟩ := m.1 x hx
    exact .cons (w a1) (.cons (w a2) (.cons (w a3) (.cons (w a4) .nil)))
  · obtain ⟨a1, a2, a3, a4, a5, _⟩ := i.1 x hx
    exact ⟨.cons (w a1) (.cons (w a2) (.cons (w a3) (.cons (w a4) .nil))), fun n hn => w (a5.1 n hn)⟩
  · obtain ⟨a1, a2, a3, _⟩ := a.1 x hx
    exact .cons (w a1) (.cons (w a2) (.cons (w a3) .nil))
  · obtain ⟨a1, a2, a3, a4, _⟩ := ac.1 x hx
    exact ⟨.cons (w a1) (.cons (w a2) (.cons (w a3) .nil)), fun n hn => w (a4.1 n hn)⟩
  · obtain ⟨⟨a1, a2, _⟩, ⟨a3, a4, _⟩, _⟩ := c.1 x hx
    exact .cons (w a1) (.cons (w a2) (.cons (w a3) (.cons (w a4) (.cons (nb _) .nil))))
  · obtain ⟨a1, ⟨a2, a3, _⟩, a4, a5, a6, _⟩ := g.1 x hx
    exact .cons (w a1) (.cons (w a2) (.cons (w a3) (.cons (w a4) (.cons (w a5) (.cons (w a6) .nil)))))
  · obtain ⟨a1, ⟨a2, a3, _⟩, ⟨a4, a5, _⟩, ⟨a6, a7, _⟩, a8, a9, a10, a11, _⟩ := v.1 x hx
    exact .cons (w a1) (.cons (w a2) (.cons (w a3) (.cons (w a4) (.cons (w a5) (.cons (w a6) (.cons (w a7) (.cons (w a8) (.cons (w a9) (.cons (w a10) (.cons (w a11) .nil))))))))))
  · obtain ⟨⟨a1, a2, _⟩, a3, _⟩ := b.1 x hx
    exact ⟨.cons (w a1) (.cons (w a2) .nil), fun y hy => .cons (w (a3.1 y hy).1) (.cons (w (a3.1 y hy).2.1) .nil)⟩
  · obtain ⟨⟨a1, a2, _⟩, a3, _⟩ := sl.1 x hx
    exact ⟨.cons (w a1) (.cons (w a2) .nil), fun y hy => .cons (w (a3.1 y hy).1) (.cons (w (a3.1 y hy).2.1) .nil)⟩
  · obtain ⟨⟨a1, a2, _⟩, a3, _⟩ := p.1 x hx
    exact .cons (w a1) (.cons (w a2) (.cons (w a3) .nil))
  · obtain ⟨⟨a1, a2, _⟩, a3, _⟩ := h.1 x hx
    exact ⟨.cons (w a1) (.cons (w a2) .nil), fun y hy => .cons (w (a3.1 y hy).1) (.cons (w (a3.1 y hy).2.1) (.cons (w (a3.1 y hy).2.2.1) .nil))⟩
theorem few33_okN {s : AState'} (N : NumS s) : okN [] (nS (few33 s)) := by
  have L := few33_len s
  have h := L.few
  exact ⟨(few33_num N).all (by decide) L, by simp only [List.length_nil]; omega, by omega⟩
theorem encodes_true (x0 : DT.den tAState) (o0 : DT.okD tAState x0) : law33_LedgerEncodesW stdW x0 = some true := by
  obtain ⟨N, L⟩ := okD_led o0
  have k := few33_okN N
  have hb := k.bytes
  rw [List.nil_append] at hb
  have hn := encs_len k.1
  have hl := (few33_len x0).few
  unfold law33_LedgerEncodesW
  rw [call_eq (show law33_FewW stdW x0 = some (few33 x0) from r_few33L L), call_eq (show ledger_EncodeW stdW (few33 x0) = _ from w_encode k), call_eq (show ref33_EncodeW stdW (few33 x0) = _ from rf_encode k)]
  rw [call_eq (show ref01_SameW stdW (encs (nS (few33 x0))) (encs (nS (few33 x0))) = some (decide _) from r_sameB (by omega)), cnd_y (by simp)]
  rw [call_eq (show law33_livesW stdW = _ from r_lives33)]
end Go.Proofs.YtllkmncnmlmefaaGreat

namespace Go.Proofs.YtllkmncnmlmefaaGreat
open Go Go.Vc Go.RowKit
set_option synthInstance.maxSize 100000
set_option synthInstance.maxHeartbeats 0
/-! ### readers of rows of bytes -/
abbrev Rs := List Int × Int
abbrev Rd (α : Type) := Rs → α × Rs
abbrev RF (α : Type) := Bool → List Int → Int → Option (α × (Bool × List Int × Int × Unit))
def okR (s : Rs) : Prop := Bt s.1 ∧ s.1.length ≤ 100000000
def resR {α : Type} (x : α × Rs) : α × (Bool × List Int × Int × Unit) := (x.1, (true, (x.2.1, (x.2.2, ()))))
structure Rl {α : Type} (f : RF α) (R : Rd α) : Prop where
  run : ∀ s, okR s → f true s.1 s.2 = some (resR (R s))
  ok : ∀ s, okR s → okR (R s).2
structure Gd {α : Type} (R : Rd α) (f : α → List Int) (P : α → Prop) : Prop where
  err : ∀ s, (R s).2.2 = 0 → s.2 = 0
  enc : ∀ a r, P a → allI (f a) → R (encs (f a) ++ r, 0) = (a, (r, 0))
  dec : ∀ s, Bt s.1 → s.2 = 0 → (R s).2.2 = 0 → s.1 = encs (f (R s).1) ++ (R s).2.1 ∧ allI (f (R s).1) ∧ P (R s).1
  bt : ∀ s, Bt s.1 → Bt (R s).2.1
def rU : Rd Unit := fun s => ((), s)
def rX {α β : Type} (R : Rd α) (Q : Rd β) : Rd (α × β) := fun s => (((R s).1, (Q (R s).2).1), (Q (R s).2).2)
def rNum : Rd Int := rd (-9223372036854775808) 9223372036854775807
def rFlag : Rd Bool := fun s => (((rd 0 1 s).1 == 1), (rd 0 1 s).2)
def rMany {α : Type} (R : Rd α) : Nat → List α → Rs → List α × Rs
  | 0, a, s => (a, s)
  | n + 1, a, s => if s.2 = 0 then rMany R n (a ++ [(R s).1]) (R s).2 else (a, s)
def rList {α : Type} (R : Rd α) : Rd (List α) := fun s => rMany R (rd 0 4096 s).1.toNat [] (rd 0 4096 s).2
theorem rdInt_len (bs : List Int) (e lo hi : Int) : (rdInt bs e lo hi).2.1.length ≤ bs.length := by
  have hs := numS_len bs 0 0
  unfold rdInt
  split
  · exact Nat.le_refl _
  · cases hN : numS 0 0 bs with
    | mk o p =>
      rw [hN] at hs
      cases o with
      | none => exact hs
      | some u =>
        show (if unf u < lo ∨ hi < unf u then ((0 : Int), (([] : List Int), (7 : Int))) else (unf u, p.1, p.2)).2.1.length ≤ _
        split
        · exact Nat.zero_le _
        · exact hs
theorem rd_ok (lo hi : Int) (s : Rs) (h : okR s) : okR (rd lo hi s).2 := ⟨rdInt_bytes s.1 s.2 lo hi h.1, Nat.le_trans (rdInt_len ..) h.2⟩
theorem rd_err (lo hi : Int) (s : Rs) (h : (rd lo hi s).2.2 = 0) : s.2 = 0 := rdInt_err _ _ _ _ h
theorem rd_enc (lo hi n : Int) (hn : Is64 n) (r : List Int) (h : lo ≤ n ∧ n ≤ hi) : rd lo hi (encs [n] ++ r, 0) = (n, (r, 0)) := by
  have := rdInt_enc n hn lo hi r h
  rw [encs_one]
  show ((rdInt (encU (fold n) ++ r) 0 lo hi).1, ((rdInt (encU (fold n) ++ r) 0 lo hi).2.1, (rdInt (encU (fold n) ++ r) 0 lo hi).2.2)) = _
  rw [this]
theorem rd_dec (lo hi : Int) (s : Rs) (hb : Bt s.1) (he : s.2 = 0) (h : (rd lo hi s).2.2 = 0) : s.1 = encs [(rd lo hi s).1] ++ (rd lo hi s).2.1 ∧ Is64 (rd lo hi s).1 := by
  rw [encs_one]; exact rdInt_canon' s.1 s.2 lo hi hb he h
theorem rd_in (lo hi : Int) (s : Rs) (h : (rd lo hi s).2.2 = 0) : lo ≤ (rd lo hi s).1 ∧ (rd lo hi s).1 ≤ hi := by
  have h' : (rdInt s.1 s.2 lo hi).2.2 = 0 := h
  show lo ≤ (rdInt s.1 s.2 lo hi).1 ∧ (rdInt s.1 s.2 lo hi).1 ≤ hi
  have he := rdInt_err _ _ _ _ h'
  rw [he] at h' ⊢
  have hn := numS_none s.1 0 0
  unfold rdInt at h' ⊢
  rw [if_neg (by omega)] at h' ⊢
  cases hN : numS 0 0 s.1 with
  | mk o p =>
    rw [hN] at h' hn
    cases o with
    | none => exact (hn p.1 (by rw [← h'])).elim
    | some u =>
      replace h' : (if unf u < lo ∨ hi < unf u then ((0 : Int), (([] : List Int), (7 : Int))) else (unf u, p.1, p.2)).2.2 = 0 := h'
      show lo ≤ (if unf u < lo ∨ hi < unf u then ((0 : Int), (([] : List Int), (7 : Int))) else (unf u, p.1, p.2)).1 ∧ (if unf u < lo ∨ hi < unf u then ((0 : Int), (([] : List Int), (7 : Int))) else (unf u, p.1, p.2)).1 ≤ hi
      split at h'
      · exact absurd h' (by decide)
      · rename_i hh; rw [if_neg hh]; omega
/-! ### which readers are good -/
theorem gd_num : Gd rNum (fun n => [n]) (fun _ => True) where
  err := rd_err _ _
  enc a r _ h := rd_enc _ _ a (h a (List.mem_singleton.2 rfl)) r (h a (List.mem_singleton.2 rfl))
  dec s hb he h := ⟨(rd_dec _ _ s hb he h).1, allI.one (rd_dec _ _ s hb he h).2, trivial⟩
  bt s h := rdInt_bytes s.1 s.2 _ _ h
theorem gd_flag : Gd rFlag (fun b => [nB b]) (fun _ => True) where
  err := rd_err _ _
  enc a r _ h := by
    have := rd_enc 0 1 (nB a) (h _ (List.mem_singleton.2 rfl)) r (by cases a <;> decide)
    unfold rFlag
    rw [this]
    cases a <;> rfl
  dec s hb he h := by
    have h1 := rd_dec 0 1 s hb he h
    have h2 := rd_in 0 1 s h
    have e : nB ((rd 0 1 s).1 == 1) = (rd 0 1 s).1 := by
      have : (rd 0 1 s).1 = 0 ∨ (rd 0 1 s).1 = 1 := by omega
      rcases this with h | h <;> rw [h] <;> rfl
    refine ⟨?_, ?_, trivial⟩
    · show s.1 = encs [nB ((rd 0 1 s).1 == 1)] ++ (rd 0 1 s).2.1
      rw [e]; exact h1.1
    · show allI [nB ((rd 0 1 s).1 == 1)]
      rw [e]; exact allI.one h1.2
  bt s h := rdInt_bytes s.1 s.2 _ _ h
theorem gd_u : Gd rU (fun _ => []) (fun _ => True) where
  err _ h := h
  enc a r _ _ := rfl
  dec s hb he h := ⟨rfl, allI.nil, trivial⟩
  bt s h := h
theorem Gd.x {α β : Type} {R : Rd α} {Q : Rd β} {f : α → List Int} {g : β → List Int} {P : α → Prop} {S : β → Prop} (hR : Gd R f P) (hQ : Gd Q g S) : Gd (rX R Q) (fun x => f x.1 ++ g x.2) (fun x => P x.1 ∧ S x.2) where
  err s h := hR.err s (hQ.err _ h)
  enc a r h hi := by
    have h1 := hR.enc a.1 (encs (g a.2) ++ r) h.1 fun n hn => hi n (List.mem_append_left _ hn)
    have h2 := hQ.enc a.2 r h.2 fun n hn => hi n (List.mem_append_right _ hn)
    show (((R _).1, (Q (R _).2).1), (Q (R _).2).2) = _
    rw [encs_app, List.append_assoc, h1, h2]
  dec s hb he h := by
    have e1 := hQ.err _ h
    have h1 := hR.dec s hb he e1
    have h2 := hQ.dec _ (hR.bt s hb) e1 h
    refine ⟨?_, h1.2.1.app h2.2.1, h1.2.2, h2.2.2⟩
    show s.1 = encs (f (R s).1 ++ g (Q (R s).2).1) ++ (Q (R s).2).2.1
    rw [encs_app, List.append_assoc, ← h2.1]
    exact h1.1
  bt s h := hQ.bt _ (hR.bt s h)
theorem Gd.c {α : Type} {R : Rd α} {f g : α → List Int} {P : α → Prop} (h : Gd R f P) (e : ∀ x, g x = f x) : Gd R g P := by
  have : g = f := funext e
  subst this; exact h
def okLs {α : Type} (P : α → Prop) (l : List α) : Prop := l.length ≤ 4096 ∧ ∀ x ∈ l, P x
theorem many_err {α : Type} {R : Rd α} (hR : ∀ s, (R s).2.2 = 0 → s.2 = 0) : ∀ (n : Nat) (a : List α) (s : Rs), (rMany R n a s).2.2 = 0 → s.2 = 0
  | 0, _, _, h => h
  | n + 1, a, s, h => by
    unfold rMany at h
    split at h
    · assumption
    · exact h
theorem many_enc {α : Type} {R : Rd α} {f : α → List Int} {P : α → Prop} (hR : Gd R f P) : ∀ (l a : List α) (r : List Int), (∀ x ∈ l, P x) → allI (l.flatMap f) → rMany R l.length a (encs (l.flatMap f) ++ r, 0) = (a ++ l, (r, 0))
  | [], a, r, _, _ => by rw [List.append_nil]; rfl
  | x :: l, a, r, h, hi => by
    rw [List.flatMap_cons] at hi ⊢
    have h1 := hR.enc x (encs (l.flatMap f) ++ r) (h x List.mem_cons_self) fun n hn => hi n (List.mem_append_left _ hn)
    show (if (0 : Int) = 0 then rMany R l.length (a ++ [(R _).1]) (R _).2 else _) = _
    rw [if_pos rfl, encs_app, List.append_assoc, h1, many_enc hR l _ r (fun y hy => h y (List.mem_cons_of_mem _ hy)) fun n hn => hi n (List.mem_append_right _ hn), List.append_assoc]
    rfl
theorem many_dec {α : Type} {R : Rd α} {f : α → List Int} {P : α → Prop} (hR : Gd R f P) : ∀ (n : Nat) (a : List α) (s : Rs), Bt s.1 → (rMany R n a s).2.2 = 0 →
    ∃ l : List α, (rMany R n a s).1 = a ++ l ∧ l.length = n ∧ s.1 = encs (l.flatMap f) ++ (rMany R n a s).2.1 ∧ allI (l.flatMap f) ∧ ∀ x ∈ l, P x
  | 0, a, s, _, _ => ⟨[], by rw [List.append_nil]; rfl, rfl, rfl, allI.nil, fun _ h => by cases h⟩
  | n + 1, a, s, hb, h => by
    have he : s.2 = 0 := many_err hR.err (n + 1) a s h
    have e : rMany R (n + 1) a s = rMany R n (a ++ [(R s).1]) (R s).2 := by
      show (if s.2 = 0 then _ else _) = _
      rw [if_pos he]
    rw [e] at h ⊢
    have e1 := many_err hR.err n _ _ h
    have h1 := hR.dec s hb he e1
    obtain ⟨l, h2, h3, h4, h5, h6⟩ := many_dec hR n (a ++ [(R s).1]) (R s).2 (hR.bt s hb) h
    refine ⟨(R s).1 :: l, ?_, ?_, ?_, ?_, ?_⟩
    · rw [h2, List.append_assoc]; rfl
    · rw [List.length_cons, h3]
    · rw [List.flatMap_cons, encs_app, List.append_assoc, ← h4]; exact h1.1
    · rw [List.flatMap_cons]; exact h1.2.1.app h5
    · exact fun x hx => (List.mem_cons.1 hx).elim (fun e => e ▸ h1.2.2) (h6 x)
theorem many_bt {α : Type} {R : Rd α} (hR : ∀ s, Bt s.1 → Bt (R s).2.1) : ∀ (n : Nat) (a : List α) (s : Rs), Bt s.1 → Bt (rMany R n a s).2.1
  | 0, _, _, h => h
  | n + 1, a, s, h => by
    unfold rMany
    split
    · exact many_bt hR n _ _ (hR s h)
    · exact h
theorem Gd.list {α : Type} {R : Rd α} {f : α → List Int} {P : α → Prop} (hR : Gd R f P) : Gd (rList R) (nL f) (okLs P) where
  err s h := rd_err _ _ s (many_err hR.err _ _ _ h)
  enc l r h hi := by
    have h1 := rd_enc 0 4096 (l.length : Int) (hi _ List.mem_cons_self) (encs (l.flatMap f) ++ r) (by have := h.1; omega)
    have h2 := many_enc hR l [] r h.2 fun n hn => hi n (List.mem_cons_of_mem _ hn)
    have e : encs (nL f l) ++ r = encs [(l.length : Int)] ++ (encs (l.flatMap f) ++ r) := by
      rw [← List.append_assoc, ← encs_app]; rfl
    show rMany R (rd 0 4096 _).1.toNat [] (rd 0 4096 _).2 = _
    rw [e, h1]
    exact h2
  dec s hb he h := by
    have e1 := many_err hR.err _ _ _ h
    have h1 := rd_dec 0 4096 s hb he e1
    have h2 := rd_in 0 4096 s e1
    obtain ⟨l, g2, g3, g4, g5, g6⟩ := many_dec hR _ [] _ (rdInt_bytes s.1 s.2 _ _ hb) h
    have el : (rList R s).1 = l := g2
    have en : (rd 0 4096 s).1 = (l.length : Int) := by omega
    rw [el]
    refine ⟨?_, ?_, ?_, g6⟩
    · have e : encs (nL f l) = encs [(l.length : Int)] ++ encs (l.flatMap f) := by rw [← encs_app]; rfl
      rw [e, List.append_assoc, ← en]
      exact h1.1.trans (congrArg (encs [(rd 0 4096 s).1] ++ ·) g4)
    · refine allI.cons ?_ g5
      rw [← en]; exact h1.2
    · show l.length ≤ 4096; omega
  bt s h := many_bt hR.bt _ _ _ (rdInt_bytes s.1 s.2 _ _ h)
end Go.Proofs.YtllkmncnmlmefaaGreat

namespace Go.Proofs.YtllkmncnmlmefaaGreat
open Go Go.Vc Go.RowKit
set_option synthInstance.maxSize 100000
set_option synthInstance.maxHeartbeats 0
/-! ### the readers' lifts -/
abbrev LsT (α : Type) := Int × Bool × List Int × Int × List α × Unit
def listF {α : Type} (k : Nat) (f : RF α) : RF (List α) := fun r0 r1 r2 =>
 stdW.join (fun (z1 : Bool × List Int × Int × List α × Unit) => some (z1.2.2.2.1, (U3 z1 ())))
  fun k2 => stdW.call (pack_Reader_IntW stdW r0 r1 r2 0 4096) fun v3 =>
  stdW.loop (fun (z4 : LsT α) again5 =>
   stdW.cnd (decide (0 < z4.1)) (stdW.call (pack_Reader_ErrW stdW z4.2.1 z4.2.2.1 z4.2.2.2.1) fun v6 =>
    stdW.cnd (v6.1 == 0) (stdW.call (f v6.2.1 v6.2.2.1 v6.2.2.2.1) fun v7 => stdW.room (z4.2.2.2.2.1.length + (v7.1 :: []).length) k ((again5 ((IntKind.i64.wrap (z4.1 - 1)), (U3 v7.2 ((z4.2.2.2.2.1 ++ (v7.1 :: [])), ()))))))
     ((k2 (U3 v6.2 z4.2.2.2.2))))
    ((k2 z4.2)))
   (U4 v3 ([], ()))
theorem rl_int (lo hi : Int) : Rl (fun a b c => pack_Reader_IntW stdW a b c lo hi) (rd lo hi) where
  run s h := r_pInt (lo := lo) (hi := hi) (s := s) h.1 (by have := h.2; omega)
  ok := rd_ok lo hi
theorem many_ok {α : Type} {R : Rd α} (hR : ∀ s, okR s → okR (R s).2) : ∀ (n : Nat) (a : List α) (s : Rs), okR s → okR (rMany R n a s).2
  | 0, _, _, h => h
  | n + 1, a, s, h => by
    unfold rMany
    split
    · exact many_ok hR n _ _ (hR s h)
    · exact h
theorem rd_nat (s : Rs) : (rd 0 4096 s).1 = (((rd 0 4096 s).1.toNat : Nat) : Int) ∧ (rd 0 4096 s).1.toNat ≤ 4096 := by
  have : 0 ≤ (rd 0 4096 s).1 ∧ (rd 0 4096 s).1 ≤ 4096 := by
    show 0 ≤ (rdInt s.1 s.2 0 4096).1 ∧ (rdInt s.1 s.2 0 4096).1 ≤ 4096
    unfold rdInt
    split
    · exact ⟨Int.le_refl 0, (by decide : (0 : Int) ≤ 4096)⟩
    · split
      · exact ⟨Int.le_refl 0, (by decide : (0 : Int) ≤ 4096)⟩
      · split
        · exact ⟨Int.le_refl 0, (by decide : (0 : Int) ≤ 4096)⟩
        · rename_i h; constructor <;> (show _ ≤ _; omega)
  omega
theorem rl_list {α : Type} {k : Nat} (hk : k ≤ 1000000) {f : RF α} {R : Rd α} (h : Rl f R) : Rl (listF k f) (rList R) where
  run s hs := by
    unfold listF
    refine (call_eq ((rl_int 0 4096).run s hs) _).trans ?_
    have h1 := rd_nat s
    have h2 := rd_ok 0 4096 s hs
    unfold rList
    generalize rd 0 4096 s = v at h1 h2 ⊢
    obtain ⟨x, t⟩ := v
    obtain ⟨e, hn⟩ := h1
    show stdW.loop _ ((x, (true, (t.1, (t.2, ([], ()))))) : LsT α) = some (resR (rMany R x.toNat [] t))
    replace e : x = ((x.toNat : Nat) : Int) := e
    replace hn : x.toNat ≤ 4096 := hn
    generalize x.toNat = n at e hn
    subst e
    have key : ∀ (n m : Nat) (a : List α) (t : Rs), n < m → okR t → a.length + n ≤ 4096 →
        loopF m (fun (z4 : LsT α) again5 =>
          stdW.cnd (decide (0 < z4.1)) (stdW.call (pack_Reader_ErrW stdW z4.2.1 z4.2.2.1 z4.2.2.2.1) fun v6 =>
            stdW.cnd (v6.1 == 0) (stdW.call (f v6.2.1 v6.2.2.1 v6.2.2.2.1) fun v7 => stdW.room (z4.2.2.2.2.1.length + (v7.1 :: []).length) k ((again5 ((IntKind.i64.wrap (z4.1 - 1)), (U3 v7.2 ((z4.2.2.2.2.1 ++ (v7.1 :: [])), ()))))))
              (some ((U3 v6.2 z4.2.2.2.2).2.2.2.1, (U3 (U3 v6.2 z4.2.2.2.2) ()))))
            (some (z4.2.2.2.2.1, (U3 z4.2 ())))) (((n : Int), (true, (t.1, (t.2, (a, ()))))) : LsT α) = some (resR (rMany R n a t)) := by
      intro n
      induction n with
      | zero =>
        intro m a t hm ht ha
        cases m with
        | zero => omega
        | succ m => rfl
      | succ n ih =>
        intro m a t hm ht ha
        cases m with
        | zero => omega
        | succ m =>
          show stdW.cnd (decide (0 < ((n + 1 : Nat) : Int))) _ _ = _
          rw [decide_eq_true (by omega)]
          show stdW.cnd (t.2 == 0) (stdW.call (f true t.1 t.2) _) (some (resR (a, t))) = some (resR (if t.2 = 0 then rMany R n (a ++ [(R t).1]) (R t).2 else (a, t)))
          by_cases he : t.2 = 0
          · rw [if_pos he]
            have hb : (t.2 == 0) = true := by rw [he]; rfl
            rw [cnd_y hb, call_eq (h.run t ht)]
            have hl : (a ++ [(R t).1]).length ≤ 4096 := by rw [List.length_append, List.length_singleton]; omega
            refine (room_w (by show a.length + 1 ≤ _; omega) (Nat.le_trans (Nat.mul_le_mul (show a.length + 1 ≤ 4096 by omega) hk) (by decide)) _).trans ?_
            have e : IntKind.i64.wrap (((n + 1 : Nat) : Int) - 1) = (n : Int) := by rw [i64c _ (by omega)]; omega
            show loopF m _ ((IntKind.i64.wrap (((n + 1 : Nat) : Int) - 1), (true, ((R t).2.1, ((R t).2.2, (a ++ [(R t).1], ()))))) : LsT α) = _
            rw [e]
            exact ih m (a ++ [(R t).1]) (R t).2 (by omega) (h.ok t ht) (by rw [List.length_append, List.length_singleton]; omega)
          · have hb : (t.2 == 0) = false := by simp [he]
            rw [cnd_n hb, if_neg he]
    exact key n FU [] t (by rw [FU_eq]; omega) h2 (by show 0 + n ≤ 4096; omega)
  ok s hs := many_ok h.ok _ _ _ (rd_ok 0 4096 s hs)
theorem rl_num : Rl ledger_reader_num rNum where
  run s h := call_eq ((rl_int _ _).run s h) _
  ok := rd_ok _ _
theorem rl_long : Rl ledger_reader_long rNum where
  run s h := call_eq ((rl_int _ _).run s h) _
  ok := rd_ok _ _
end Go.Proofs.YtllkmncnmlmefaaGreat

/- printed by ldh.py: the ledger's readers. -/
namespace Go.Proofs.YtllkmncnmlmefaaGreat
open Go Go.Vc Go.RowKit
set_option synthInstance.maxSize 100000
set_option synthInstance.maxHeartbeats 0
theorem okRX {α β : Type} {R : Rd α} {Q : Rd β} (h : ∀ s, okR s → okR (R s).2) (k : ∀ s, okR s → okR (Q s).2) : ∀ s, okR s → okR (rX R Q s).2 := fun s hs => k _ (h s hs)
def pT {α : Type} : α → Prop := fun _ => True
def pX {α β : Type} (P : α → Prop) (Q : β → Prop) : α × β → Prop := fun x => P x.1 ∧ Q x.2
theorem okRU : ∀ s, okR s → okR (rU s).2 := fun _ h => h
theorem rl_flag : Rl (fun a b c => pack_Reader_IntW stdW a b c 0 1) (rd 0 1) := rl_int 0 1
def rUnit : Rd AUnit' := rX rNum (rX rNum rU)
def okUnitR : AUnit' → Prop := pX pT (pX pT pT)
theorem gd_unit : Gd rUnit nU okUnitR := Gd.c (gd_num.x (gd_num.x gd_u)) fun x => by
  simp only [nU, nU, nF, List.append_assoc, List.append_nil, List.cons_append, List.nil_append]
theorem rl_unit : Rl ledger_reader_unit rUnit where
  ok := okRX rl_num.ok (okRX rl_num.ok okRU)
  run s h := by
    show ledger_reader_unitW stdW true s.1 s.2 = _
    unfold ledger_reader_unitW
    refine (call_eq (rl_num.run s h) _).trans ?_
    have h1 := rl_num.ok s h
    refine (call_eq (rl_num.run _ h1) _).trans ?_
    have h2 := rl_num.ok _ h1
    rfl
theorem gd_leg : Gd rUnit nU okUnitR := gd_unit
theorem rl_leg : Rl ledger_reader_leg rUnit where
  ok := rl_unit.ok
  run s h := by
    show ledger_reader_legW stdW true s.1 s.2 = _
    unfold ledger_reader_legW
    refine (call_eq (rl_num.run s h) _).trans ?_
    have h1 := rl_num.ok s h
    refine (call_eq (rl_long.run _ h1) _).trans ?_
    have h2 := rl_long.ok _ h1
    rfl
def rLot : Rd ALot' := rX rNum (rX rNum (rX rNum rU))
def okLotR : ALot' → Prop := pX pT (pX pT (pX pT pT))
theorem gd_lot : Gd rLot nA okLotR := Gd.c (gd_num.x (gd_num.x (gd_num.x gd_u))) fun x => by
  simp only [nA, nU, nF, List.append_assoc, List.append_nil, List.cons_append, List.nil_append]
theorem rl_lot : Rl ledger_reader_lot rLot where
  ok := okRX rl_num.ok (okRX rl_num.ok (okRX rl_long.ok okRU))
  run s h := by
    show ledger_reader_lotW stdW true s.1 s.2 = _
    unfold ledger_reader_lotW
    refine (call_eq (rl_num.run s h) _).trans ?_
    have h1 := rl_num.ok s h
    refine (call_eq (rl_num.run _ h1) _).trans ?_
    have h2 := rl_num.ok _ h1
    refine (call_eq (rl_long.run _ h2) _).trans ?_
    have h3 := rl_long.ok _ h2
    rfl
def rM : Rd AMember' := rX rNum (rX rNum (rX rNum (rX rNum rU)))
def okMR : AMember' → Prop := pX pT (pX pT (pX pT (pX pT pT)))
theorem gd_M : Gd rM nM okMR := Gd.c (gd_num.x (gd_num.x (gd_num.x (gd_num.x gd_u)))) fun x => by
  simp only [nM, nU, nF, List.append_assoc, List.append_nil, List.cons_append, List.nil_append]
theorem rl_M : Rl ledger_reader_tables_1 rM where
  ok := okRX rl_num.ok (okRX rl_long.ok (okRX rl_num.ok (okRX rl_num.ok okRU)))
  run s h := by
    show ledger_reader_tables_1W stdW true s.1 s.2 = _
    unfold ledger_reader_tables_1W
    refine (call_eq (rl_num.run s h) _).trans ?_
    have h1 := rl_num.ok s h
    refine (call_eq (rl_long.run _ h1) _).trans ?_
    have h2 := rl_long.ok _ h1
    refine (call_eq (rl_num.run _ h2) _).trans ?_
    have h3 := rl_num.ok _ h2
    refine (call_eq (rl_num.run _ h3) _).trans ?_
    have h4 := rl_num.ok _ h3
    rfl
theorem rl_Ms : Rl ledger_list_ledger_reader_tables_1 (rList rM) := rl_list (k := 32) (f := ledger_reader_tables_1) (by decide) rl_M
theorem gd_Ms : Gd (rList rM) (nL nM) (okLs okMR) := gd_M.list
theorem rl_longs : Rl ledger_list_ledger_reader_long (rList rNum) := rl_list (k := 8) (f := ledger_reader_long) (by decide) rl_long
theorem gd_longs : Gd (rList rNum) (nL (fun n => [n])) (okLs pT) := gd_num.list
def rI : Rd AInst' := rX rNum (rX rNum (rX rNum (rX rNum (rX (rList rNum) rU))))
def okIR : AInst' → Prop := pX pT (pX pT (pX pT (pX pT (pX (okLs pT) pT))))
theorem gd_I : Gd rI nI okIR := Gd.c (gd_num.x (gd_num.x (gd_num.x (gd_num.x (gd_longs.x gd_u))))) fun x => by
  simp only [nI, nU, nF, List.append_assoc, List.append_nil, List.cons_append, List.nil_append]
theorem rl_I : Rl ledger_reader_tables_2 rI where
  ok := okRX rl_num.ok (okRX rl_long.ok (okRX rl_long.ok (okRX rl_long.ok (okRX rl_longs.ok okRU))))
  run s h := by
    show ledger_reader_tables_2W stdW true s.1 s.2 = _
    unfold ledger_reader_tables_2W
    refine (call_eq (rl_num.run s h) _).trans ?_
    have h1 := rl_num.ok s h
    refine (call_eq (rl_long.run _ h1) _).trans ?_
    have h2 := rl_long.ok _ h1
    refine (call_eq (rl_long.run _ h2) _).trans ?_
    have h3 := rl_long.ok _ h2
    refine (call_eq (rl_long.run _ h3) _).trans ?_
    have h4 := rl_long.ok _ h3
    refine (call_eq (rl_longs.run _ h4) _).trans ?_
    have h5 := rl_longs.ok _ h4
    rfl
theorem rl_Is : Rl ledger_list_ledger_reader_tables_2 (rList rI) := rl_list (k := 56) (f := ledger_reader_tables_2) (by decide) rl_I
theorem gd_Is : Gd (rList rI) (nL nI) (okLs okIR) := gd_I.list
def rA : Rd ALot' := rX rNum (rX rNum (rX rNum rU))
def okAR : ALot' → Prop := pX pT (pX pT (pX pT pT))
theorem gd_A : Gd rA nA okAR := Gd.c (gd_num.x (gd_num.x (gd_num.x gd_u))) fun x => by
  simp only [nA, nU, nF, List.append_assoc, List.append_nil, List.cons_append, List.nil_append]
theorem rl_A : Rl ledger_reader_tables_3 rA where
  ok := okRX rl_num.ok (okRX rl_long.ok (okRX rl_long.ok okRU))
  run s h := by
    show ledger_reader_tables_3W stdW true s.1 s.2 = _
    unfold ledger_reader_tables_3W
    refine (call_eq (rl_num.run s h) _).trans ?_
    have h1 := rl_num.ok s h
    refine (call_eq (rl_long.run _ h1) _).trans ?_
    have h2 := rl_long.ok _ h1
    refine (call_eq (rl_long.run _ h2) _).trans ?_
    have h3 := rl_long.ok _ h2
    rfl
theorem rl_As : Rl ledger_list_ledger_reader_tables_3 (rList rA) := rl_list (k := 24) (f := ledger_reader_tables_3) (by decide) rl_A
theorem gd_As : Gd (rList rA) (nL nA) (okLs okAR) := gd_A.list
theorem rl_nums : Rl ledger_list_ledger_reader_num (rList rNum) := rl_list (k := 8) (f := ledger_reader_num) (by decide) rl_num
theorem gd_nums : Gd (rList rNum) (nL (fun n => [n])) (okLs pT) := gd_num.list
def rAc : Rd AAccount' := rX rNum (rX rNum (rX rNum (rX (rList rNum) rU)))
def okAcR : AAccount' → Prop := pX pT (pX pT (pX pT (pX (okLs pT) pT)))
theorem gd_Ac : Gd rAc nAc okAcR := Gd.c (gd_num.x (gd_num.x (gd_num.x (gd_nums.x gd_u)))) fun x => by
  simp only [nAc, nU, nF, List.append_assoc, List.append_nil, List.cons_append, List.nil_append]
theorem rl_Ac : Rl ledger_reader_accounts_1 rAc where
  ok := okRX rl_num.ok (okRX rl_num.ok (okRX rl_num.ok (okRX rl_nums.ok okRU)))
  run s h := by
    show ledger_reader_accounts_1W stdW true s.1 s.2 = _
    unfold ledger_reader_accounts_1W
    refine (call_eq (rl_num.run s h) _).trans ?_
    have h1 := rl_num.ok s h
    refine (call_eq (rl_num.run _ h1) _).trans ?_
    have h2 := rl_num.ok _ h1
    refine (call_eq (rl_num.run _ h2) _).trans ?_
    have h3 := rl_num.ok _ h2
    refine (call_eq (rl_nums.run _ h3) _).trans ?_
    have h4 := rl_nums.ok _ h3
    rfl
theorem rl_Acs : Rl ledger_list_ledger_reader_accounts_1 (rList rAc) := rl_list (k := 48) (f := ledger_reader_accounts_1) (by decide) rl_Ac
theorem gd_Acs : Gd (rList rAc) (nL nAc) (okLs okAcR) := gd_Ac.list
def rC : Rd AChoice' := rX rUnit (rX rUnit (rX rFlag rU))
def okCR : AChoice' → Prop := pX okUnitR (pX okUnitR (pX pT pT))
theorem gd_C : Gd rC nC okCR := Gd.c (gd_unit.x (gd_unit.x (gd_flag.x gd_u))) fun x => by
  simp only [nC, nU, nF, List.append_assoc, List.append_nil, List.cons_append, List.nil_append]
theorem rl_C : Rl ledger_reader_accounts_2 rC where
  ok := okRX rl_unit.ok (okRX rl_unit.ok (okRX rl_flag.ok okRU))
  run s h := by
    show ledger_reader_accounts_2W stdW true s.1 s.2 = _
    unfold ledger_reader_accounts_2W
    refine (call_eq (rl_unit.run s h) _).trans ?_
    have h1 := rl_unit.ok s h
    refine (call_eq (rl_unit.run _ h1) _).trans ?_
    have h2 := rl_unit.ok _ h1
    refine (call_eq (rl_flag.run _ h2) _).trans ?_
    have h3 := rl_flag.ok _ h2
    rfl
theorem rl_Cs : Rl ledger_list_ledger_reader_accounts_2 (rList rC) := rl_list (k := 40) (f := ledger_reader_accounts_2) (by decide) rl_C
theorem gd_Cs : Gd (rList rC) (nL nC) (okLs okCR) := gd_C.list
def rG : Rd AGroup' := rX rNum (rX rUnit (rX rNum (rX rNum (rX rNum rU))))
def okGR : AGroup' → Prop := pX pT (pX okUnitR (pX pT (pX pT (pX pT pT))))
theorem gd_G : Gd rG nG okGR := Gd.c (gd_num.x (gd_unit.x (gd_num.x (gd_num.x (gd_num.x gd_u))))) fun x => by
  simp only [nG, nU, nF, List.append_assoc, List.append_nil, List.cons_append, List.nil_append]
theorem rl_G : Rl ledger_reader_deals_1 rG where
  ok := okRX rl_num.ok (okRX rl_unit.ok (okRX rl_num.ok (okRX rl_long.ok (okRX rl_long.ok okRU))))
  run s h := by
    show ledger_reader_deals_1W stdW true s.1 s.2 = _
    unfold ledger_reader_deals_1W
    refine (call_eq (rl_num.run s h) _).trans ?_
    have h1 := rl_num.ok s h
    refine (call_eq (rl_unit.run _ h1) _).trans ?_
    have h2 := rl_unit.ok _ h1
    refine (call_eq (rl_num.run _ h2) _).trans ?_
    have h3 := rl_num.ok _ h2
    refine (call_eq (rl_long.run _ h3) _).trans ?_
    have h4 := rl_long.ok _ h3
    refine (call_eq (rl_long.run _ h4) _).trans ?_
    have h5 := rl_long.ok _ h4
    rfl
theorem rl_Gs : Rl ledger_list_ledger_reader_deals_1 (rList rG) := rl_list (k := 48) (f := ledger_reader_deals_1) (by decide) rl_G
theorem gd_Gs : Gd (rList rG) (nL nG) (okLs okGR) := gd_G.list
def rV : Rd AGive' := rX rNum (rX rUnit (rX rUnit (rX rUnit (rX rNum (rX rNum (rX rNum (rX rNum rU)))))))
def okVR : AGive' → Prop := pX pT (pX okUnitR (pX okUnitR (pX okUnitR (pX pT (pX pT (pX pT (pX pT pT)))))))
theorem gd_V : Gd rV nV okVR := Gd.c (gd_num.x (gd_unit.x (gd_unit.x (gd_leg.x (gd_num.x (gd_num.x (gd_num.x (gd_num.x gd_u)))))))) fun x => by
  simp only [nV, nU, nF, List.append_assoc, List.append_nil, List.cons_append, List.nil_append]
theorem rl_V : Rl ledger_reader_deals_2 rV where
  ok := okRX rl_num.ok (okRX rl_unit.ok (okRX rl_unit.ok (okRX rl_leg.ok (okRX rl_long.ok (okRX rl_num.ok (okRX rl_num.ok (okRX rl_num.ok okRU)))))))
  run s h := by
    show ledger_reader_deals_2W stdW true s.1 s.2 = _
    unfold ledger_reader_deals_2W
    refine both_of ?_ ?_
    · refine (call_eq (rl_num.run s h) _).trans ?_
      have h1 := rl_num.ok s h
      refine both_of ?_ ?_
      · refine (call_eq (rl_unit.run _ h1) _).trans ?_
        have h2 := rl_unit.ok _ h1
        refine both_of ?_ ?_
        · refine (call_eq (rl_unit.run _ h2) _).trans ?_
          have h3 := rl_unit.ok _ h2
          refine both_of ?_ ?_
          · refine (call_eq (rl_leg.run _ h3) _).trans ?_
            have h4 := rl_leg.ok _ h3
            refine (two_w _).trans ?_
            refine (call_eq (rl_long.run _ h4) _).trans ?_
            have h5 := rl_long.ok _ h4
            refine (call_eq (rl_num.run _ h5) _).trans ?_
            have h6 := rl_num.ok _ h5
            refine (call_eq (rl_num.run _ h6) _).trans ?_
            have h7 := rl_num.ok _ h6
            refine (call_eq (rl_num.run _ h7) _).trans ?_
            have h8 := rl_num.ok _ h7
            rfl
          · refine (call_eq (rl_leg.run _ h3) _).trans ?_
            have h4 := rl_leg.ok _ h3
            refine (call_eq (rl_long.run _ h4) _).trans ?_
            have h5 := rl_long.ok _ h4
            refine (call_eq (rl_num.run _ h5) _).trans ?_
            have h6 := rl_num.ok _ h5
            refine (call_eq (rl_num.run _ h6) _).trans ?_
            have h7 := rl_num.ok _ h6
            refine (call_eq (rl_num.run _ h7) _).trans ?_
            have h8 := rl_num.ok _ h7
            rfl
        · refine (call_eq (rl_unit.run _ h2) _).trans ?_
          have h3 := rl_unit.ok _ h2
          refine (call_eq (rl_leg.run _ h3) _).trans ?_
          have h4 := rl_leg.ok _ h3
          refine (call_eq (rl_long.run _ h4) _).trans ?_
          have h5 := rl_long.ok _ h4
          refine (call_eq (rl_num.run _ h5) _).trans ?_
          have h6 := rl_num.ok _ h5
          refine (call_eq (rl_num.run _ h6) _).trans ?_
          have h7 := rl_num.ok _ h6
          refine (call_eq (rl_num.run _ h7) _).trans ?_
          have h8 := rl_num.ok _ h7
          rfl
      · refine (call_eq (rl_unit.run _ h1) _).trans ?_
        have h2 := rl_unit.ok _ h1
        refine (call_eq (rl_unit.run _ h2) _).trans ?_
        have h3 := rl_unit.ok _ h2
        refine (call_eq (rl_leg.run _ h3) _).trans ?_
        have h4 := rl_leg.ok _ h3
        refine (call_eq (rl_long.run _ h4) _).trans ?_
        have h5 := rl_long.ok _ h4
        refine (call_eq (rl_num.run _ h5) _).trans ?_
        have h6 := rl_num.ok _ h5
        refine (call_eq (rl_num.run _ h6) _).trans ?_
        have h7 := rl_num.ok _ h6
        refine (call_eq (rl_num.run _ h7) _).trans ?_
        have h8 := rl_num.ok _ h7
        rfl
    · refine (call_eq (rl_num.run s h) _).trans ?_
      have h1 := rl_num.ok s h
      refine (call_eq (rl_unit.run _ h1) _).trans ?_
      have h2 := rl_unit.ok _ h1
      refine (call_eq (rl_unit.run _ h2) _).trans ?_
      have h3 := rl_unit.ok _ h2
      refine (call_eq (rl_leg.run _ h3) _).trans ?_
      have h4 := rl_leg.ok _ h3
      refine (call_eq (rl_long.run _ h4) _).trans ?_
      have h5 := rl_long.ok _ h4
      refine (call_eq (rl_num.run _ h5) _).trans ?_
      have h6 := rl_num.ok _ h5
      refine (call_eq (rl_num.run _ h6) _).trans ?_
      have h7 := rl_num.ok _ h6
      refine (call_eq (rl_num.run _ h7) _).trans ?_
      have h8 := rl_num.ok _ h7
      rfl
theorem rl_Vs : Rl ledger_list_ledger_reader_deals_2 (rList rV) := rl_list (k := 88) (f := ledger_reader_deals_2) (by decide) rl_V
theorem gd_Vs : Gd (rList rV) (nL nV) (okLs okVR) := gd_V.list
theorem rl_legs : Rl ledger_list_ledger_reader_leg (rList rUnit) := rl_list (k := 16) (f := ledger_reader_leg) (by decide) rl_leg
theorem gd_legs : Gd (rList rUnit) (nL nU) (okLs okUnitR) := gd_leg.list
def rP : Rd APos' := rX rUnit (rX (rList rUnit) rU)
def okPR : APos' → Prop := pX okUnitR (pX (okLs okUnitR) pT)
theorem gd_P : Gd rP nP okPR := Gd.c (gd_unit.x (gd_legs.x gd_u)) fun x => by
  simp only [nP, nU, nF, List.append_assoc, List.append_nil, List.cons_append, List.nil_append]
theorem rl_P : Rl ledger_reader_book_1 rP where
  ok := okRX rl_unit.ok (okRX rl_legs.ok okRU)
  run s h := by
    show ledger_reader_book_1W stdW true s.1 s.2 = _
    unfold ledger_reader_book_1W
    refine (call_eq (rl_unit.run s h) _).trans ?_
    have h1 := rl_unit.ok s h
    refine (call_eq (rl_legs.run _ h1) _).trans ?_
    have h2 := rl_legs.ok _ h1
    rfl
theorem rl_Ps : Rl ledger_list_ledger_reader_book_1 (rList rP) := rl_list (k := 40) (f := ledger_reader_book_1) (by decide) rl_P
theorem gd_Ps : Gd (rList rP) (nL nP) (okLs okPR) := gd_P.list
def rF : Rd AFlow' := rX rUnit (rX rNum rU)
def okFR : AFlow' → Prop := pX okUnitR (pX pT pT)
theorem gd_F : Gd rF nF okFR := Gd.c (gd_unit.x (gd_num.x gd_u)) fun x => by
  simp only [nF, nU, nF, List.append_assoc, List.append_nil, List.cons_append, List.nil_append]
theorem rl_F : Rl ledger_Decode_1 rF where
  ok := okRX rl_unit.ok (okRX rl_long.ok okRU)
  run s h := by
    show ledger_Decode_1W stdW true s.1 s.2 = _
    unfold ledger_Decode_1W
    refine (call_eq (rl_unit.run s h) _).trans ?_
    have h1 := rl_unit.ok s h
    refine (call_eq (rl_long.run _ h1) _).trans ?_
    have h2 := rl_long.ok _ h1
    rfl
theorem rl_Fs : Rl ledger_list_ledger_Decode_1 (rList rF) := rl_list (k := 24) (f := ledger_Decode_1) (by decide) rl_F
theorem gd_Fs : Gd (rList rF) (nL nF) (okLs okFR) := gd_F.list
theorem rl_lots : Rl ledger_list_ledger_reader_lot (rList rLot) := rl_list (k := 24) (f := ledger_reader_lot) (by decide) rl_lot
theorem gd_lots : Gd (rList rLot) (nL nA) (okLs okLotR) := gd_lot.list
def rH : Rd AHold' := rX rUnit (rX (rList rLot) rU)
def okHR : AHold' → Prop := pX okUnitR (pX (okLs okLotR) pT)
theorem gd_H : Gd rH nH okHR := Gd.c (gd_unit.x (gd_lots.x gd_u)) fun x => by
  simp only [nH, nU, nF, List.append_assoc, List.append_nil, List.cons_append, List.nil_append]
theorem rl_H : Rl ledger_Decode_2 rH where
  ok := okRX rl_unit.ok (okRX rl_lots.ok okRU)
  run s h := by
    show ledger_Decode_2W stdW true s.1 s.2 = _
    unfold ledger_Decode_2W
    refine (call_eq (rl_unit.run s h) _).trans ?_
    have h1 := rl_unit.ok s h
    refine (call_eq (rl_lots.run _ h1) _).trans ?_
    have h2 := rl_lots.ok _ h1
    rfl
theorem rl_Hs : Rl ledger_list_ledger_Decode_2 (rList rH) := rl_list (k := 40) (f := ledger_Decode_2) (by decide) rl_H
theorem gd_Hs : Gd (rList rH) (nL nH) (okLs okHR) := gd_H.list
theorem rl_book : Rl ledger_reader_book (rList rP) where
  ok := rl_Ps.ok
  run s h := by
    show ledger_reader_bookW stdW true s.1 s.2 = _
    unfold ledger_reader_bookW
    refine (call_eq (rl_Ps.run s h) _).trans ?_
    rfl
def rS : Rd AState' := rX rNum (rX (rList rM) (rX (rList rI) (rX (rList rA) (rX (rList rAc) (rX (rList rC) (rX (rList rG) (rX (rList rV) (rX (rList rP) (rX (rList rP) (rX (rList rF) (rX (rList rH) rU)))))))))))
def okSR : AState' → Prop := pX pT (pX (okLs okMR) (pX (okLs okIR) (pX (okLs okAR) (pX (okLs okAcR) (pX (okLs okCR) (pX (okLs okGR) (pX (okLs okVR) (pX (okLs okPR) (pX (okLs okPR) (pX (okLs okFR) (pX (okLs okHR) pT)))))))))))
theorem gd_S : Gd rS nS okSR := Gd.c (gd_num.x (gd_Ms.x (gd_Is.x (gd_As.x (gd_Acs.x (gd_Cs.x (gd_Gs.x (gd_Vs.x (gd_Ps.x (gd_Ps.x (gd_Fs.x (gd_Hs.x gd_u)))))))))))) fun x => by
  simp only [nS, nT, nAs, nDs, nMo, List.append_assoc, List.append_nil]
end Go.Proofs.YtllkmncnmlmefaaGreat

namespace Go.Proofs.YtllkmncnmlmefaaGreat
open Go Go.Vc Go.RowKit
/-! ### parts by weights (plain) -/
/-! ### a row of actions (plain) -/
/-! two pointers, all pairs -/
/-! what is paid -/
/-! where a run stands: bounds -/
/-! ### how many bits -/
/-! ### half a division: a digit of 32 bits, guessed and set right -/
/-! ### math/bits.Div64 -/
/-! ### the code's division of a product, and its scale -/
/-! ### share.Fill: the code -/
end Go.Proofs.YtllkmncnmlmefaaGreat
namespace Go.Proofs.YtllkmncnmlmefaaGreat
open Go Go.Vc Go.RowKit
set_option synthInstance.maxSize 100000
set_option synthInstance.maxHeartbeats 0
/-! ### units pay for one another: what each owes, what each can pay -/
/-! units pay for one another -/
end Go.Proofs.YtllkmncnmlmefaaGreat

namespace Go.Proofs.YtllkmncnmlmefaaGreat
open Go Go.Vc Go.RowKit
set_option synthInstance.maxSize 100000
set_option synthInstance.maxHeartbeats 0
set_option maxHeartbeats 1000000
/-! ### units pay for one another: the code -/
end Go.Proofs.YtllkmncnmlmefaaGreat

namespace Go.Proofs.YtllkmncnmlmefaaGreat
open Go Go.Vc Go.RowKit
/-! ### a member's accounts -/
/-- the document's units of an account -/
theorem r_units15 {a : AAccount'} (h : a.2.2.2.1.length ≤ 1000) : ref15_Units a = some (unitsA a) := by
  show ref15_UnitsW stdW a = _
  unfold ref15_UnitsW unitsA
  by_cases hk : a.2.2.1 = 1
  · rw [cnd_y (by simpa using hk), if_pos hk, room_w (by simp) (by simp)]
  · rw [cnd_n (by simpa using hk), if_neg hk]
    refine loop_az (N := a.2.2.2.1.length) (by omega) (fun i => ((i : Int), ((a.2.2.2.1.take i).map (fun c => ((a.1, (c, ())) : AUnit')), ()))) _ rfl ?_ ?_
    · intro again
      show stdW.cnd (decide ((a.2.2.2.1.length : Int) < (a.2.2.2.1.length : Int))) _ (some _) = _
      rw [cnd_end, List.take_length]
    · intro i hi again ha
      show stdW.cnd (decide ((i : Int) < (a.2.2.2.1.length : Int))) (stdW.idx a.2.2.2.1 (i : Int) fun x3 => stdW.room (((a.2.2.2.1.take i).map (fun c => ((a.1, (c, ())) : AUnit'))).length + 1) 16 (again (IntKind.i64.wrap ((i : Int) + 1), ((a.2.2.2.1.take i).map (fun c => ((a.1, (c, ())) : AUnit')) ++ [((a.1, (x3, ())) : AUnit')], ())))) _ = _
      have : ((a.2.2.2.1.take i).map (fun c => ((a.1, (c, ())) : AUnit'))).length ≤ 1000 := by rw [List.length_map, List.length_take]; omega
      rw [cnd_lt hi, idx_w hi, room_w (by omega) (by omega), i64_s i (by omega)]
      rw [List.take_succ_eq_append_getElem hi, List.map_append] at ha
      exact ha
end Go.Proofs.YtllkmncnmlmefaaGreat
namespace Go.Proofs.YtllkmncnmlmefaaGreat
open Go Go.Vc Go.RowKit
set_option synthInstance.maxSize 100000
set_option synthInstance.maxHeartbeats 0
set_option maxHeartbeats 1000000
/-! ### the waterfall: the code -/
end Go.Proofs.YtllkmncnmlmefaaGreat

namespace Go.Proofs.YtllkmncnmlmefaaGreat
open Go Go.Vc Go.RowKit
set_option synthInstance.maxSize 100000
set_option synthInstance.maxHeartbeats 0
set_option maxHeartbeats 1000000
/-! ### the whole waterfall: the code -/
end Go.Proofs.YtllkmncnmlmefaaGreat

namespace Go.Proofs.YtllkmncnmlmefaaGreat
open Go Go.Vc Go.RowKit
/-! ### share.Fill: the document -/
end Go.Proofs.YtllkmncnmlmefaaGreat
namespace Go.Proofs.YtllkmncnmlmefaaGreat
open Go Go.Vc Go.RowKit
end Go.Proofs.YtllkmncnmlmefaaGreat

namespace Go.Proofs.YtllkmncnmlmefaaGreat
open Go Go.Vc Go.RowKit
set_option synthInstance.maxSize 100000
set_option synthInstance.maxHeartbeats 0
set_option maxHeartbeats 1000000
/-! ### units pay for one another: the document -/
end Go.Proofs.YtllkmncnmlmefaaGreat

namespace Go.Proofs.YtllkmncnmlmefaaGreat
open Go Go.Vc Go.RowKit
set_option synthInstance.maxSize 100000
set_option synthInstance.maxHeartbeats 0
set_option maxHeartbeats 2000000
/-! ### the whole waterfall: the document -/
end Go.Proofs.YtllkmncnmlmefaaGreat

namespace Go.Proofs.YtllkmncnmlmefaaGreat
open Go Go.Vc Go.RowKit
set_option synthInstance.maxSize 100000
set_option synthInstance.maxHeartbeats 0
/-! ### the waterfall: code and document -/
end Go.Proofs.YtllkmncnmlmefaaGreat

namespace Go.Proofs.YtllkmncnmlmefaaGreat
open Go Go.Vc Go.RowKit
/-! ### fair: what moves, weights of lots (plain) -/
/-! ### fair: what is sold, what is paid (plain) -/
/-! ### fair: actions (plain) -/
/-! a row of actions -/
/-! ### fair: parts are not above their weights (plain) -/
/-! ### fair: two pointers -/
/-! ### fair: the waterfall -/
end Go.Proofs.YtllkmncnmlmefaaGreat
namespace Go.Proofs.YtllkmncnmlmefaaGreat
open Go Go.Vc Go.RowKit
set_option synthInstance.maxSize 100000
set_option synthInstance.maxHeartbeats 0
set_option maxHeartbeats 1000000
/-! ### fair: the law -/
theorem r_has {a : AAccount'} {u : AUnit'} (h : a.2.2.2.1.length ≤ 1000) : ref15_Has a u = some (decide (u ∈ unitsA a)) := by
  show ref15_HasW stdW a u = _
  unfold ref15_HasW
  rw [call_eq (r_units15 h)]
  have hl : (unitsA a).length ≤ 1000 := by
    unfold unitsA; split
    · simp
    · rw [List.length_map]; exact h
  generalize unitsA a = l at *
  refine loop_go (l := l) (s0 := ()) (by omega) (fun i (_ : Unit) => ((i : Int), (l, ()))) (fun _ _ => True) (fun l' _ => some (decide (u ∈ l'))) rfl trivial ?_ ?_
  · intro _ _ again
    show stdW.cnd (decide ((l.length : Int) < (l.length : Int))) _ (some false) = _
    rw [cnd_end]; simp
  · intro i hi _ _ again ha
    show stdW.cnd (decide ((i : Int) < (l.length : Int))) (stdW.idx l (i : Int) _) _ = _
    rw [cnd_lt hi, idx_w hi]
    show stdW.nth l (Int.toNat (i : Int)) _ = _
    rw [nth_w hi, nif_f, eqA]
    by_cases he : l[i] = u
    · rw [cnd_y (by simpa using he), he]; simp
    · rw [cnd_n (by simpa using he)]
      show again (IntKind.i64.wrap ((i : Int) + 1), (l, ())) = _
      rw [i64_s i (by omega), ha () trivial]
      have hne : ¬ u = l[i] := fun e => he e.symm
      show some (decide (u ∈ l.drop (i + 1))) = some (decide (u ∈ l[i] :: l.drop (i + 1)))
      refine congrArg some (decide_eq_decide.2 ?_)
      rw [List.mem_cons, or_iff_right hne]
end Go.Proofs.YtllkmncnmlmefaaGreat

namespace Go.Proofs.YtllkmncnmlmefaaGreat
open Go Go.Vc Go.RowKit
set_option synthInstance.maxSize 100000
set_option synthInstance.maxHeartbeats 0
/-! ### which states may be: loops that look at all of a row -/
def allN (n : Nat) (q : Nat → Bool) : Bool := (List.range' 0 n).all q
theorem loop_chk {X β : Type} {n : Nat} (hn : n < 9223372036854775808) {F : X → (X → Option β) → Option β} (st : Nat → X) (q : Nat → Bool) {r no : Option β} {z0 : X} (hz : z0 = st 0)
    (hend : ∀ again : X → Option β, F (st n) again = r)
    (hstep : ∀ i, i < n → ∀ again : X → Option β, F (st i) again = bif q i then again (st (i + 1)) else no) :
    stdW.loop F z0 = bif allN n q then r else no := by
  subst hz
  have key : ∀ (m k i : Nat), i + m = n → m < k → loopF k F (st i) = bif (List.range' i m).all q then r else no := by
    intro m
    induction m with
    | zero =>
      intro k i hi hk
      cases k with
      | zero => omega
      | succ k =>
        have : i = n := by omega
        subst this
        exact hend _
    | succ m ih =>
      intro k i hi hk
      cases k with
      | zero => omega
      | succ k =>
        show F (st i) (loopF k F) = _
        rw [hstep i (by omega), ih k (i + 1) (by omega) (by omega), List.range'_succ, List.all_cons]
        cases q i <;> rfl
  exact key n FU 0 (by omega) (by rw [FU_eq]; omega)
theorem allN_iff {n : Nat} {q : Nat → Bool} : allN n q = true ↔ ∀ i, i < n → q i = true := by
  unfold allN
  rw [List.all_eq_true]
  exact ⟨fun h i hi => h i (by rw [List.mem_range'_1]; omega), fun h i hi => h i (by rw [List.mem_range'_1] at hi; omega)⟩
/-! ### members, instruments, assets, accounts -/
def okM1 (m : AMember') : Prop := 1 ≤ m.1 ∧ m.1 ≤ 8 ∧ 0 ≤ m.2.1 ∧ m.2.1 ≤ 4611686018427387904 ∧ 0 ≤ m.2.2.1 ∧ m.2.2.1 ≤ 3 ∧ 0 ≤ m.2.2.2.1 ∧ m.2.2.2.1 ≤ 2097152
instance (m : AMember') : Decidable (okM1 m) := by unfold okM1; infer_instance
theorem nat_bool {p q : Prop} [Decidable p] [Decidable q] (h : p ↔ q) : (some (decide p) : Option Bool) = some (decide q) := by simp [h]
theorem nat_no {q : Prop} [Decidable q] (h : ¬ q) : (some false : Option Bool) = some (decide q) := by simp [h]
theorem r_memCheck (m : AMember') : member_Check m = some (if okM1 m then 0 else 2) := by
  show member_CheckW stdW m = _
  unfold member_CheckW
  refine join_g fun k hk => ?_
  have kt : k (true, ()) = some 2 := by subst hk; rfl
  have kb : ∀ c, k (c, ()) = if c = true then some 2 else some 0 := by intro c; subst hk; cases c <;> rfl
  clear hk
  simp only [Bool.cond_decide, kt, kb, decide_eq_true_eq]
  by_cases h : okM1 m
  · rw [if_pos h]; unfold okM1 at h; repeat' split
    all_goals first | rfl | (exfalso; omega)
  · rw [if_neg h]; unfold okM1 at h; repeat' split
    all_goals first | rfl | (exfalso; omega)
theorem r_is14 (m : AMember') : ref14_Is m = some (decide (okM1 m)) := by
  show ref14_IsW stdW m = _
  unfold ref14_IsW
  simp only [Bool.cond_decide]
  repeat' split
  all_goals first | (refine nat_bool ?_; unfold okM1; omega) | (refine nat_no ?_; unfold okM1; omega)
theorem r_asCheck2 (a : ALot') : asset_Check a = some (if okA1 a then 0 else 2) := by
  show asset_CheckW stdW a = _
  unfold asset_CheckW
  refine join_g fun k hk => ?_
  have kt : k (true, ()) = some 2 := by subst hk; rfl
  have kb : ∀ c, k (c, ()) = if c = true then some 2 else some 0 := by intro c; subst hk; cases c <;> rfl
  clear hk
  have e : asset_pricedW stdW a.2.1 = _ := r_asPriced _
  rw [e]
  show (bif _ then _ else bif _ then _ else bif _ then _ else bif _ then _ else _) = _
  simp only [Bool.cond_decide, Bool.cond_not, Bool.cond_eq_ite, kt, kb, decide_eq_true_eq, Bool.not_eq_true', Bool.and_eq_true, Bool.and_eq_false_iff, decide_eq_false_iff_not]
  by_cases h : okA1 a
  · rw [if_pos h]; unfold okA1 at h; repeat' split
    all_goals first | rfl | (exfalso; omega)
  · rw [if_neg h]; unfold okA1 at h; repeat' split
    all_goals first | rfl | (exfalso; omega)
theorem r_is12b (a : ALot') : ref12_Is a = some (decide (okA1 a)) := by
  show ref12_IsW stdW a = _
  unfold ref12_IsW
  simp only [Bool.cond_decide]
  repeat' split
  all_goals first | (refine nat_bool ?_; unfold okA1; omega) | (refine nat_no ?_; unfold okA1; omega)
end Go.Proofs.YtllkmncnmlmefaaGreat

namespace Go.Proofs.YtllkmncnmlmefaaGreat
open Go Go.Vc Go.RowKit
set_option synthInstance.maxSize 100000
set_option synthInstance.maxHeartbeats 0
/-! ### instruments, accounts, finds -/
def allL {α : Type} (l : List α) (p : Nat → α → Bool) : Bool := allN l.length fun i => if h : i < l.length then p i l[i] else true
theorem loop_all {X α β : Type} {l : List α} (hn : l.length < 9223372036854775808) {F : X → (X → Option β) → Option β} (st : Nat → X) (p : Nat → α → Bool) {r no : Option β} {z0 : X} (hz : z0 = st 0)
    (hend : ∀ again : X → Option β, F (st l.length) again = r)
    (hstep : ∀ i (hi : i < l.length), ∀ again : X → Option β, F (st i) again = bif p i l[i] then again (st (i + 1)) else no) :
    stdW.loop F z0 = bif allL l p then r else no :=
  loop_chk hn st _ hz hend fun i hi again => by rw [dif_pos hi]; exact hstep i hi again
theorem allL_iff {α : Type} {l : List α} {p : Nat → α → Bool} : allL l p = true ↔ ∀ i (h : i < l.length), p i l[i] = true := by
  unfold allL
  rw [allN_iff]
  constructor
  · intro h i hi; have := h i hi; rwa [dif_pos hi] at this
  · intro h i hi; rw [dif_pos hi]; exact h i hi
theorem allL_all {α : Type} {l : List α} {p : α → Bool} : allL l (fun _ => p) = l.all p := by
  apply Bool.eq_iff_iff.2
  rw [allL_iff, List.all_eq_true]
  constructor
  · intro h x hx
    obtain ⟨i, hi, e⟩ := List.mem_iff_getElem.1 hx
    rw [← e]; exact h i hi
  · exact fun h i hi => h _ (List.getElem_mem hi)
/-- the first of a row that is sought -/
theorem loop_seek {X α β : Type} {l : List α} (hn : l.length < 9223372036854775808) {F : X → (X → Option β) → Option β} (st : Nat → X) (p : α → Bool) (e : Nat → Option β) {r : Option β} {z0 : X} (hz : z0 = st 0)
    (hend : ∀ again : X → Option β, F (st l.length) again = r)
    (hstep : ∀ i (hi : i < l.length), ∀ again : X → Option β, F (st i) again = bif p l[i] then e i else again (st (i + 1))) :
    (l.any p = true ∧ ∃ i, i < l.length ∧ stdW.loop F z0 = e i) ∨ (l.any p = false ∧ stdW.loop F z0 = r) := by
  subst hz
  have key : ∀ (m k i : Nat), i + m = l.length → m < k → ((l.drop i).any p = true ∧ ∃ j, j < l.length ∧ loopF k F (st i) = e j) ∨ ((l.drop i).any p = false ∧ loopF k F (st i) = r) := by
    intro m
    induction m with
    | zero =>
      intro k i hi hk
      cases k with
      | zero => omega
      | succ k =>
        have : i = l.length := by omega
        subst this
        exact .inr ⟨by rw [List.drop_length]; rfl, hend _⟩
    | succ m ih =>
      intro k i hi hk
      cases k with
      | zero => omega
      | succ k =>
        have hil : i < l.length := by omega
        have e1 : loopF (k + 1) F (st i) = bif p l[i] then e i else loopF k F (st (i + 1)) := hstep i hil _
        rw [e1, List.drop_eq_getElem_cons hil, List.any_cons]
        cases hp : p l[i] with
        | true => exact .inl ⟨rfl, i, hil, rfl⟩
        | false => rw [Bool.false_or]; exact ih k (i + 1) (by omega) (by omega)
  have := key l.length FU 0 (by omega) (by rw [FU_eq]; omega)
  rwa [List.drop_zero] at this
def okJ1 (x : AInst') : Prop := (1 ≤ x.1 ∧ x.1 ≤ 8) ∧ (1 ≤ x.2.1 ∧ x.2.1 ≤ 65536) ∧ (0 ≤ x.2.2.1 ∧ x.2.2.1 ≤ 2147483647) ∧ (0 ≤ x.2.2.2.1 ∧ x.2.2.2.1 ≤ 2147483647) ∧ x.2.2.2.2.1.length ≤ 8
instance (x : AInst') : Decidable (okJ1 x) := by unfold okJ1; infer_instance
def farB (m : Int) : Bool := decide (m < -2147483647 ∨ 2147483647 < m)
def okJ (x : AInst') : Bool := decide (okJ1 x) && !x.2.2.2.2.1.any farB
theorem r_far (m : Int) : inst_far m = some (farB m) := by
  show inst_farW stdW m = _
  unfold inst_farW farB
  by_cases h : m < -2147483647
  · rw [cnd_y (decide_eq_true h), decide_eq_true (Or.inl h)]
  · rw [cnd_n (decide_eq_false h)]; simp [h]
theorem r_conFar {l : List Int} (hl : l.length ≤ 1000000) : slices_ContainsFuncint64_int64_inst_far l = some (l.any farB, ()) := by
  show slices_ContainsFuncint64_int64_inst_farW stdW l = _
  unfold slices_ContainsFuncint64_int64_inst_farW
  have key : ∃ i : Int, slices_IndexFuncint64_int64_inst_farW stdW l = some (i, ()) ∧ decide (0 ≤ i) = l.any farB := by
    unfold slices_IndexFuncint64_int64_inst_farW
    rcases loop_seek (l := l) (by omega) (β := Int × Unit) (F := fun (z1 : Int × Unit) again2 =>
        stdW.cnd (decide (z1.1 < (l.length : Int))) (stdW.idx l z1.1 fun x3 => stdW.call (inst_farW stdW x3) fun v4 =>
          stdW.cnd v4 (some z1) ((again2 ((IntKind.i64.wrap (z1.1 + 1)), ())))) (some ((-1), ()))) (fun i => ((i : Int), ())) farB (fun i => some ((i : Int), ())) (r := some ((-1), ())) (z0 := (0, ())) rfl
      (fun again => cnd_end _ _)
      (fun i hi again => by
        show stdW.cnd (decide ((i : Int) < (l.length : Int))) (stdW.idx l (i : Int) _) _ = _
        rw [cnd_lt hi, idx_w hi, call_eq (r_far _), i64_s i (by omega)]) with ⟨h1, i, h2, h3⟩ | ⟨h1, h3⟩
    · exact ⟨i, h3, by rw [h1]; exact decide_eq_true (by omega)⟩
    · exact ⟨-1, h3, by rw [h1]; rfl⟩
  obtain ⟨i, h1, h2⟩ := key
  rw [call_eq h1, ← h2]
theorem r_pricedI (p : Int) : inst_priced p = some (decide (0 ≤ p ∧ p ≤ 2147483647)) := by
  show inst_pricedW stdW p = _
  unfold inst_pricedW
  by_cases h : 0 ≤ p
  · rw [cnd_y (decide_eq_true h)]; simp [h]
  · rw [cnd_n (decide_eq_false h)]; simp [h]
theorem r_priceR (p : Int) : ref13_price p = some (decide (0 ≤ p ∧ p ≤ 2147483647)) := by
  show ref13_priceW stdW p = _
  unfold ref13_priceW
  by_cases h : 0 ≤ p
  · rw [cnd_y (decide_eq_true h)]; exact nat_bool (by omega)
  · rw [cnd_n (decide_eq_false h)]; simp [h]
theorem okJ_no {x : AInst'} (h : ¬ okJ1 x) : okJ x = false := by unfold okJ; rw [decide_eq_false h]; rfl
theorem okJ_yes {x : AInst'} (h : okJ1 x) : okJ x = !x.2.2.2.2.1.any farB := by unfold okJ; rw [decide_eq_true h]; rfl
theorem r_instCheck {x : AInst'} (hl : x.2.2.2.2.1.length ≤ 1000000) : inst_Check x = some (if okJ x = true then 0 else 2) := by
  show inst_CheckW stdW x = _
  unfold inst_CheckW
  have e1 : inst_pricedW stdW x.2.2.1 = _ := r_pricedI _
  have e2 : inst_pricedW stdW x.2.2.2.1 = _ := r_pricedI _
  have e3 : slices_ContainsFuncint64_int64_inst_farW stdW x.2.2.2.2.1 = _ := r_conFar hl
  rw [e1, e2, e3]
  refine join_g fun k7 hk7 => ?_
  have kf : k7 (false, ()) = some 2 := by subst hk7; rfl
  have kt : k7 (true, ()) = if (0 ≤ x.2.2.1 ∧ x.2.2.1 ≤ 2147483647) ∧ (0 ≤ x.2.2.2.1 ∧ x.2.2.2.1 ≤ 2147483647) ∧ x.2.2.2.2.1.length ≤ 8 ∧ x.2.2.2.2.1.any farB = false then some 0 else some 2 := by
    subst hk7
    show stdW.join _ _ = _
    refine join_g fun k3 hk3 => ?_
    have k3t : k3 (true, ()) = some 2 := by subst hk3; rfl
    have k3f : k3 (false, ()) = some 0 := by subst hk3; rfl
    clear hk3
    show stdW.cnd (!true) (k3 (true, ())) (stdW.call _ _) = _
    rw [cnd_n (by rfl)]
    by_cases h1 : 0 ≤ x.2.2.1 ∧ x.2.2.1 ≤ 2147483647
    · rw [call_eq rfl, decide_eq_true h1, cnd_n (by rfl)]
      by_cases h2 : 0 ≤ x.2.2.2.1 ∧ x.2.2.2.1 ≤ 2147483647
      · rw [call_eq rfl, decide_eq_true h2, cnd_n (by rfl)]
        by_cases h3 : x.2.2.2.2.1.length ≤ 8
        · rw [cnd_n (decide_eq_false (by omega)), call_eq rfl]
          cases h4 : x.2.2.2.2.1.any farB with
          | true => rw [k3t, if_neg (by simp)]
          | false => rw [k3f, if_pos ⟨h1, h2, h3, rfl⟩]
        · rw [cnd_y (decide_eq_true (by omega)), k3t, if_neg (fun h => h3 h.2.2.1)]
      · rw [call_eq rfl, decide_eq_false h2, cnd_y (by rfl), k3t, if_neg (fun h => h2 h.2.1)]
    · rw [call_eq rfl, decide_eq_false h1, cnd_y (by rfl), k3t, if_neg (fun h => h1 h.1)]
  have kb : ∀ c, k7 (c, ()) = if c = true ∧ (0 ≤ x.2.2.1 ∧ x.2.2.1 ≤ 2147483647) ∧ (0 ≤ x.2.2.2.1 ∧ x.2.2.2.1 ≤ 2147483647) ∧ x.2.2.2.2.1.length ≤ 8 ∧ x.2.2.2.2.1.any farB = false then some 0 else some 2 := by
    intro c
    cases c with
    | true => rw [kt]; simp only [true_and]
    | false => rw [kf, if_neg (by simp)]
  clear hk7
  simp only [Bool.cond_decide, kf, kb, decide_eq_true_eq]
  by_cases h : okJ1 x
  · rw [okJ_yes h]
    unfold okJ1 at h
    cases x.2.2.2.2.1.any farB with
    | true =>
      simp only [Bool.not_true, Bool.false_eq_true, Bool.true_eq_false, and_false, if_false]; repeat' split
      all_goals first | rfl | (exfalso; omega)
    | false =>
      simp only [Bool.not_false, if_true, and_true]; repeat' split
      all_goals first | rfl | (exfalso; omega)
  · rw [okJ_no h]
    simp only [Bool.false_eq_true, if_false]
    unfold okJ1 at h
    cases x.2.2.2.2.1.any farB with
    | true =>
      simp only [Bool.true_eq_false, and_false, if_false]; repeat' split
      all_goals first | rfl | (exfalso; omega)
    | false =>
      simp only [and_true]; repeat' split
      all_goals first | rfl | (exfalso; omega)
theorem r_is13 {x : AInst'} (hl : x.2.2.2.2.1.length ≤ 1000000) : ref13_Is x = some (okJ x) := by
  show ref13_IsW stdW x = _
  unfold ref13_IsW
  have e1 : ref13_priceW stdW x.2.2.1 = _ := r_priceR _
  have e2 : ref13_priceW stdW x.2.2.2.1 = _ := r_priceR _
  rw [e1, e2]
  refine join_g fun k8 hk8 => ?_
  have kt : k8 (true, ()) = some false := by subst hk8; rfl
  have kf : k8 (false, ()) = some (!x.2.2.2.2.1.any farB) := by
    subst hk8
    refine (cnd_n (c := false) rfl _ _).trans ?_
    refine (loop_all (l := x.2.2.2.2.1) (by omega) (fun i => ((i : Int), ())) (fun _ m => !farB m) (r := some true) (no := some false) rfl (fun again => cnd_end _ _) (fun i hi again => ?_)).trans ?_
    · show stdW.cnd (decide ((i : Int) < (x.2.2.2.2.1.length : Int))) _ _ = _
      rw [cnd_lt hi]
      refine join_g fun k hk => ?_
      have k1 : k (true, ()) = some false := by subst hk; rfl
      have k2 : k (false, ()) = again (((i + 1 : Nat) : Int), ()) := by rw [← i64_s i (by omega)]; subst hk; rfl
      clear hk
      show stdW.idx _ (i : Int) _ = _
      rw [idx_w hi]
      unfold farB
      by_cases h1 : x.2.2.2.2.1[i] < -2147483647
      · rw [cnd_y (decide_eq_true h1), k1, decide_eq_true (Or.inl h1)]; rfl
      · rw [cnd_n (decide_eq_false h1)]
        show stdW.idx _ (i : Int) _ = _
        rw [idx_w hi]
        by_cases h2 : 2147483647 < x.2.2.2.2.1[i]
        · rw [decide_eq_true h2, k1, decide_eq_true (Or.inr h2)]; rfl
        · rw [decide_eq_false h2, k2, decide_eq_false (by omega)]; rfl
    · rw [allL_all]
      have : (x.2.2.2.2.1.all fun m => !farB m) = !x.2.2.2.2.1.any farB := by rw [List.not_any_eq_all_not]
      rw [this]
      cases x.2.2.2.2.1.any farB <;> rfl
  have kb : ∀ c, k8 (c, ()) = if c = false ∧ x.2.2.2.2.1.any farB = false then some true else some false := by
    intro c
    cases c with
    | true => rw [kt, if_neg (by simp)]
    | false => rw [kf]; cases x.2.2.2.2.1.any farB <;> simp
  clear hk8
  show (bif _ then _ else bif _ then _ else bif _ then _ else bif _ then _ else bif _ then _ else bif _ then _ else _) = _
  simp only [Bool.cond_decide, Bool.cond_not, kt, kb, decide_eq_false_iff_not]
  by_cases h : okJ1 x
  · rw [okJ_yes h]
    unfold okJ1 at h
    cases x.2.2.2.2.1.any farB with
    | true =>
      simp only [Bool.true_eq_false, and_false, if_false]; repeat' split
      all_goals first | rfl | (exfalso; omega)
    | false =>
      simp only [and_true]; repeat' split
      all_goals first | rfl | (exfalso; omega)
  · rw [okJ_no h]
    unfold okJ1 at h
    cases x.2.2.2.2.1.any farB with
    | true =>
      simp only [Bool.true_eq_false, and_false, if_false]; repeat' split
      all_goals first | rfl | (exfalso; omega)
    | false =>
      simp only [and_true]; repeat' split
      all_goals first | rfl | (exfalso; omega)
end Go.Proofs.YtllkmncnmlmefaaGreat

namespace Go.Proofs.YtllkmncnmlmefaaGreat
open Go Go.Vc Go.RowKit
set_option synthInstance.maxSize 100000
set_option synthInstance.maxHeartbeats 0
/-! ### accounts -/
def prv (l : List Int) (i : Nat) : Int := if i = 0 then 0 else l.getD (i - 1) 0
theorem prv_s {l : List Int} {i : Nat} (hi : i < l.length) : prv l (i + 1) = l[i] := by
  unfold prv
  rw [if_neg (by omega), show i + 1 - 1 = i by omega, List.getD_eq_getElem?_getD, List.getElem?_eq_getElem hi]; rfl
theorem prv_p {l : List Int} {i : Nat} (h0 : 0 < i) (hi : i - 1 < l.length) : prv l i = l[i - 1] := by
  obtain ⟨j, rfl⟩ : ∃ j, i = j + 1 := ⟨i - 1, by omega⟩
  exact prv_s hi
def cliP (l : List Int) (i : Nat) (c : Int) : Bool := decide (1 ≤ c ∧ c ≤ 16 ∧ (0 < i → prv l i < c))
def cliC (l : List Int) (i : Nat) (c : Int) : Bool := decide (prv l i < c ∧ c ≤ 16)
theorem cli_eq (l : List Int) : allL l (cliC l) = allL l (cliP l) := by
  apply Bool.eq_iff_iff.2
  rw [allL_iff, allL_iff]
  unfold cliC cliP
  simp only [decide_eq_true_eq]
  constructor
  · intro h
    have pos : ∀ i (hi : i < l.length), 1 ≤ l[i] := by
      intro i
      induction i with
      | zero => intro hi; have := (h 0 hi).1; unfold prv at this; rw [if_pos rfl] at this; omega
      | succ i ih => intro hi; have := (h (i + 1) hi).1; rw [prv_s (by omega)] at this; have := ih (by omega); omega
    exact fun i hi => ⟨pos i hi, (h i hi).2, fun _ => (h i hi).1⟩
  · intro h i hi
    refine ⟨?_, (h i hi).2.1⟩
    by_cases h0 : i = 0
    · subst h0; have := (h 0 hi).1; unfold prv; rw [if_pos rfl]; omega
    · exact (h i hi).2.2 (by omega)
theorem cli_len {l : List Int} (h : allL l (cliP l) = true) : l.length ≤ 16 := by
  rw [allL_iff] at h
  unfold cliP at h
  simp only [decide_eq_true_eq] at h
  have up : ∀ i (hi : i < l.length), (i : Int) + 1 ≤ l[i] := by
    intro i
    induction i with
    | zero => intro hi; have := (h 0 hi).1; omega
    | succ i ih => intro hi; have := (h (i + 1) hi).2.2 (by omega); rw [prv_s (by omega)] at this; have := ih (by omega); omega
  by_cases h0 : l.length = 0
  · omega
  · have := up (l.length - 1) (by omega); have := (h (l.length - 1) (by omega)).2.1; omega
def okAH (a : AAccount') : Prop := (1 ≤ a.1 ∧ a.1 ≤ 16) ∧ (1 ≤ a.2.1 ∧ a.2.1 ≤ 8) ∧ (1 ≤ a.2.2.1 ∧ a.2.2.1 ≤ 4) ∧ (a.2.2.1 = 1 → a.2.2.2.1.length = 0) ∧ (a.2.2.1 = 4 → a.2.2.2.1.length ≤ 1)
instance (a : AAccount') : Decidable (okAH a) := by unfold okAH; infer_instance
def okA (a : AAccount') : Bool := decide (okAH a) && allL a.2.2.2.1 (cliP a.2.2.2.1)
theorem r_mostA (k : Int) : acct_most k = some (if k = 1 then 0 else if k = 4 then 1 else 16) := by
  show acct_mostW stdW k = _
  unfold acct_mostW
  by_cases h1 : k = 1
  · rw [cnd_y (by simp [h1]), if_pos h1]
  · rw [cnd_n (by simp [h1]), if_neg h1]
    by_cases h4 : k = 4
    · rw [cnd_y (by simp [h4]), if_pos h4]
    · rw [cnd_n (by simp [h4]), if_neg h4]
theorem r_acCheck {a : AAccount'} (hl : a.2.2.2.1.length ≤ 1000000) : acct_Check a = some (if okA a = true then 0 else 2) := by
  show acct_CheckW stdW a = _
  unfold acct_CheckW
  have e1 : acct_mostW stdW a.2.2.1 = _ := r_mostA _
  rw [e1]
  refine join_g fun k10 hk10 => ?_
  have kf : k10 (false, ()) = some 2 := by subst hk10; rfl
  have kt : k10 (true, ()) = if (1 ≤ a.2.2.1 ∧ a.2.2.1 ≤ 4) ∧ ((a.2.2.2.1.length : Int) ≤ if a.2.2.1 = 1 then 0 else if a.2.2.1 = 4 then 1 else 16) ∧ allL a.2.2.2.1 (cliP a.2.2.2.1) = true then some 0 else some 2 := by
    subst hk10
    show stdW.join _ _ = _
    refine join_g fun k8 hk8 => ?_
    have k8t : k8 (true, ()) = some 2 := by subst hk8; exact cnd_y rfl _ _
    have k8f : k8 (false, ()) = if allL a.2.2.2.1 (cliP a.2.2.2.1) = true then some 0 else some 2 := by
      subst hk8
      refine (cnd_n (c := false) rfl _ _).trans ?_
      refine (loop_all (l := a.2.2.2.1) (by omega) (fun i => (prv a.2.2.2.1 i, ((i : Int), ()))) (cliC a.2.2.2.1) (r := some 0) (no := some 2) rfl (fun again => cnd_end _ _) (fun i hi again => ?_)).trans ?_
      · show stdW.cnd (decide ((i : Int) < (a.2.2.2.1.length : Int))) (stdW.idx _ (i : Int) _) _ = _
        rw [cnd_lt hi, idx_w hi]
        refine join_g fun k hk => ?_
        have k1 : k (true, ()) = some 2 := by subst hk; rfl
        have k2 : k (false, ()) = again (prv a.2.2.2.1 (i + 1), (((i + 1 : Nat) : Int), ())) := by rw [← i64_s i (by omega), prv_s hi]; subst hk; rfl
        clear hk
        show stdW.cnd (decide (a.2.2.2.1[i] ≤ prv a.2.2.2.1 i)) _ _ = _
        unfold cliC
        by_cases h1 : a.2.2.2.1[i] ≤ prv a.2.2.2.1 i
        · rw [cnd_y (decide_eq_true h1), k1, decide_eq_false (by omega)]; rfl
        · rw [cnd_n (decide_eq_false h1)]
          by_cases h2 : 16 < a.2.2.2.1[i]
          · rw [decide_eq_true h2, k1, decide_eq_false (by omega)]; rfl
          · rw [decide_eq_false h2, k2, decide_eq_true (by omega)]; rfl
      · rw [cli_eq]; cases allL a.2.2.2.1 (cliP a.2.2.2.1) <;> rfl
    clear hk8
    refine (cnd_n (c := !true) rfl _ _).trans ?_
    by_cases h1 : a.2.2.1 < 1
    · rw [cnd_y (decide_eq_true h1), k8t, if_neg (by omega)]
    rw [cnd_n (decide_eq_false h1)]
    by_cases h2 : 4 < a.2.2.1
    · rw [cnd_y (decide_eq_true h2), k8t, if_neg (by omega)]
    rw [cnd_n (decide_eq_false h2), call_eq rfl]
    generalize (if a.2.2.1 = 1 then (0 : Int) else if a.2.2.1 = 4 then 1 else 16) = mo
    by_cases h3 : mo < (a.2.2.2.1.length : Int)
    · rw [decide_eq_true h3, k8t, if_neg (by omega)]
    · rw [decide_eq_false h3, k8f]
      by_cases h4 : allL a.2.2.2.1 (cliP a.2.2.2.1) = true
      · rw [if_pos h4, if_pos ⟨by omega, by omega, h4⟩]
      · rw [if_neg h4, if_neg fun h => h4 h.2.2]
  clear hk10
  have e : (if okA a = true then (0 : Int) else 2) = if ((1 ≤ a.1 ∧ a.1 ≤ 16) ∧ (1 ≤ a.2.1 ∧ a.2.1 ≤ 8)) ∧ (1 ≤ a.2.2.1 ∧ a.2.2.1 ≤ 4) ∧ ((a.2.2.2.1.length : Int) ≤ if a.2.2.1 = 1 then 0 else if a.2.2.1 = 4 then 1 else 16) ∧ allL a.2.2.2.1 (cliP a.2.2.2.1) = true then 0 else 2 := by
    by_cases h : okA a = true
    · rw [if_pos h]
      have h' := h
      unfold okA at h'
      rw [Bool.and_eq_true, decide_eq_true_eq] at h'
      have hc := cli_len h'.2
      have hh := h'.1
      unfold okAH at hh
      rw [if_pos ⟨⟨hh.1, hh.2.1⟩, hh.2.2.1, by split <;> (try split) <;> omega, h'.2⟩]
    · rw [if_neg h, if_neg]
      rintro ⟨⟨h1, h2⟩, h3, h4, h5⟩
      refine h ?_
      unfold okA
      rw [Bool.and_eq_true, decide_eq_true_eq]
      refine ⟨?_, h5⟩
      unfold okAH
      refine ⟨h1, h2, h3, fun hk => ?_, fun hk => ?_⟩
      · rw [if_pos hk] at h4; omega
      · rw [if_neg (by omega), if_pos hk] at h4; omega
  rw [e]
  by_cases h1 : 1 ≤ a.1
  · rw [cnd_y (decide_eq_true h1)]
    by_cases h2 : a.1 ≤ 16
    · rw [cnd_y (decide_eq_true h2)]
      by_cases h3 : 1 ≤ a.2.1
      · rw [cnd_y (decide_eq_true h3)]
        by_cases h4 : a.2.1 ≤ 8
        · rw [decide_eq_true h4, kt]
          by_cases h : (1 ≤ a.2.2.1 ∧ a.2.2.1 ≤ 4) ∧ ((a.2.2.2.1.length : Int) ≤ if a.2.2.1 = 1 then 0 else if a.2.2.1 = 4 then 1 else 16) ∧ allL a.2.2.2.1 (cliP a.2.2.2.1) = true
          · rw [if_pos h, if_pos ⟨⟨⟨h1, h2⟩, h3, h4⟩, h⟩]
          · rw [if_neg h, if_neg fun g => h g.2]
        · rw [decide_eq_false h4, kf, if_neg fun g => h4 g.1.2.2]
      · rw [cnd_n (decide_eq_false h3), kf, if_neg fun g => h3 g.1.2.1]
    · rw [cnd_n (decide_eq_false h2), kf, if_neg fun g => h2 g.1.1.2]
  · rw [cnd_n (decide_eq_false h1), kf, if_neg fun g => h1 g.1.1.1]
theorem r_is15b {a : AAccount'} (hl : a.2.2.2.1.length ≤ 1000000) : ref15_Is a = some (okA a) := by
  show ref15_IsW stdW a = _
  unfold ref15_IsW
  refine join_g fun k12 hk12 => ?_
  have kt : k12 (true, ()) = some false := by subst hk12; rfl
  have kf : k12 (false, ()) = some (decide ((a.2.2.1 = 1 → a.2.2.2.1.length = 0) ∧ (a.2.2.1 = 4 → a.2.2.2.1.length ≤ 1)) && allL a.2.2.2.1 (cliP a.2.2.2.1)) := by
    subst hk12
    refine (cnd_n (c := false) rfl _ _).trans ?_
    refine join_g fun k11 hk11 => ?_
    have k11t : k11 (true, ()) = some false := by subst hk11; exact cnd_y rfl _ _
    have k11f : k11 (false, ()) = some (allL a.2.2.2.1 (cliP a.2.2.2.1)) := by
      subst hk11
      refine (cnd_n (c := false) rfl _ _).trans ?_
      refine (loop_all (l := a.2.2.2.1) (by omega) (fun i => ((i : Int), ())) (cliP a.2.2.2.1) (r := some true) (no := some false) rfl (fun again => cnd_end _ _) (fun i hi again => ?_)).trans ?_
      · show stdW.cnd (decide ((i : Int) < (a.2.2.2.1.length : Int))) _ _ = _
        rw [cnd_lt hi]
        refine join_g fun k hk => ?_
        have k1 : k (true, ()) = some false := by subst hk; rfl
        have k2 : k (false, ()) = again (((i + 1 : Nat) : Int), ()) := by rw [← i64_s i (by omega)]; subst hk; rfl
        clear hk
        show stdW.idx _ (i : Int) _ = _
        rw [idx_w hi]
        unfold cliP
        by_cases h1 : a.2.2.2.1[i] < 1
        · rw [cnd_y (decide_eq_true h1), k1, decide_eq_false (by omega)]; rfl
        · rw [cnd_n (decide_eq_false h1)]
          show stdW.idx _ (i : Int) _ = _
          rw [idx_w hi]
          by_cases h2 : 16 < a.2.2.2.1[i]
          · rw [cnd_y (decide_eq_true h2), k1, decide_eq_false (by omega)]; rfl
          · rw [cnd_n (decide_eq_false h2)]
            by_cases h0 : 0 < i
            · rw [cnd_y (decide_eq_true (by show (0 : Int) < (i : Int); omega))]
              show stdW.idx _ (i : Int) _ = _
              rw [idx_w hi]
              show stdW.idx _ (IntKind.i64.wrap ((i : Int) - 1)) _ = _
              rw [i64_pred i h0 (by rw [maxLen_eq]; omega), idx_w (by omega)]
              have ep := prv_p h0 (by omega : i - 1 < a.2.2.2.1.length)
              by_cases h3 : a.2.2.2.1[i] ≤ a.2.2.2.1[i - 1]
              · rw [decide_eq_true h3, k1, decide_eq_false (fun h => by have := h.2.2 h0; omega)]; rfl
              · rw [decide_eq_false h3, k2, decide_eq_true ⟨by omega, by omega, fun _ => by omega⟩]; rfl
            · rw [cnd_n (decide_eq_false (by show ¬ (0 : Int) < (i : Int); omega)), k2, decide_eq_true ⟨by omega, by omega, fun h => absurd h h0⟩]; rfl
      · cases allL a.2.2.2.1 (cliP a.2.2.2.1) <;> rfl
    clear hk11
    by_cases h1 : a.2.2.1 = 1
    · rw [cnd_y (by simp [h1])]
      by_cases h2 : 0 < (a.2.2.2.1.length : Int)
      · rw [cnd_y (decide_eq_true h2), k11t, decide_eq_false (by omega)]; rfl
      · rw [cnd_n (decide_eq_false h2), cnd_n (by simp [h1]), k11f, decide_eq_true (by omega), Bool.true_and]
    · rw [cnd_n (by simp [h1])]
      by_cases h4 : a.2.2.1 = 4
      · rw [cnd_y (by simp [h4])]
        by_cases h2 : 1 < (a.2.2.2.1.length : Int)
        · rw [decide_eq_true h2, k11t, decide_eq_false (by omega)]; rfl
        · rw [decide_eq_false h2, k11f, decide_eq_true (by omega), Bool.true_and]
      · rw [cnd_n (by simp [h4]), k11f, decide_eq_true (by omega), Bool.true_and]
  clear hk12
  have e : okA a = (decide ((1 ≤ a.1 ∧ a.1 ≤ 16) ∧ (1 ≤ a.2.1 ∧ a.2.1 ≤ 8) ∧ (1 ≤ a.2.2.1 ∧ a.2.2.1 ≤ 4)) && (decide ((a.2.2.1 = 1 → a.2.2.2.1.length = 0) ∧ (a.2.2.1 = 4 → a.2.2.2.1.length ≤ 1)) && allL a.2.2.2.1 (cliP a.2.2.2.1))) := by
    unfold okA
    rw [← Bool.and_assoc]
    congr 1
    apply Bool.eq_iff_iff.2
    rw [Bool.and_eq_true, decide_eq_true_eq, decide_eq_true_eq, decide_eq_true_eq]
    unfold okAH
    constructor
    · rintro ⟨h1, h2, h3, h4⟩; exact ⟨⟨h1, h2, h3⟩, h4⟩
    · rintro ⟨⟨h1, h2, h3⟩, h4⟩; exact ⟨h1, h2, h3, h4⟩
  rw [e]
  have no : ∀ (P : Prop) [Decidable P] (X : Bool), ¬ P → (some false : Option Bool) = some (decide P && X) := fun P _ X h => by rw [decide_eq_false h]; rfl
  by_cases h1 : a.1 < 1
  · rw [cnd_y (decide_eq_true h1), kt]; exact no _ _ (by omega)
  rw [cnd_n (decide_eq_false h1)]
  by_cases h2 : 16 < a.1
  · rw [cnd_y (decide_eq_true h2), kt]; exact no _ _ (by omega)
  rw [cnd_n (decide_eq_false h2)]
  by_cases h3 : a.2.1 < 1
  · rw [cnd_y (decide_eq_true h3), kt]; exact no _ _ (by omega)
  rw [cnd_n (decide_eq_false h3)]
  by_cases h4 : 8 < a.2.1
  · rw [cnd_y (decide_eq_true h4), kt]; exact no _ _ (by omega)
  rw [cnd_n (decide_eq_false h4)]
  by_cases h5 : a.2.2.1 < 1
  · rw [cnd_y (decide_eq_true h5), kt]; exact no _ _ (by omega)
  rw [cnd_n (decide_eq_false h5)]
  by_cases h6 : 4 < a.2.2.1
  · rw [decide_eq_true h6, kt]; exact no _ _ (by omega)
  rw [decide_eq_false h6, kf, decide_eq_true (p := (1 ≤ a.1 ∧ a.1 ≤ 16) ∧ (1 ≤ a.2.1 ∧ a.2.1 ≤ 8) ∧ (1 ≤ a.2.2.1 ∧ a.2.2.1 ≤ 4)) (by omega), Bool.true_and]
end Go.Proofs.YtllkmncnmlmefaaGreat

namespace Go.Proofs.YtllkmncnmlmefaaGreat
open Go Go.Vc Go.RowKit
set_option synthInstance.maxSize 100000
set_option synthInstance.maxHeartbeats 0
/-! ### what is sought by its number; units -/
theorem seek_x {X α γ : Type} {l : List α} (hn : l.length < 9223372036854775808) {F : X → (X → Option (γ × Bool × Unit)) → Option (γ × Bool × Unit)} (st : Nat → X) (p : α → Bool) (e : Nat → γ) {d : γ} {z0 : X} (hz : z0 = st 0)
    (hend : ∀ again : X → Option (γ × Bool × Unit), F (st l.length) again = some (d, (false, ())))
    (hstep : ∀ i (hi : i < l.length), ∀ again : X → Option (γ × Bool × Unit), F (st i) again = bif p l[i] then some (e i, (true, ())) else again (st (i + 1))) :
    ∃ x, stdW.loop F z0 = some (x, (l.any p, ())) := by
  rcases loop_seek hn st p (fun i => some (e i, (true, ()))) hz hend hstep with ⟨h1, i, h2, h3⟩ | ⟨h1, h3⟩
  · exact ⟨_, by rw [h1]; exact h3⟩
  · exact ⟨_, by rw [h1]; exact h3⟩
theorem seek_b {X α : Type} {l : List α} (hn : l.length < 9223372036854775808) {F : X → (X → Option Bool) → Option Bool} (st : Nat → X) (p : α → Bool) {z0 : X} (hz : z0 = st 0)
    (hend : ∀ again : X → Option Bool, F (st l.length) again = some false)
    (hstep : ∀ i (hi : i < l.length), ∀ again : X → Option Bool, F (st i) again = bif p l[i] then some true else again (st (i + 1))) :
    stdW.loop F z0 = some (l.any p) := by
  rcases loop_seek hn st p (fun i => some true) hz hend hstep with ⟨h1, i, h2, h3⟩ | ⟨h1, h3⟩
  · rw [h1]; exact h3
  · rw [h1]; exact h3
theorem r_find14 {l : List AMember'} {id : Int} (hl : l.length ≤ 1000000) : ∃ x, ref14_Find l id = some (x, (l.any (fun y => y.1 == id), ())) := by
  show ∃ x, ref14_FindW stdW l id = _
  unfold ref14_FindW
  refine seek_x (l := l) (by omega) (fun i => ((i : Int), ())) (fun y => y.1 == id) (fun i => l.getD i default) (z0 := (0, ())) rfl (fun again => cnd_end _ _) (fun i hi again => ?_)
  show stdW.cnd (decide ((i : Int) < (l.length : Int))) (stdW.idx l (i : Int) _) _ = _
  have e : l.getD i default = l[i] := by rw [List.getD_eq_getElem?_getD, List.getElem?_eq_getElem hi]; rfl
  rw [cnd_lt hi, idx_w hi, i64_s i (by omega), e]
  cases hc : (l[i].1 == id) with
  | true =>
    rw [cnd_y rfl]
    show stdW.idx l (i : Int) _ = _
    rw [idx_w hi]
    rfl
  | false => rw [cnd_n rfl]; rfl
theorem r_find13 {l : List AInst'} {id : Int} (hl : l.length ≤ 1000000) : ∃ x, ref13_Find l id = some (x, (l.any (fun y => y.1 == id), ())) := by
  show ∃ x, ref13_FindW stdW l id = _
  unfold ref13_FindW
  refine seek_x (l := l) (by omega) (fun i => ((i : Int), ())) (fun y => y.1 == id) (fun i => l.getD i default) (z0 := (0, ())) rfl (fun again => cnd_end _ _) (fun i hi again => ?_)
  show stdW.cnd (decide ((i : Int) < (l.length : Int))) (stdW.idx l (i : Int) _) _ = _
  have e : l.getD i default = l[i] := by rw [List.getD_eq_getElem?_getD, List.getElem?_eq_getElem hi]; rfl
  rw [cnd_lt hi, idx_w hi, i64_s i (by omega), e]
  cases hc : (l[i].1 == id) with
  | true =>
    rw [cnd_y rfl]
    show stdW.idx l (i : Int) _ = _
    rw [idx_w hi]
    rfl
  | false => rw [cnd_n rfl]; rfl
theorem r_find12b {l : List ALot'} {id : Int} (hl : l.length ≤ 1000000) : ∃ x, ref12_Find l id = some (x, (l.any (fun y => y.1 == id), ())) := by
  show ∃ x, ref12_FindW stdW l id = _
  unfold ref12_FindW
  refine seek_x (l := l) (by omega) (fun i => ((i : Int), ())) (fun y => y.1 == id) (fun i => l.getD i default) (z0 := (0, ())) rfl (fun again => cnd_end _ _) (fun i hi again => ?_)
  show stdW.cnd (decide ((i : Int) < (l.length : Int))) (stdW.idx l (i : Int) _) _ = _
  have e : l.getD i default = l[i] := by rw [List.getD_eq_getElem?_getD, List.getElem?_eq_getElem hi]; rfl
  rw [cnd_lt hi, idx_w hi, i64_s i (by omega), e]
  cases hc : (l[i].1 == id) with
  | true =>
    rw [cnd_y rfl]
    show stdW.idx l (i : Int) _ = _
    rw [idx_w hi]
    rfl
  | false => rw [cnd_n rfl]; rfl
theorem r_asFindB {l : List ALot'} {id : Int} (hl : l.length ≤ 1000000) : ∃ x, asset_Find l id = some (x, (l.any (fun y => y.1 == id), ())) := by
  show ∃ x, asset_FindW stdW l id = _
  unfold asset_FindW
  refine seek_x (l := l) (by omega) (fun i => ((i : Int), ())) (fun y => y.1 == id) (fun i => l.getD i default) (z0 := (0, ())) rfl (fun again => cnd_end _ _) (fun i hi again => ?_)
  show stdW.cnd (decide ((i : Int) < (l.length : Int))) (stdW.idx l (i : Int) _) _ = _
  have e : l.getD i default = l[i] := by rw [List.getD_eq_getElem?_getD, List.getElem?_eq_getElem hi]; rfl
  rw [cnd_lt hi, idx_w hi, i64_s i (by omega), e]
theorem r_memFindX {l : List AMember'} {id : Int} (hl : l.length ≤ 1000000) : (l.any (fun y => y.1 == id) = true ∧ ∃ i : Nat, i < l.length ∧ member_at l id = some (i : Int)) ∨ (l.any (fun y => y.1 == id) = false ∧ member_at l id = some (-1)) := by
  have key : (l.any (fun y => y.1 == id) = true ∧ ∃ i : Nat, i < l.length ∧ slices_IndexFuncapi_Member_api_Member_member_at_1W stdW id l = some ((i : Int), (id, ()))) ∨ (l.any (fun y => y.1 == id) = false ∧ slices_IndexFuncapi_Member_api_Member_member_at_1W stdW id l = some (-1, (id, ()))) := by
    unfold slices_IndexFuncapi_Member_api_Member_member_at_1W
    refine loop_seek (l := l) (by omega) (fun i => ((i : Int), (id, ()))) (fun y => y.1 == id) (fun i => some ((i : Int), (id, ()))) (z0 := (0, (id, ()))) rfl (fun again => ?_) (fun i hi again => ?_)
    · show stdW.cnd (decide ((l.length : Int) < (l.length : Int))) _ _ = _
      rw [cnd_end]
    · show stdW.cnd (decide ((i : Int) < (l.length : Int))) (stdW.idx l (i : Int) _) _ = _
      rw [cnd_lt hi, idx_w hi, call_eq (show member_at_1W stdW id l[i] = some ((l[i].1 == id), (id, ())) from rfl)]
      cases hc : (l[i].1 == id) with
      | true => rfl
      | false =>
        show again (IntKind.i64.wrap ((i : Int) + 1), (id, ())) = _
        rw [i64_s i (by omega)]; rfl
  show (_ ∧ ∃ i : Nat, _ ∧ member_atW stdW l id = _) ∨ (_ ∧ member_atW stdW l id = _)
  unfold member_atW
  rcases key with ⟨h1, i, h2, h3⟩ | ⟨h1, h3⟩
  · exact .inl ⟨h1, i, h2, call_eq h3 _⟩
  · exact .inr ⟨h1, call_eq h3 _⟩
theorem r_instFindX {l : List AInst'} {id : Int} (hl : l.length ≤ 1000000) : (l.any (fun y => y.1 == id) = true ∧ ∃ i : Nat, i < l.length ∧ inst_at l id = some (i : Int)) ∨ (l.any (fun y => y.1 == id) = false ∧ inst_at l id = some (-1)) := by
  have key : (l.any (fun y => y.1 == id) = true ∧ ∃ i : Nat, i < l.length ∧ slices_IndexFuncapi_Inst_api_Inst_inst_at_1W stdW id l = some ((i : Int), (id, ()))) ∨ (l.any (fun y => y.1 == id) = false ∧ slices_IndexFuncapi_Inst_api_Inst_inst_at_1W stdW id l = some (-1, (id, ()))) := by
    unfold slices_IndexFuncapi_Inst_api_Inst_inst_at_1W
    refine loop_seek (l := l) (by omega) (fun i => ((i : Int), (id, ()))) (fun y => y.1 == id) (fun i => some ((i : Int), (id, ()))) (z0 := (0, (id, ()))) rfl (fun again => ?_) (fun i hi again => ?_)
    · show stdW.cnd (decide ((l.length : Int) < (l.length : Int))) _ _ = _
      rw [cnd_end]
    · show stdW.cnd (decide ((i : Int) < (l.length : Int))) (stdW.idx l (i : Int) _) _ = _
      rw [cnd_lt hi, idx_w hi, call_eq (show inst_at_1W stdW id l[i] = some ((l[i].1 == id), (id, ())) from rfl)]
      cases hc : (l[i].1 == id) with
      | true => rfl
      | false =>
        show again (IntKind.i64.wrap ((i : Int) + 1), (id, ())) = _
        rw [i64_s i (by omega)]; rfl
  show (_ ∧ ∃ i : Nat, _ ∧ inst_atW stdW l id = _) ∨ (_ ∧ inst_atW stdW l id = _)
  unfold inst_atW
  rcases key with ⟨h1, i, h2, h3⟩ | ⟨h1, h3⟩
  · exact .inl ⟨h1, i, h2, call_eq h3 _⟩
  · exact .inr ⟨h1, call_eq h3 _⟩
theorem r_memFind {l : List AMember'} {id : Int} (hl : l.length ≤ 1000000) : ∃ x, member_Find l id = some (x, (l.any (fun y => y.1 == id), ())) := by
  show ∃ x, member_FindW stdW l id = _
  unfold member_FindW
  rcases r_memFindX (id := id) hl with ⟨h1, i, h2, h3⟩ | ⟨h1, h3⟩
  · rw [h1]
    refine ⟨l[i], (call_eq h3 _).trans ?_⟩
    rw [cnd_n (decide_eq_false (by omega)), idx_w h2]
  · rw [h1]; exact ⟨_, (call_eq h3 _).trans (cnd_y (by decide) _ _)⟩
theorem r_cloneL {l : List Int} (hl : l.length ≤ 1000000) : slices_Cloneint64_int64 l = some l := by
  show slices_Cloneint64_int64W stdW l = _
  unfold slices_Cloneint64_int64W
  rw [nilq_w]
  refine nilF_eq ?_ ?_
  · rw [cnd_n (by rfl), room_w (by omega) (by omega)]; rfl
  · intro h
    rw [cnd_y (by rfl), List.isEmpty_iff.1 h]
theorem r_instFind {l : List AInst'} {id : Int} (hl : l.length ≤ 1000000) (hm : ∀ x ∈ l, x.2.2.2.2.1.length ≤ 1000000) : ∃ x, inst_Find l id = some (x, (l.any (fun y => y.1 == id), ())) := by
  show ∃ x, inst_FindW stdW l id = _
  unfold inst_FindW
  rcases r_instFindX (id := id) hl with ⟨h1, i, h2, h3⟩ | ⟨h1, h3⟩
  · rw [h1]
    have ho : inst_ownW stdW l[i] = some l[i] := by
      unfold inst_ownW
      exact call_eq (r_cloneL (hm _ (List.getElem_mem h2))) _
    refine ⟨l[i], (call_eq h3 _).trans ?_⟩
    rw [cnd_n (decide_eq_false (by omega)), idx_w h2, call_eq ho]
  · rw [h1]; exact ⟨_, (call_eq h3 _).trans (cnd_y (by decide) _ _)⟩
/-- units of all accounts -/
def unitsS (s : AState') : List AUnit' := s.2.2.2.2.1.flatMap unitsA
def hasS (s : AState') (u : AUnit') : Bool := decide (u ∈ unitsS s)
theorem r_has33 {s : AState'} {u : AUnit'} (hl : s.2.2.2.2.1.length ≤ 1000) (hc : ∀ a ∈ s.2.2.2.2.1, a.2.2.2.1.length ≤ 1000) : ref33_Has s u = some (hasS s u) := by
  show ref33_HasW stdW s u = _
  unfold ref33_HasW
  have e : hasS s u = s.2.2.2.2.1.any fun a => decide (u ∈ unitsA a) := by
    apply Bool.eq_iff_iff.2
    unfold hasS unitsS
    rw [decide_eq_true_eq, List.mem_flatMap, List.any_eq_true]
    constructor
    · rintro ⟨a, h1, h2⟩; exact ⟨a, h1, decide_eq_true h2⟩
    · rintro ⟨a, h1, h2⟩; exact ⟨a, h1, of_decide_eq_true h2⟩
  rw [e]
  refine seek_b (l := s.2.2.2.2.1) (by omega) (fun i => ((i : Int), ())) (fun a => decide (u ∈ unitsA a)) (z0 := (0, ())) rfl (fun again => cnd_end _ _) (fun i hi again => ?_)
  show stdW.cnd (decide ((i : Int) < (s.2.2.2.2.1.length : Int))) (stdW.idx _ (i : Int) _) _ = _
  rw [cnd_lt hi, idx_w hi, call_eq (r_has (hc _ (List.getElem_mem hi))), i64_s i (by omega)]
theorem unitsA_lenL {a : AAccount'} (h : a.2.2.2.1.length ≤ 1000) : (unitsA a).length ≤ 1000 := by
  unfold unitsA; split
  · simp
  · rw [List.length_map]; exact h
theorem flatU_len {l : List AAccount'} (hc : ∀ a ∈ l, a.2.2.2.1.length ≤ 1000) : (l.flatMap unitsA).length ≤ 1000 * l.length := by
  induction l with
  | nil => simp
  | cons a l ih =>
    rw [List.flatMap_cons, List.length_append, List.length_cons]
    have h1 := unitsA_lenL (hc a List.mem_cons_self)
    have h2 := ih fun b hb => hc b (List.mem_cons_of_mem _ hb)
    omega
theorem r_unitsS {s : AState'} (hl : s.2.2.2.2.1.length ≤ 1000) (hc : ∀ a ∈ s.2.2.2.2.1, a.2.2.2.1.length ≤ 1000) : ledger_Units s = some (unitsS s) := by
  show ledger_UnitsW stdW s = _
  unfold ledger_UnitsW unitsS
  refine loop_az (N := s.2.2.2.2.1.length) (by omega) (fun i => ((i : Int), ((s.2.2.2.2.1.take i).flatMap unitsA, ()))) _ rfl ?_ ?_
  · intro again
    show stdW.cnd (decide ((s.2.2.2.2.1.length : Int) < (s.2.2.2.2.1.length : Int))) _ (some _) = _
    rw [cnd_end, List.take_length]
  · intro i hi again ha
    show stdW.cnd (decide ((i : Int) < (s.2.2.2.2.1.length : Int))) (stdW.idx _ (i : Int) _) _ = _
    rw [cnd_lt hi, idx_w hi, call_eq (r_aunits (hc _ (List.getElem_mem hi)))]
    have h1 : ((s.2.2.2.2.1.take i).flatMap unitsA).length ≤ 1000 * 1000 := Nat.le_trans (flatU_len fun a ha => hc a (List.mem_of_mem_take ha)) (Nat.mul_le_mul_left _ (by rw [List.length_take]; omega))
    have h2 := unitsA_lenL (hc _ (List.getElem_mem hi))
    show stdW.room (((s.2.2.2.2.1.take i).flatMap unitsA).length + (unitsA s.2.2.2.2.1[i]).length) 16 (again (IntKind.i64.wrap ((i : Int) + 1), ((s.2.2.2.2.1.take i).flatMap unitsA ++ unitsA s.2.2.2.2.1[i], ()))) = _
    rw [room_w (by omega) (by omega), i64_s i (by omega)]
    rw [List.take_succ_eq_append_getElem hi, List.flatMap_append, List.flatMap_singleton] at ha
    exact ha
theorem memAdd (ks : List KU) (x u : KU) : memU u (addU ks x) = (memU u ks || decide (u = x)) := by
  apply Bool.eq_iff_iff.2
  rw [memU_iff, addU_cases, Bool.or_eq_true, memU_iff, decide_eq_true_eq]
  split
  · rename_i h
    exact ⟨fun g => .inl g, fun g => g.elim id fun e => e ▸ h⟩
  · rw [List.mem_append, List.mem_singleton]
def setU (l : List KU) : List KU := l.foldl addU []
theorem memFold (u : KU) : ∀ (l ks : List KU), memU u (l.foldl addU ks) = (memU u ks || decide (u ∈ l))
  | [], ks => by simp
  | x :: l, ks => by
    rw [List.foldl_cons, memFold u l, memAdd, Bool.or_assoc]
    congr 1
    apply Bool.eq_iff_iff.2
    rw [Bool.or_eq_true, decide_eq_true_eq, decide_eq_true_eq, decide_eq_true_eq, List.mem_cons]
theorem mem_setU (u : KU) (l : List KU) : memU u (setU l) = decide (u ∈ l) := by
  unfold setU
  rw [memFold]
  have : memU u [] = false := by cases h : memU u [] with
    | false => rfl
    | true => exact absurd (memU_iff.1 h) (by simp)
  rw [this, Bool.false_or]
/-! ### choices -/
def chP (l : List AChoice') (i : Nat) (x : AChoice') : Bool := decide (x.1 ≠ x.2.1 ∧ (∀ (h0 : 0 < i) (hi : i - 1 < l.length), ltA l[i - 1].1 x.1))
theorem eqUL2 (a b : AUnit') : (notIf false ((a.1 == b.1) && (a.2.1 == b.2.1))) = decide (a = b) := by
  obtain ⟨a1, a2, _⟩ := a
  obtain ⟨b1, b2, _⟩ := b
  apply Bool.eq_iff_iff.2
  rw [decide_eq_true_eq]
  show ((a1 == b1) && (a2 == b2)) = true ↔ _
  simp
theorem r_elect {l : List AChoice'} (hl : l.length ≤ 1000000) : elect_Is l = some (allL l (chP l)) := by
  show elect_IsW stdW l = _
  unfold elect_IsW
  refine (loop_all (l := l) (by omega) (fun i => ((i : Int), ())) (chP l) (r := some true) (no := some false) rfl (fun again => cnd_end _ _) (fun i hi again => ?_)).trans (by cases allL l (chP l) <;> rfl)
  show stdW.cnd (decide ((i : Int) < (l.length : Int))) (stdW.idx _ (i : Int) _) _ = _
  rw [cnd_lt hi, idx_w hi]
  refine join_g fun k hk => ?_
  have k1 : k (true, ()) = some false := by subst hk; rfl
  have k2 : k (false, ()) = again (((i + 1 : Nat) : Int), ()) := by rw [← i64_s i (by omega)]; subst hk; rfl
  clear hk
  show stdW.cnd (notIf false ((l[i].1.1 == l[i].2.1.1) && (l[i].1.2.1 == l[i].2.1.2.1))) _ _ = _
  rw [eqUL2]
  unfold chP
  by_cases h1 : l[i].1 = l[i].2.1
  · rw [cnd_y (decide_eq_true h1), k1, decide_eq_false (fun h => h.1 h1)]; rfl
  · rw [cnd_n (decide_eq_false h1)]
    by_cases h0 : 0 < i
    · rw [cnd_y (decide_eq_true (by show (0 : Int) < (i : Int); omega))]
      show stdW.idx _ (IntKind.i64.wrap ((i : Int) - 1)) _ = _
      rw [i64_pred i h0 (by rw [maxLen_eq]; omega), idx_w (by omega), call_eq (r_lessA _ _)]
      by_cases h3 : ltA l[i - 1].1 l[i].1
      · rw [decide_eq_true h3]; refine k2.trans ?_; rw [decide_eq_true ⟨h1, fun _ _ => h3⟩]; rfl
      · rw [decide_eq_false h3]; refine k1.trans ?_; rw [decide_eq_false fun h => h3 (h.2 h0 (by omega))]; rfl
    · rw [cnd_n (decide_eq_false (by show ¬ (0 : Int) < (i : Int); omega)), k2, decide_eq_true ⟨h1, fun h => absurd h h0⟩]; rfl
theorem r_is16 {l : List AChoice'} (hl : l.length ≤ 1000000) : ref16_Is l = some (allL l (chP l)) := by
  show ref16_IsW stdW l = _
  unfold ref16_IsW
  refine (loop_all (l := l) (by omega) (fun i => ((i : Int), ())) (chP l) (r := some true) (no := some false) rfl (fun again => cnd_end _ _) (fun i hi again => ?_)).trans (by cases allL l (chP l) <;> rfl)
  show stdW.cnd (decide ((i : Int) < (l.length : Int))) _ _ = _
  rw [cnd_lt hi]
  refine join_g fun k hk => ?_
  have k1 : k (true, ()) = some false := by subst hk; rfl
  have k2 : k (false, ()) = again (((i + 1 : Nat) : Int), ()) := by rw [← i64_s i (by omega)]; subst hk; rfl
  clear hk
  show stdW.idx _ (i : Int) _ = _
  rw [idx_w hi]
  show stdW.idx _ (i : Int) _ = _
  rw [idx_w hi]
  show stdW.cnd (notIf false ((l[i].1.1 == l[i].2.1.1) && (l[i].1.2.1 == l[i].2.1.2.1))) _ _ = _
  rw [eqUL2]
  unfold chP
  by_cases h1 : l[i].1 = l[i].2.1
  · rw [cnd_y (decide_eq_true h1), k1, decide_eq_false (fun h => h.1 h1)]; rfl
  · rw [cnd_n (decide_eq_false h1)]
    by_cases h0 : 0 < i
    · rw [cnd_y (decide_eq_true (by show (0 : Int) < (i : Int); omega))]
      show stdW.idx _ (IntKind.i64.wrap ((i : Int) - 1)) _ = _
      rw [i64_pred i h0 (by rw [maxLen_eq]; omega), idx_w (by omega)]
      show stdW.idx _ (i : Int) _ = _
      rw [idx_w hi, call_eq (r_less15 _ _)]
      by_cases h3 : ltA l[i - 1].1 l[i].1
      · rw [decide_eq_true h3]; refine k2.trans ?_; rw [decide_eq_true ⟨h1, fun _ _ => h3⟩]; rfl
      · rw [decide_eq_false h3]; refine k1.trans ?_; rw [decide_eq_false fun h => h3 (h.2 h0 (by omega))]; rfl
    · rw [cnd_n (decide_eq_false (by show ¬ (0 : Int) < (i : Int); omega)), k2, decide_eq_true ⟨h1, fun h => absurd h h0⟩]; rfl
end Go.Proofs.YtllkmncnmlmefaaGreat

namespace Go.Proofs.YtllkmncnmlmefaaGreat
open Go Go.Vc Go.RowKit
set_option synthInstance.maxSize 100000
set_option synthInstance.maxHeartbeats 0
abbrev Leg := AUnit'
def VInv (l : List Leg) : Prop := (∀ x ∈ l, (1 ≤ x.1 ∧ x.1 ≤ 8) ∧ x.2.1 ≠ 0) ∧ (l.map (·.1)).Pairwise (· < ·)
instance (l : List Leg) : Decidable (VInv l) := by unfold VInv; infer_instance
def isV (l : List Leg) : Bool := decide (VInv l)
theorem isV_bad {l : List Leg} {i : Nat} (hi : i < l.length) (h : ¬ ((1 ≤ l[i].1 ∧ l[i].1 ≤ 8) ∧ l[i].2.1 ≠ 0)) : isV l = false :=
  decide_eq_false fun hp => h (hp.1 _ (List.getElem_mem hi))
theorem isV_bad1 {l : List Leg} {i : Nat} (hi : i < l.length) (h0 : 0 < i) (h : ¬ (l[i - 1]'(by omega)).1 < l[i].1) : isV l = false :=
  decide_eq_false fun hp => h (by
    have := List.pairwise_iff_getElem.1 hp.2 (i - 1) i (by simp; omega) (by simpa using hi) (by omega)
    simpa using this)
theorem isV_next {l : List Leg} {i : Nat} (hi : i < l.length) (inv : VInv (l.take i)) (h1 : (1 ≤ l[i].1 ∧ l[i].1 ≤ 8) ∧ l[i].2.1 ≠ 0) (h2 : ∀ h0 : 0 < i, (l[i - 1]'(by omega)).1 < l[i].1) : VInv (l.take (i + 1)) := by
  rw [List.take_succ_eq_append_getElem hi]
  refine ⟨fun x hx => ?_, ?_⟩
  · rcases List.mem_append.1 hx with hx | hx
    · exact inv.1 x hx
    · simp only [List.mem_singleton] at hx; rw [hx]; exact h1
  · show ((l.take i ++ [l[i]]).map (·.1)).Pairwise (· < ·)
    rw [List.map_append]
    refine List.pairwise_append.2 ⟨inv.2, by simp, fun a ha b hb => ?_⟩
    simp only [List.map_cons, List.map_nil, List.mem_singleton] at hb
    subst hb
    obtain ⟨k, hk, hka⟩ := List.mem_iff_getElem.1 ha
    have hk' : k < i := by simp at hk; omega
    have h3 := h2 (by omega)
    by_cases hki : k = i - 1
    · subst hki; rw [← hka]; simpa using h3
    · have h4 := List.pairwise_iff_getElem.1 inv.2 k (i - 1) (by simpa using hk) (by simp; omega) (by omega)
      rw [hka] at h4
      refine Int.lt_trans h4 ?_
      simpa using h3
theorem isV_end {l : List Leg} (h : VInv (l.take l.length)) : isV l = true := by rw [List.take_length] at h; exact decide_eq_true h
def lastV (l : List Leg) (i : Nat) : Int := if h : 0 < i ∧ i ≤ l.length then (l[i - 1]'(by omega)).1 else 0
theorem lastV_s {l : List Leg} {i : Nat} (h : i < l.length) : lastV l (i + 1) = l[i].1 := by
  unfold lastV; rw [dif_pos ⟨by omega, by omega⟩]; rfl
theorem r_isV {l : List Leg} (hl : l.length ≤ 1000000) : vec_Is l = some (isV l) := by
  show vec_IsW stdW l = _
  unfold vec_IsW
  refine loop_ai (N := l.length) (by omega) (fun i => (lastV l i, ((i : Int), ()))) (fun i => VInv (l.take i)) (some (isV l)) (by unfold lastV; simp) (by simp [VInv]) ?_ ?_
  · intro h again
    show stdW.cnd (decide ((l.length : Int) < (l.length : Int))) _ _ = _
    rw [cnd_end, isV_end h]
  · intro i hi inv again ha
    show stdW.cnd (decide ((i : Int) < (l.length : Int))) (stdW.idx l (i : Int) _) _ = _
    rw [cnd_lt hi, idx_w hi]
    refine join_g fun k hk => ?_
    have kt : k (true, ()) = some false := by subst hk; rfl
    have kf : k (false, ()) = again (lastV l (i + 1), (((i + 1 : Nat) : Int), ())) := by rw [← i64_s i (by omega), lastV_s hi]; subst hk; rfl
    clear hk
    show stdW.cnd (decide (l[i].1 ≤ lastV l i)) _ _ = _
    by_cases h1 : l[i].1 ≤ lastV l i
    · rw [cnd_y (decide_eq_true h1), kt]
      unfold lastV at h1
      by_cases h0 : 0 < i
      · rw [dif_pos ⟨h0, by omega⟩] at h1
        rw [isV_bad1 hi h0 (by omega)]
      · rw [dif_neg (by omega)] at h1
        rw [isV_bad hi (by omega)]
    · rw [cnd_n (decide_eq_false h1)]
      by_cases h2 : 8 < l[i].1
      · rw [cnd_y (decide_eq_true h2), kt, isV_bad hi (by omega)]
      · rw [cnd_n (decide_eq_false h2)]
        by_cases h3 : l[i].2.1 = 0
        · rw [show (l[i].2.1 == 0) = true by simpa using h3, kt, isV_bad hi (by simp [h3])]
        · rw [show (l[i].2.1 == 0) = false by simpa using h3, kf]
          have hpos : 1 ≤ l[i].1 := by
            unfold lastV at h1
            by_cases h0 : 0 < i
            · rw [dif_pos ⟨h0, by omega⟩] at h1
              have := (inv.1 (l[i - 1]'(by omega)) (List.mem_iff_getElem.2 ⟨i - 1, by simp; omega, by simp⟩)).1.1
              omega
            · rw [dif_neg (by omega)] at h1; omega
          refine ha (isV_next hi inv ⟨⟨hpos, by omega⟩, h3⟩ fun h0 => ?_)
          unfold lastV at h1
          rw [dif_pos ⟨h0, by omega⟩] at h1; omega
theorem r_isV11 {l : List Leg} (hl : l.length ≤ 1000000) : ref11_Is l = some (isV l) := by
  show ref11_IsW stdW l = _
  unfold ref11_IsW
  refine loop_n (N := l.length) (by omega) (fun i _ => VInv (l.take i)) (some (isV l)) (by simp [VInv]) ?_ ?_
  · rintro _ again h
    rw [cnd_end, isV_end h]
  · rintro i hi _ inv again ha
    rw [cnd_lt hi]
    refine join_g fun k hk => ?_
    have kt : k (true, ()) = some false := by subst hk; rfl
    have kf : k (false, ()) = again (((i + 1 : Nat) : Int), ()) := by rw [← i64_s i (by omega)]; subst hk; rfl
    clear hk
    rw [idx_w hi]
    by_cases h1 : l[i].1 < 1
    · rw [cnd_y (decide_eq_true h1), kt, isV_bad hi (by omega)]
    rw [cnd_n (decide_eq_false h1), idx_w hi]
    by_cases h2 : 8 < l[i].1
    · rw [cnd_y (decide_eq_true h2), kt, isV_bad hi (by omega)]
    rw [cnd_n (decide_eq_false h2), idx_w hi]
    by_cases h3 : l[i].2.1 = 0
    · rw [cnd_y (by simpa using h3), kt, isV_bad hi (by simp [h3])]
    rw [cnd_n (by simpa using h3)]
    by_cases h0 : 0 < i
    · rw [cnd_y (decide_eq_true (by omega)), i64_pred i h0 (by rw [maxLen_eq]; omega), idx_w (by omega), idx_w hi]
      by_cases h4 : l[i].1 ≤ (l[i - 1]'(by omega)).1
      · rw [decide_eq_true h4, kt, isV_bad1 hi h0 (by omega)]
      · rw [decide_eq_false h4, kf]
        exact ha _ (isV_next hi inv ⟨by omega, h3⟩ fun _ => by omega)
    · rw [cnd_n (decide_eq_false (by omega)), kf]
      exact ha _ (isV_next hi inv ⟨by omega, h3⟩ fun h => absurd h h0)
/-! what moves make -/
def BInv (l : List APos') : Prop := (∀ p ∈ l, p.2.1 ≠ [] ∧ VInv p.2.1) ∧ SrtA (l.map (·.1))
instance (l : List APos') : Decidable (BInv l) := by unfold BInv SrtA; infer_instance
def isB (l : List APos') : Bool := decide (BInv l)
theorem isB_bad0 {l : List APos'} {i : Nat} (hi : i < l.length) (h : ¬ (l[i].2.1 ≠ [] ∧ VInv l[i].2.1)) : isB l = false :=
  decide_eq_false fun hp => h (hp.1 _ (List.getElem_mem hi))
theorem isB_bad1 {l : List APos'} {i : Nat} (hi : i < l.length) (h0 : 0 < i) (h : ¬ ltA (l[i - 1]'(by omega)).1 l[i].1) : isB l = false :=
  decide_eq_false fun hp => h (by
    have := List.pairwise_iff_getElem.1 hp.2 (i - 1) i (by simp; omega) (by simpa using hi) (by omega)
    simpa using this)
theorem isB_next {l : List APos'} {i : Nat} (hi : i < l.length) (inv : BInv (l.take i)) (h1 : l[i].2.1 ≠ [] ∧ VInv l[i].2.1) (h2 : ∀ h0 : 0 < i, ltA (l[i - 1]'(by omega)).1 l[i].1) : BInv (l.take (i + 1)) := by
  rw [List.take_succ_eq_append_getElem hi]
  refine ⟨fun x hx => ?_, ?_⟩
  · rcases List.mem_append.1 hx with hx | hx
    · exact inv.1 x hx
    · simp only [List.mem_singleton] at hx; rw [hx]; exact h1
  · show SrtA ((l.take i ++ [l[i]]).map (·.1))
    rw [List.map_append]
    refine List.pairwise_append.2 ⟨inv.2, by simp, fun a ha b hb => ?_⟩
    simp only [List.map_cons, List.map_nil, List.mem_singleton] at hb
    subst hb
    obtain ⟨k, hk, hka⟩ := List.mem_iff_getElem.1 ha
    have hk' : k < i := by simp at hk; omega
    have h3 := h2 (by omega)
    by_cases hki : k = i - 1
    · subst hki; rw [← hka]; simpa using h3
    · have h4 := List.pairwise_iff_getElem.1 inv.2 k (i - 1) (by simpa using hk) (by simp; omega) (by omega)
      rw [hka] at h4
      refine ltA_tr h4 ?_
      simpa using h3
theorem isB_end {l : List APos'} (h : BInv (l.take l.length)) : isB l = true := by rw [List.take_length] at h; exact decide_eq_true h
/-! ### books, holdings: wider bounds -/
def okBk (l : List APos') : Prop := (∀ p ∈ l, p.2.1.length ≤ 1000000) ∧ l.length ≤ 1000000
def okHk (l : List AHold') : Prop := (∀ h ∈ l, h.2.1.length ≤ 1000000) ∧ l.length ≤ 1000000
theorem r_isBk {l : List APos'} (hb : okBk l) : book_Is l = some (isB l) := by
  have hl := hb.2
  show book_IsW stdW l = _
  unfold book_IsW
  refine loop_n (N := l.length) (by omega) (fun i _ => BInv (l.take i)) (some (isB l)) (by simp [BInv]) ?_ ?_
  · rintro _ again h
    rw [cnd_end, isB_end h]
  · rintro i hi _ inv again ha
    rw [cnd_lt hi, idx_w hi]
    refine join_g fun k hk => ?_
    have kt : k (true, ()) = some false := by subst hk; rfl
    have kf : k (false, ()) = again (((i + 1 : Nat) : Int), ()) := by rw [← i64_s i (by omega)]; subst hk; rfl
    clear hk
    have hli := hb.1 _ (List.getElem_mem hi)
    by_cases h1 : l[i].2.1 = []
    · rw [cnd_y (by simp [h1]), two_w, kt, isB_bad0 hi (by simp [h1])]
    rw [cnd_n (by simpa using h1), call_eq (r_isV (by omega))]
    by_cases hv : VInv l[i].2.1
    · rw [show isV l[i].2.1 = true from decide_eq_true hv, cnd_n (by decide)]
      by_cases h0 : 0 < i
      · rw [cnd_y (decide_eq_true (by omega)), i64_pred i h0 (by rw [maxLen_eq]; omega), idx_w (by omega), call_eq (r_lessA _ _), two_w]
        by_cases h2 : ltA (l[i - 1]'(by omega)).1 l[i].1
        · rw [decide_eq_true h2]
          exact kf.trans (ha _ (isB_next hi inv ⟨h1, hv⟩ fun _ => h2))
        · rw [decide_eq_false h2, isB_bad1 hi h0 h2]; exact kt
      · rw [cnd_n (decide_eq_false (by omega)), two_w]
        exact kf.trans (ha _ (isB_next hi inv ⟨h1, hv⟩ fun h => absurd h h0))
    · rw [show isV l[i].2.1 = false from decide_eq_false hv, cnd_y (by decide), two_w, kt, isB_bad0 hi fun h => hv h.2]
theorem r_isB19k {l : List APos'} (hb : okBk l) : ref19_Is l = some (isB l) := by
  have hl := hb.2
  show ref19_IsW stdW l = _
  unfold ref19_IsW
  refine loop_n (N := l.length) (by omega) (fun i _ => BInv (l.take i)) (some (isB l)) (by simp [BInv]) ?_ ?_
  · rintro _ again h
    rw [cnd_end, isB_end h]
  · rintro i hi _ inv again ha
    rw [cnd_lt hi]
    refine join_g fun k hk => ?_
    have kt : k (true, ()) = some false := by subst hk; rfl
    have kf : k (false, ()) = again (((i + 1 : Nat) : Int), ()) := by rw [← i64_s i (by omega)]; subst hk; rfl
    clear hk
    have hli := hb.1 _ (List.getElem_mem hi)
    rw [idx_w hi]
    by_cases h1 : l[i].2.1 = []
    · rw [cnd_y (by simp [h1]), two_w, kt, isB_bad0 hi (by simp [h1])]
    rw [cnd_n (by simpa using h1), idx_w hi, call_eq (r_isV11 (by omega))]
    by_cases hv : VInv l[i].2.1
    · rw [show isV l[i].2.1 = true from decide_eq_true hv, cnd_n (by decide)]
      by_cases h0 : 0 < i
      · rw [cnd_y (decide_eq_true (by omega)), i64_pred i h0 (by rw [maxLen_eq]; omega), idx_w (by omega), idx_w hi, call_eq (r_less15 _ _), two_w]
        by_cases h2 : ltA (l[i - 1]'(by omega)).1 l[i].1
        · rw [decide_eq_true h2]
          exact kf.trans (ha _ (isB_next hi inv ⟨h1, hv⟩ fun _ => h2))
        · rw [decide_eq_false h2, isB_bad1 hi h0 h2]; exact kt
      · rw [cnd_n (decide_eq_false (by omega)), two_w]
        exact kf.trans (ha _ (isB_next hi inv ⟨h1, hv⟩ fun h => absurd h h0))
    · rw [show isV l[i].2.1 = false from decide_eq_false hv, cnd_y (by decide), two_w, kt, isB_bad0 hi fun h => hv h.2]
theorem r_his1k {l : List AHold'} (h : okHk l) : hold_Is l = some (isH l) := by
  have hl := h.2
  show hold_IsW stdW l = _
  unfold hold_IsW
  refine loop_n (N := l.length) (by omega) (fun i _ => HP (l.take i)) (some (isH l)) (by simp [HP, SrtA]) ?_ ?_
  · rintro _ again h
    rw [cnd_end, isH_end h]
  · rintro i hi _ inv again ha
    rw [cnd_lt hi, idx_w hi]
    refine join_g fun k hk => ?_
    have kt : k (true, ()) = some false := by subst hk; rfl
    have kf : k (false, ()) = again (((i + 1 : Nat) : Int), ()) := by rw [← i64_s i (by omega)]; subst hk; rfl
    clear hk
    by_cases h1 : l[i].2.1 = []
    · rw [cnd_y (by rw [h1]; rfl), two_w, kt, isH_bad0 hi h1]
    · have hne : ((l[i].2.1.length : Int) == 0) = false := by
        cases hc : l[i].2.1 with
        | nil => exact absurd hc h1
        | cons x xs => simp; omega
      rw [cnd_n hne, call_eq (r_lis1 (by have := h.1 _ (List.getElem_mem hi); omega))]
      cases hL : isL l[i].2.1 with
      | false => rw [cnd_y (by rfl), two_w, kt, isH_bad1 hi hL]
      | true =>
        rw [cnd_n (by rfl)]
        by_cases h0 : 0 < i
        · rw [cnd_y (decide_eq_true (by omega)), i64_pred i h0 (by rw [maxLen_eq]; omega), idx_w (by omega), call_eq (r_lessA _ _), two_w]
          by_cases h2 : ltA (l[i - 1]'(by omega)).1 l[i].1
          · rw [decide_eq_true h2]
            exact kf.trans (ha _ (HP_next hi inv ⟨h1, of_decide_eq_true hL⟩ fun _ => h2))
          · rw [decide_eq_false h2, isH_bad2 hi h0 h2]; exact kt
        · rw [cnd_n (decide_eq_false (by omega)), two_w]
          exact kf.trans (ha _ (HP_next hi inv ⟨h1, of_decide_eq_true hL⟩ fun h => absurd h h0))
theorem r_is26k {l : List AHold'} (h : okHk l) : ref26_Is l = some (isH l) := by
  have hl := h.2
  show ref26_IsW stdW l = _
  unfold ref26_IsW
  refine loop_n (N := l.length) (by omega) (fun i _ => HP (l.take i)) (some (isH l)) (by simp [HP, SrtA]) ?_ ?_
  · rintro _ again h
    rw [cnd_end, isH_end h]
  · rintro i hi _ inv again ha
    rw [cnd_lt hi]
    refine join_g fun k hk => ?_
    have kt : k (true, ()) = some false := by subst hk; rfl
    have kf : k (false, ()) = again (((i + 1 : Nat) : Int), ()) := by rw [← i64_s i (by omega)]; subst hk; rfl
    clear hk
    rw [idx_w hi]
    by_cases h1 : l[i].2.1 = []
    · rw [cnd_y (by rw [h1]; rfl), two_w, kt, isH_bad0 hi h1]
    · have hne : ((l[i].2.1.length : Int) == 0) = false := by
        cases hc : l[i].2.1 with
        | nil => exact absurd hc h1
        | cons x xs => simp; omega
      rw [cnd_n hne, idx_w hi, call_eq (r_is18 (by have := h.1 _ (List.getElem_mem hi); omega))]
      cases hL : isL l[i].2.1 with
      | false => rw [cnd_y (by rfl), two_w, kt, isH_bad1 hi hL]
      | true =>
        rw [cnd_n (by rfl)]
        by_cases h0 : 0 < i
        · rw [cnd_y (decide_eq_true (by omega)), i64_pred i h0 (by rw [maxLen_eq]; omega), idx_w (by omega), idx_w hi, call_eq (r_less15 _ _), two_w]
          by_cases h2 : ltA (l[i - 1]'(by omega)).1 l[i].1
          · rw [decide_eq_true h2]
            exact kf.trans (ha _ (HP_next hi inv ⟨h1, of_decide_eq_true hL⟩ fun _ => h2))
          · rw [decide_eq_false h2, isH_bad2 hi h0 h2]; exact kt
        · rw [cnd_n (decide_eq_false (by omega)), two_w]
          exact kf.trans (ha _ (HP_next hi inv ⟨h1, of_decide_eq_true hL⟩ fun h => absurd h h0))
end Go.Proofs.YtllkmncnmlmefaaGreat

namespace Go.Proofs.YtllkmncnmlmefaaGreat
open Go Go.Vc Go.RowKit
set_option synthInstance.maxSize 100000
set_option synthInstance.maxHeartbeats 0
/-! ### the checker -/
def ordB {α : Type} (key : α → Int) (l : List α) (i : Nat) (x : α) : Bool := decide (0 < i → (l.map key).getD (i - 1) 0 < key x)
theorem ord_at {α : Type} {key : α → Int} {l : List α} {i : Nat} (hi : i < l.length) : (l.map key).getD i 0 = key l[i] := by
  rw [List.getD_eq_getElem?_getD, List.getElem?_map, List.getElem?_eq_getElem hi]; rfl
theorem bif_and {a B : Bool} {o : Option Bool} (h : o = some B) : (bif a then o else some false) = some (a && B) := by
  cases a with
  | true => exact h
  | false => rfl
theorem k_fin {β : Type} {k : Bool × Unit → Option β} {nx no : Option β} (k1 : k (true, ()) = no) (k2 : k (false, ()) = nx) (b : Bool) : k (!b, ()) = bif b then nx else no := by
  cases b with
  | true => exact k2
  | false => exact k1
theorem ordC {α β : Type} [EqB β] {l : List α} {i : Nat} (hi : i < l.length) (hl : l.length ≤ 1000000) (key : α → Int) (k : Bool × Unit → Option β) :
    stdW.cnd (decide ((0 : Int) < (i : Int))) (stdW.both (stdW.idx l (IntKind.i64.wrap ((i : Int) - 1)) fun x7 => stdW.two (k (decide (key l[i] ≤ key x7), ()))) (stdW.idx l (IntKind.i64.wrap ((i : Int) - 1)) fun x8 => k (decide (key l[i] ≤ key x8), ()))) (stdW.both (stdW.two (k (false, ()))) (k (false, ()))) = k (!ordB key l i l[i], ()) := by
  unfold ordB
  by_cases h0 : 0 < i
  · have e : (!decide (0 < i → (l.map key).getD (i - 1) 0 < key l[i])) = decide (key l[i] ≤ key l[i - 1]) := by
      rw [ord_at (by omega : i - 1 < l.length), ← decide_not]
      exact decide_eq_decide.2 ⟨fun h => by omega, fun h g => by have := g h0; omega⟩
    rw [cnd_y (decide_eq_true (by omega)), i64_pred i h0 (by rw [maxLen_eq]; omega), idx_w (by omega), idx_w (by omega), two_w, both_w, e]
  · rw [cnd_n (decide_eq_false (by omega)), two_w, both_w, decide_eq_true (fun h => absurd h h0)]; rfl
theorem ordR {α β : Type} [EqB β] {l : List α} {i : Nat} (hi : i < l.length) (hl : l.length ≤ 1000000) (key : α → Int) (k : Bool × Unit → Option β) :
    stdW.cnd (decide ((0 : Int) < (i : Int))) (stdW.both (stdW.idx l (IntKind.i64.wrap ((i : Int) - 1)) fun x7 => stdW.both (stdW.idx l (i : Int) fun x8 => k (decide (key x8 ≤ key x7), ())) (stdW.idx l (i : Int) fun x9 => stdW.two (k (decide (key x9 ≤ key x7), ())))) (stdW.idx l (i : Int) fun x10 => stdW.both (stdW.idx l (IntKind.i64.wrap ((i : Int) - 1)) fun x11 => stdW.two (k (decide (key x10 ≤ key x11), ()))) (stdW.idx l (IntKind.i64.wrap ((i : Int) - 1)) fun x12 => k (decide (key x10 ≤ key x12), ()))))
      (stdW.both (stdW.both (k (false, ())) (stdW.two (k (false, ())))) (stdW.both (stdW.two (k (false, ()))) (k (false, ())))) = k (!ordB key l i l[i], ()) := by
  unfold ordB
  by_cases h0 : 0 < i
  · have e : (!decide (0 < i → (l.map key).getD (i - 1) 0 < key l[i])) = decide (key l[i] ≤ key l[i - 1]) := by
      rw [ord_at (by omega : i - 1 < l.length), ← decide_not]
      exact decide_eq_decide.2 ⟨fun h => by omega, fun h g => by have := g h0; omega⟩
    rw [cnd_y (decide_eq_true (by omega)), i64_pred i h0 (by rw [maxLen_eq]; omega), e]
    have hp : i - 1 < l.length := by omega
    refine both_of ?_ ?_
    · rw [idx_w hp]
      refine both_of ?_ ?_
      · rw [idx_w hi]
      · rw [idx_w hi, two_w]
    · rw [idx_w hi]
      refine both_of ?_ ?_
      · rw [idx_w hp, two_w]
      · rw [idx_w hp]
  · rw [cnd_n (decide_eq_false (by omega)), decide_eq_true (fun h => absurd h h0)]
    exact both_of (both_of rfl (two_w _)) (both_of (two_w _) rfl)
theorem all4 {β : Type} [EqB β] (a : Option β) : stdW.both (stdW.both a (stdW.two a)) (stdW.both (stdW.two a) a) = a := both_of (both_of rfl (two_w _)) (both_of (two_w _) rfl)
theorem all2 {β : Type} [EqB β] (a : Option β) : stdW.both (stdW.two a) a = a := both_of (two_w _) rfl
/-- what stands in a table in order -/
def pM (s : AState') (i : Nat) (m : AMember') : Bool := decide (okM1 m) && ordB (·.1) s.2.1 i m
def pI (s : AState') (i : Nat) (x : AInst') : Bool := okJ x && ordB (·.1) s.2.2.1 i x
def pA (s : AState') (i : Nat) (a : ALot') : Bool := decide (okA1 a) && ordB (·.1) s.2.2.2.1 i a
def pAc (s : AState') (i : Nat) (a : AAccount') : Bool := s.2.1.any (fun y => y.1 == a.2.1) && (okA a && ordB (·.1) s.2.2.2.2.1 i a)
abbrev CkT := AState' × List AUnit' × Unit
def ckS (s : AState') : CkT := (s, (setU (unitsS s), ()))
theorem ck_accounts {s : AState'} (L : LenS s 1000) : ledger_checker_accounts (ckS s) = some (allL s.2.2.2.2.1 (pAc s)) := by
  show ledger_checker_accountsW stdW (ckS s) = _
  unfold ledger_checker_accountsW
  have hl := L.ac
  refine (loop_all (l := s.2.2.2.2.1) (by omega) (fun i => ((i : Int), ())) (pAc s) (r := some true) (no := some false) rfl (fun again => cnd_end _ _) (fun i hi again => ?_)).trans (by cases allL s.2.2.2.2.1 (pAc s) <;> rfl)
  show stdW.cnd (decide ((i : Int) < (s.2.2.2.2.1.length : Int))) (stdW.idx s.2.2.2.2.1 (i : Int) _) _ = _
  rw [cnd_lt hi, idx_w hi]
  obtain ⟨x, hx⟩ := r_memFind (l := s.2.1) (id := s.2.2.2.2.1[i].2.1) (by have := L.m; omega)
  refine (call_eq hx _).trans ?_
  refine join_g fun k hk => ?_
  have k1 : k (true, ()) = some false := by subst hk; rfl
  have k2 : k (false, ()) = again (((i + 1 : Nat) : Int), ()) := by rw [← i64_s i (by omega)]; subst hk; rfl
  clear hk
  unfold pAc
  cases h1 : s.2.1.any (fun y => y.1 == s.2.2.2.2.1[i].2.1) with
  | false => exact (cnd_y rfl _ _).trans ((all2 _).trans k1)
  | true =>
    refine (cnd_n rfl _ _).trans ?_
    refine (call_eq (r_acCheck (by have := L.acm _ (List.getElem_mem hi); omega)) _).trans ?_
    cases h2 : okA s.2.2.2.2.1[i] with
    | false => exact (cnd_y rfl _ _).trans ((all2 _).trans k1)
    | true =>
      refine (cnd_n rfl _ _).trans ?_
      exact (ordC hi (by omega) (fun a : AAccount' => a.1) k).trans (k_fin k1 k2 _)
theorem ck_tables {s : AState'} (L : LenS s 1000) : ledger_checker_tables (ckS s) = some (allL s.2.1 (pM s) && (allL s.2.2.1 (pI s) && (allL s.2.2.2.1 (pA s) && allL s.2.2.2.2.1 (pAc s)))) := by
  show ledger_checker_tablesW stdW (ckS s) = _
  unfold ledger_checker_tablesW
  refine (loop_all (l := s.2.1) (by have := L.m; omega) (fun i => ((i : Int), ())) (pM s) (no := some false) rfl (fun again => cnd_end _ _) (fun i hi again => ?_)).trans (bif_and ?_)
  · show stdW.cnd (decide ((i : Int) < (s.2.1.length : Int))) (stdW.idx s.2.1 (i : Int) _) _ = _
    have hl := L.m
    rw [cnd_lt hi, idx_w hi]
    refine join_g fun k hk => ?_
    have k1 : k (true, ()) = some false := by subst hk; rfl
    have k2 : k (false, ()) = again (((i + 1 : Nat) : Int), ()) := by rw [← i64_s i (by omega)]; subst hk; rfl
    clear hk
    refine (call_eq (r_memCheck _) _).trans ?_
    unfold pM
    by_cases h2 : okM1 s.2.1[i]
    · rw [if_pos h2, decide_eq_true h2]
      refine (cnd_n rfl _ _).trans ?_
      exact (ordC hi (by omega) (fun a : AMember' => a.1) k).trans (k_fin k1 k2 _)
    · rw [if_neg h2, decide_eq_false h2]
      exact (cnd_y rfl _ _).trans ((all2 _).trans k1)
  refine (loop_all (l := s.2.2.1) (by have := L.i; omega) (fun i => ((i : Int), ())) (pI s) (no := some false) rfl (fun again => cnd_end _ _) (fun i hi again => ?_)).trans (bif_and ?_)
  · show stdW.cnd (decide ((i : Int) < (s.2.2.1.length : Int))) (stdW.idx s.2.2.1 (i : Int) _) _ = _
    have hl := L.i
    rw [cnd_lt hi, idx_w hi]
    refine join_g fun k hk => ?_
    have k1 : k (true, ()) = some false := by subst hk; rfl
    have k2 : k (false, ()) = again (((i + 1 : Nat) : Int), ()) := by rw [← i64_s i (by omega)]; subst hk; rfl
    clear hk
    refine (call_eq (r_instCheck (by have := L.im _ (List.getElem_mem hi); omega)) _).trans ?_
    unfold pI
    cases h2 : okJ s.2.2.1[i] with
    | true =>
      refine (cnd_n rfl _ _).trans ?_
      exact (ordC hi (by omega) (fun a : AInst' => a.1) k).trans (k_fin k1 k2 _)
    | false => exact (cnd_y rfl _ _).trans ((all2 _).trans k1)
  refine (loop_all (l := s.2.2.2.1) (by have := L.a; omega) (fun i => ((i : Int), ())) (pA s) (no := some false) rfl (fun again => cnd_end _ _) (fun i hi again => ?_)).trans (bif_and ?_)
  · show stdW.cnd (decide ((i : Int) < (s.2.2.2.1.length : Int))) (stdW.idx s.2.2.2.1 (i : Int) _) _ = _
    have hl := L.a
    rw [cnd_lt hi, idx_w hi]
    refine join_g fun k hk => ?_
    have k1 : k (true, ()) = some false := by subst hk; rfl
    have k2 : k (false, ()) = again (((i + 1 : Nat) : Int), ()) := by rw [← i64_s i (by omega)]; subst hk; rfl
    clear hk
    refine (call_eq (r_asCheck2 _) _).trans ?_
    unfold pA
    by_cases h2 : okA1 s.2.2.2.1[i]
    · rw [if_pos h2, decide_eq_true h2]
      refine (cnd_n rfl _ _).trans ?_
      exact (ordC hi (by omega) (fun a : ALot' => a.1) k).trans (k_fin k1 k2 _)
    · rw [if_neg h2, decide_eq_false h2]
      exact (cnd_y rfl _ _).trans ((all2 _).trans k1)
  exact call_eq (ck_accounts L) _
end Go.Proofs.YtllkmncnmlmefaaGreat

namespace Go.Proofs.YtllkmncnmlmefaaGreat
open Go Go.Vc Go.RowKit
set_option synthInstance.maxSize 100000
set_option synthInstance.maxHeartbeats 0
/-! ### the checker: choices, deals, books, money -/
theorem ck_unit (s : AState') (u : AUnit') : ledger_checker_unit (ckS s) u = some (hasS s u) := by
  show some (memU u (setU (unitsS s))) = _
  rw [mem_setU]; rfl
def instS (s : AState') (id : Int) : Bool := s.2.2.1.any (fun y => y.1 == id)
theorem ck_inst {s : AState'} (L : LenS s 1000) (id : Int) : ∃ x, inst_Find s.2.2.1 id = some (x, (instS s id, ())) :=
  r_instFind (by have := L.i; omega) fun x hx => by have := L.im x hx; omega
theorem ck_legs {s : AState'} (L : LenS s 1000) {l : List AUnit'} (hl : l.length ≤ 1000000) : ledger_checker_legs (ckS s) l = some (l.all fun x => instS s x.1) := by
  show ledger_checker_legsW stdW (ckS s) l = _
  unfold ledger_checker_legsW
  rw [← allL_all]
  refine (loop_all (l := l) (by omega) (fun i => ((i : Int), ())) (fun _ x => instS s x.1) (r := some true) (no := some false) rfl (fun again => cnd_end _ _) (fun i hi again => ?_)).trans (by cases allL l (fun _ x => instS s x.1) <;> rfl)
  show stdW.cnd (decide ((i : Int) < (l.length : Int))) (stdW.idx l (i : Int) _) _ = _
  rw [cnd_lt hi, idx_w hi]
  obtain ⟨x, hx⟩ := ck_inst L l[i].1
  refine (call_eq hx _).trans ?_
  show stdW.cnd (!instS s l[i].1) (some false) (again (IntKind.i64.wrap ((i : Int) + 1), ())) = _
  rw [i64_s i (by omega)]
  cases instS s l[i].1 <;> rfl
def pCh (s : AState') (_ : Nat) (x : AChoice') : Bool := hasS s x.1 && hasS s x.2.1
theorem ck_choices {s : AState'} (L : LenS s 1000) : ledger_checker_choices (ckS s) = some (allL s.2.2.2.2.2.1 (pCh s) && allL s.2.2.2.2.2.1 (chP s.2.2.2.2.2.1)) := by
  show ledger_checker_choicesW stdW (ckS s) = _
  unfold ledger_checker_choicesW
  have hl := L.c
  refine (loop_all (l := s.2.2.2.2.2.1) (by omega) (fun i => ((i : Int), ())) (pCh s) (no := some false) rfl (fun again => cnd_end _ _) (fun i hi again => ?_)).trans (bif_and (call_eq (r_elect (by show s.2.2.2.2.2.1.length ≤ _; omega)) _))
  show stdW.cnd (decide ((i : Int) < (s.2.2.2.2.2.1.length : Int))) (stdW.idx s.2.2.2.2.2.1 (i : Int) _) _ = _
  rw [cnd_lt hi, idx_w hi]
  refine join_g fun k hk => ?_
  have k1 : k (true, ()) = some false := by subst hk; rfl
  have k2 : k (false, ()) = again (((i + 1 : Nat) : Int), ()) := by rw [← i64_s i (by omega)]; subst hk; rfl
  clear hk
  refine (call_eq (ck_unit s _) _).trans ?_
  unfold pCh
  cases hasS s s.2.2.2.2.2.1[i].1 with
  | false => exact (cnd_y rfl _ _).trans k1
  | true => exact (cnd_n rfl _ _).trans ((call_eq (ck_unit s _) _).trans (k_fin k1 k2 _))
def prB (p : Int) : Bool := decide (0 ≤ p ∧ p ≤ 2147483647)
def fwB (n : Int) : Bool := decide (-1099511627776 ≤ n ∧ n ≤ 1099511627776)
theorem r_lpriced (p : Int) : ledger_priced p = some (prB p) := by
  show ledger_pricedW stdW p = _
  unfold ledger_pricedW prB
  by_cases h : 0 ≤ p
  · rw [cnd_y (decide_eq_true h)]; simp [h]
  · rw [cnd_n (decide_eq_false h)]; simp [h]
theorem r_lfew (n : Int) : ledger_few n = some (fwB n) := by
  show ledger_fewW stdW n = _
  unfold ledger_fewW fwB
  by_cases h : -1099511627776 ≤ n
  · rw [cnd_y (decide_eq_true h)]; exact nat_bool (by omega)
  · rw [cnd_n (decide_eq_false h)]; exact nat_no (by omega)
def pG (s : AState') (i : Nat) (g : AGroup') : Bool := (g.1 == ((i + 1 : Nat) : Int)) && (hasS s g.2.1 && (instS s g.2.2.1 && (prB g.2.2.2.1 && fwB g.2.2.2.2.1)))
theorem ck_groups {s : AState'} (L : LenS s 1000) : ledger_checker_groups (ckS s) = some (allL s.2.2.2.2.2.2.1 (pG s) && decide ((s.2.2.2.2.2.2.1.length : Int) ≤ 64)) := by
  show ledger_checker_groupsW stdW (ckS s) = _
  unfold ledger_checker_groupsW
  have hl := L.g
  refine (loop_all (l := s.2.2.2.2.2.2.1) (by omega) (fun i => ((i : Int), ())) (pG s) (no := some false) rfl (fun again => cnd_end _ _) (fun i hi again => ?_)).trans (bif_and rfl)
  show stdW.cnd (decide ((i : Int) < (s.2.2.2.2.2.2.1.length : Int))) (stdW.idx s.2.2.2.2.2.2.1 (i : Int) _) _ = _
  rw [cnd_lt hi, idx_w hi]
  refine join_g fun k hk => ?_
  have k1 : k (true, ()) = some false := by subst hk; rfl
  have k2 : k (false, ()) = again (((i + 1 : Nat) : Int), ()) := by rw [← i64_s i (by omega)]; subst hk; rfl
  clear hk
  show stdW.cnd (s.2.2.2.2.2.2.1[i].1 != IntKind.i64.wrap ((i : Int) + 1)) _ _ = _
  rw [i64_s i (by omega)]
  unfold pG
  cases h1 : (s.2.2.2.2.2.2.1[i].1 == ((i + 1 : Nat) : Int)) with
  | false => exact (cnd_y (by rw [bne, h1]; rfl) _ _).trans k1
  | true =>
    refine (cnd_n (by rw [bne, h1]; rfl) _ _).trans ((call_eq (ck_unit s _) _).trans ?_)
    cases hasS s s.2.2.2.2.2.2.1[i].2.1 with
    | false => exact (cnd_y rfl _ _).trans k1
    | true =>
      refine (cnd_n rfl _ _).trans ((call_eq (ck_legs L (by show 1 ≤ 1000000; omega)) _).trans ?_)
      have e : ([(s.2.2.2.2.2.2.1[i].2.2.1, ((0 : Int), ()))] : List AUnit').all (fun x => instS s x.1) = instS s s.2.2.2.2.2.2.1[i].2.2.1 := by simp
      rw [e]
      cases instS s s.2.2.2.2.2.2.1[i].2.2.1 with
      | false => exact (cnd_y rfl _ _).trans k1
      | true =>
        refine (cnd_n rfl _ _).trans ((call_eq (r_lpriced _) _).trans ?_)
        cases prB s.2.2.2.2.2.2.1[i].2.2.2.1 with
        | false => exact (cnd_y rfl _ _).trans k1
        | true => exact (cnd_n rfl _ _).trans ((call_eq (r_lfew _) _).trans (k_fin k1 k2 _))
def pV2 (s : AState') (g : AGive') : Bool := decide ((0 ≤ g.2.2.2.2.2.1 ∧ g.2.2.2.2.2.1 ≤ (s.2.2.2.2.2.2.1.length : Int)) ∧ (0 ≤ g.2.2.2.2.2.2.1 ∧ g.2.2.2.2.2.2.1 ≤ 2097152) ∧ (1 ≤ g.2.2.2.2.2.2.2.1 ∧ g.2.2.2.2.2.2.2.1 ≤ 5))
def pV1 (s : AState') (g : AGive') : Bool := hasS s g.2.1 && (hasS s g.2.2.1 && (!(decide (g.2.1 = g.2.2.1)) && instS s g.2.2.2.1.1))
def pV3 (s : AState') (i : Nat) (g : AGive') : Bool := !(g.2.2.2.1.2.1 == 0) && (fwB g.2.2.2.1.2.1 && (prB g.2.2.2.2.1 && pV2 s g))
def pV (s : AState') (i : Nat) (g : AGive') : Bool := (g.1 == ((i + 1 : Nat) : Int)) && (pV1 s g && pV3 s i g)
theorem eqUL3 (a b : AUnit') : (notIf true ((a.1 == b.1) && (a.2.1 == b.2.1))) = !decide (a = b) := by
  have := eqUL2 a b
  rw [← this]
  cases ((a.1 == b.1) && (a.2.1 == b.2.1)) <;> rfl
theorem pv2_steps {β : Type} {k : Bool × Unit → Option β} {nx no : Option β} (k1 : k (true, ()) = no) (k2 : k (false, ()) = nx) (s : AState') (g : AGive') :
    (stdW.cnd (decide (g.2.2.2.2.2.1 < 0)) (k (true, ())) (stdW.cnd (decide ((s.2.2.2.2.2.2.1.length : Int) < g.2.2.2.2.2.1)) (k (true, ()))
      (stdW.cnd (decide (g.2.2.2.2.2.2.1 < 0)) (k (true, ())) (stdW.cnd (decide (2097152 < g.2.2.2.2.2.2.1)) (k (true, ()))
        (stdW.cnd (decide (g.2.2.2.2.2.2.2.1 < 1)) (k (true, ())) (k (decide (5 < g.2.2.2.2.2.2.2.1), ()))))))) = bif pV2 s g then nx else no := by
  have no' : ¬ ((0 ≤ g.2.2.2.2.2.1 ∧ g.2.2.2.2.2.1 ≤ (s.2.2.2.2.2.2.1.length : Int)) ∧ (0 ≤ g.2.2.2.2.2.2.1 ∧ g.2.2.2.2.2.2.1 ≤ 2097152) ∧ (1 ≤ g.2.2.2.2.2.2.2.1 ∧ g.2.2.2.2.2.2.2.1 ≤ 5)) → k (true, ()) = bif pV2 s g then nx else no := fun h => by
    unfold pV2; rw [decide_eq_false h]; exact k1
  by_cases h1 : g.2.2.2.2.2.1 < 0
  · rw [cnd_y (decide_eq_true h1)]; exact no' (by omega)
  rw [cnd_n (decide_eq_false h1)]
  by_cases h2 : (s.2.2.2.2.2.2.1.length : Int) < g.2.2.2.2.2.1
  · rw [cnd_y (decide_eq_true h2)]; exact no' (by omega)
  rw [cnd_n (decide_eq_false h2)]
  by_cases h3 : g.2.2.2.2.2.2.1 < 0
  · rw [cnd_y (decide_eq_true h3)]; exact no' (by omega)
  rw [cnd_n (decide_eq_false h3)]
  by_cases h4 : 2097152 < g.2.2.2.2.2.2.1
  · rw [cnd_y (decide_eq_true h4)]; exact no' (by omega)
  rw [cnd_n (decide_eq_false h4)]
  by_cases h5 : g.2.2.2.2.2.2.2.1 < 1
  · rw [cnd_y (decide_eq_true h5)]; exact no' (by omega)
  rw [cnd_n (decide_eq_false h5)]
  by_cases h6 : 5 < g.2.2.2.2.2.2.2.1
  · rw [decide_eq_true h6]; exact no' (by omega)
  · rw [decide_eq_false h6, k2]
    unfold pV2
    rw [decide_eq_true (by omega)]; rfl
theorem ck_gives {s : AState'} (L : LenS s 1000) : ledger_checker_gives (ckS s) = some (allL s.2.2.2.2.2.2.2.1 (pV s) && decide ((s.2.2.2.2.2.2.2.1.length : Int) ≤ 64)) := by
  show ledger_checker_givesW stdW (ckS s) = _
  unfold ledger_checker_givesW
  have hl := L.v
  refine (loop_all (l := s.2.2.2.2.2.2.2.1) (by omega) (fun i => ((i : Int), ())) (pV s) (no := some false) rfl (fun again => cnd_end _ _) (fun i hi again => ?_)).trans (bif_and rfl)
  show stdW.cnd (decide ((i : Int) < (s.2.2.2.2.2.2.2.1.length : Int))) (stdW.idx s.2.2.2.2.2.2.2.1 (i : Int) _) _ = _
  rw [cnd_lt hi, idx_w hi]
  refine join_g fun k11 hk11 => ?_
  have kk : ∀ c : Bool, k11 (c, ()) = bif ((s.2.2.2.2.2.2.2.1[i].1 == ((i + 1 : Nat) : Int)) && (c && pV3 s i s.2.2.2.2.2.2.2.1[i])) then again (((i + 1 : Nat) : Int), ()) else some false := by
    intro c
    subst hk11
    show stdW.join _ _ = _
    refine join_g fun k8 hk8 => ?_
    have k1 : k8 (true, ()) = some false := by subst hk8; exact cnd_y rfl _ _
    have k2 : k8 (false, ()) = bif pV2 s s.2.2.2.2.2.2.2.1[i] then again (((i + 1 : Nat) : Int), ()) else some false := by
      subst hk8
      refine (cnd_n (c := false) rfl _ _).trans ?_
      refine join_g fun k hk => ?_
      have k1 : k (true, ()) = some false := by subst hk; rfl
      have k2 : k (false, ()) = again (((i + 1 : Nat) : Int), ()) := by rw [← i64_s i (by omega)]; subst hk; rfl
      clear hk
      exact pv2_steps k1 k2 s _
    clear hk8
    show stdW.cnd (s.2.2.2.2.2.2.2.1[i].1 != IntKind.i64.wrap ((i : Int) + 1)) _ _ = _
    rw [i64_s i (by omega)]
    unfold pV3
    cases h1 : (s.2.2.2.2.2.2.2.1[i].1 == ((i + 1 : Nat) : Int)) with
    | false => exact (cnd_y (by rw [bne, h1]; rfl) _ _).trans k1
    | true =>
      refine (cnd_n (by rw [bne, h1]; rfl) _ _).trans ?_
      cases c with
      | false => exact (cnd_y rfl _ _).trans k1
      | true =>
        refine (cnd_n rfl _ _).trans ?_
        cases h2 : (s.2.2.2.2.2.2.2.1[i].2.2.2.1.2.1 == 0) with
        | true => exact (cnd_y rfl _ _).trans k1
        | false =>
          refine (cnd_n rfl _ _).trans ((call_eq (r_lfew _) _).trans ?_)
          cases fwB s.2.2.2.2.2.2.2.1[i].2.2.2.1.2.1 with
          | false => exact (cnd_y rfl _ _).trans k1
          | true =>
            refine (cnd_n rfl _ _).trans ((call_eq (r_lpriced _) _).trans ?_)
            cases prB s.2.2.2.2.2.2.2.1[i].2.2.2.2.1 with
            | false => exact k1
            | true => exact k2
  clear hk11
  refine (call_eq (ck_unit s _) _).trans ?_
  unfold pV pV1
  cases hasS s s.2.2.2.2.2.2.2.1[i].2.1 with
  | false => exact (cnd_n rfl _ _).trans (kk false)
  | true =>
    refine (cnd_y rfl _ _).trans ((call_eq (ck_unit s _) _).trans ?_)
    cases hasS s s.2.2.2.2.2.2.2.1[i].2.2.1 with
    | false => exact (cnd_n rfl _ _).trans (kk false)
    | true =>
      refine (cnd_y rfl _ _).trans ?_
      show stdW.cnd (notIf true ((s.2.2.2.2.2.2.2.1[i].2.1.1 == s.2.2.2.2.2.2.2.1[i].2.2.1.1) && (s.2.2.2.2.2.2.2.1[i].2.1.2.1 == s.2.2.2.2.2.2.2.1[i].2.2.1.2.1))) _ _ = _
      rw [eqUL3]
      cases decide (s.2.2.2.2.2.2.2.1[i].2.1 = s.2.2.2.2.2.2.2.1[i].2.2.1) with
      | true => exact (cnd_n rfl _ _).trans (kk false)
      | false =>
        refine (cnd_y rfl _ _).trans ((call_eq (ck_legs L (by show 1 ≤ 1000000; omega)) _).trans ?_)
        have e : ([s.2.2.2.2.2.2.2.1[i].2.2.2.1] : List AUnit').all (fun x => instS s x.1) = instS s s.2.2.2.2.2.2.2.1[i].2.2.2.1.1 := by simp
        rw [e]
        exact kk _
def pB (s : AState') (p : APos') : Bool := hasS s p.1 && p.2.1.all fun x => instS s x.1
theorem ck_book {s : AState'} (L : LenS s 1000) {l : List APos'} (hb : okBk l) : ledger_checker_book (ckS s) l = some (l.all (pB s) && isB l) := by
  show ledger_checker_bookW stdW (ckS s) l = _
  unfold ledger_checker_bookW
  have hl := hb.2
  rw [← allL_all]
  refine (loop_all (l := l) (by omega) (fun i => ((i : Int), ())) (fun _ p => pB s p) (no := some false) rfl (fun again => cnd_end _ _) (fun i hi again => ?_)).trans (bif_and (call_eq (r_isBk hb) _))
  show stdW.cnd (decide ((i : Int) < (l.length : Int))) (stdW.idx l (i : Int) _) _ = _
  rw [cnd_lt hi, idx_w hi]
  refine join_g fun k hk => ?_
  have k1 : k (true, ()) = some false := by subst hk; rfl
  have k2 : k (false, ()) = again (((i + 1 : Nat) : Int), ()) := by rw [← i64_s i (by omega)]; subst hk; rfl
  clear hk
  refine (call_eq (ck_unit s _) _).trans ?_
  unfold pB
  cases hasS s l[i].1 with
  | false => exact (cnd_y rfl _ _).trans k1
  | true => exact (cnd_n rfl _ _).trans ((call_eq (ck_legs L (hb.1 _ (List.getElem_mem hi))) _).trans (k_fin k1 k2 _))
def ownS (s : AState') (u : AUnit') : Bool := hasS s u || decide (u.1 = 0 ∧ (u.2.1 = 0 ∨ u.2.1 = 1))
theorem ck_named (s : AState') (u : AUnit') : ledger_checker_named (ckS s) u = some (ownS s u) := by
  show ledger_checker_namedW stdW (ckS s) u = _
  unfold ledger_checker_namedW ownS
  refine (call_eq (ck_unit s _) _).trans ?_
  cases hasS s u with
  | true => exact cnd_y rfl _ _
  | false =>
    refine (cnd_n rfl _ _).trans ?_
    by_cases h1 : u.1 = 0
    · rw [cnd_y (by simp [h1])]
      by_cases h2 : u.2.1 = 0
      · rw [cnd_y (by simp [h2])]; simp [h1, h2]
      · rw [cnd_n (by simp [h2])]
        by_cases h3 : u.2.1 = 1 <;> simp [h1, h2, h3]
    · rw [cnd_n (by simp [h1])]; simp [h1]
def asS' (s : AState') (id : Int) : Bool := s.2.2.2.1.any (fun y => y.1 == id)
def pH (s : AState') (h : AHold') : Bool := ownS s h.1 && h.2.1.all fun x => asS' s x.1
theorem ck_money {s : AState'} (L : LenS s 1000) : ledger_checker_money (ckS s) = some ((s.2.2.2.2.2.2.2.2.2.2.1.all fun f => ownS s f.1) && (s.2.2.2.2.2.2.2.2.2.2.2.1.all (pH s) && (isP s.2.2.2.2.2.2.2.2.2.2.1 && isH s.2.2.2.2.2.2.2.2.2.2.2.1))) := by
  show ledger_checker_moneyW stdW (ckS s) = _
  unfold ledger_checker_moneyW
  have hp := L.p
  have hh := L.h
  rw [← allL_all (p := fun f : AFlow' => ownS s f.1), ← allL_all (p := pH s)]
  refine (loop_all (l := s.2.2.2.2.2.2.2.2.2.2.1) (by omega) (fun i => ((i : Int), ())) (fun _ f => ownS s f.1) (no := some false) rfl (fun again => cnd_end _ _) (fun i hi again => ?_)).trans (bif_and ?_)
  · show stdW.cnd (decide ((i : Int) < (s.2.2.2.2.2.2.2.2.2.2.1.length : Int))) (stdW.idx s.2.2.2.2.2.2.2.2.2.2.1 (i : Int) _) _ = _
    rw [cnd_lt hi, idx_w hi]
    refine (call_eq (ck_named s _) _).trans ?_
    show stdW.cnd (!ownS s s.2.2.2.2.2.2.2.2.2.2.1[i].1) (some false) (again (IntKind.i64.wrap ((i : Int) + 1), ())) = _
    rw [i64_s i (by omega)]
    cases ownS s s.2.2.2.2.2.2.2.2.2.2.1[i].1 <;> rfl
  refine (loop_all (l := s.2.2.2.2.2.2.2.2.2.2.2.1) (by omega) (fun i => ((i : Int), ())) (fun _ h => pH s h) (no := some false) rfl (fun again => cnd_end _ _) (fun i hi again => ?_)).trans (bif_and ?_)
  · show stdW.cnd (decide ((i : Int) < (s.2.2.2.2.2.2.2.2.2.2.2.1.length : Int))) (stdW.idx s.2.2.2.2.2.2.2.2.2.2.2.1 (i : Int) _) _ = _
    rw [cnd_lt hi, idx_w hi]
    refine (call_eq (ck_named s _) _).trans ?_
    unfold pH
    have hm := L.hm _ (List.getElem_mem hi)
    cases ownS s s.2.2.2.2.2.2.2.2.2.2.2.1[i].1 with
    | false => exact cnd_y rfl _ _
    | true =>
      refine (cnd_n rfl _ _).trans ?_
      rw [Bool.true_and, ← allL_all]
      refine (loop_all (l := s.2.2.2.2.2.2.2.2.2.2.2.1[i].2.1) (by omega) (fun i => ((i : Int), ())) (fun _ x => asS' s x.1) (no := some false) rfl (fun again => cnd_end _ _) (fun j hj again => ?_)).trans ?_
      · show stdW.cnd (decide ((j : Int) < (s.2.2.2.2.2.2.2.2.2.2.2.1[i].2.1.length : Int))) (stdW.idx s.2.2.2.2.2.2.2.2.2.2.2.1[i].2.1 (j : Int) _) _ = _
        rw [cnd_lt hj, idx_w hj]
        obtain ⟨x, hx⟩ := r_asFindB (l := s.2.2.2.1) (id := s.2.2.2.2.2.2.2.2.2.2.2.1[i].2.1[j].1) (by have := L.a; omega)
        refine (call_eq hx _).trans ?_
        show stdW.cnd (!asS' s s.2.2.2.2.2.2.2.2.2.2.2.1[i].2.1[j].1) (some false) (again (IntKind.i64.wrap ((j : Int) + 1), ())) = _
        rw [i64_s j (by omega)]
        cases asS' s s.2.2.2.2.2.2.2.2.2.2.2.1[i].2.1[j].1 <;> rfl
      · show (bif _ then again (IntKind.i64.wrap ((i : Int) + 1), ()) else some false) = _
        rw [i64_s i (by omega)]
  refine (call_eq (r_is (by show s.2.2.2.2.2.2.2.2.2.2.1.length ≤ _; omega)) _).trans ?_
  show stdW.cnd (isP s.2.2.2.2.2.2.2.2.2.2.1) (stdW.call (hold_Is s.2.2.2.2.2.2.2.2.2.2.2.1) _) _ = _
  rw [call_eq (r_his1k ⟨fun h hh => by have := L.hm h hh; omega, by omega⟩)]
  cases isP s.2.2.2.2.2.2.2.2.2.2.1 <;> rfl
end Go.Proofs.YtllkmncnmlmefaaGreat

namespace Go.Proofs.YtllkmncnmlmefaaGreat
open Go Go.Vc Go.RowKit
set_option synthInstance.maxSize 100000
set_option synthInstance.maxHeartbeats 0
/-! ### which states may be: the ledger's answer -/
def dayB (s : AState') : Bool := decide (0 ≤ s.1 ∧ s.1 ≤ 1048576)
def tabB (s : AState') : Bool := allL s.2.1 (pM s) && (allL s.2.2.1 (pI s) && (allL s.2.2.2.1 (pA s) && allL s.2.2.2.2.1 (pAc s)))
def choB (s : AState') : Bool := allL s.2.2.2.2.2.1 (pCh s) && allL s.2.2.2.2.2.1 (chP s.2.2.2.2.2.1)
def groB (s : AState') : Bool := allL s.2.2.2.2.2.2.1 (pG s) && decide ((s.2.2.2.2.2.2.1.length : Int) ≤ 64)
def givB (s : AState') : Bool := allL s.2.2.2.2.2.2.2.1 (pV s) && decide ((s.2.2.2.2.2.2.2.1.length : Int) ≤ 64)
def bokB (s : AState') (l : List APos') : Bool := l.all (pB s) && isB l
def monB (s : AState') : Bool := (s.2.2.2.2.2.2.2.2.2.2.1.all fun f => ownS s f.1) && (s.2.2.2.2.2.2.2.2.2.2.2.1.all (pH s) && (isP s.2.2.2.2.2.2.2.2.2.2.1 && isH s.2.2.2.2.2.2.2.2.2.2.2.1))
def okS33 (s : AState') : Bool := dayB s && (tabB s && (choB s && (groB s && (givB s && (bokB s s.2.2.2.2.2.2.2.2.1 && (bokB s s.2.2.2.2.2.2.2.2.2.1 && monB s))))))
theorem setU_s {l : List KU} {i : Nat} (hi : i < l.length) : setU (l.take (i + 1)) = addU (setU (l.take i)) l[i] := by
  unfold setU
  rw [List.take_succ_eq_append_getElem hi, List.foldl_append]; rfl
theorem LenS.bk {s : AState'} (L : LenS s 1000) : okBk s.2.2.2.2.2.2.2.2.1 := ⟨fun p hp => by have := L.bm p hp; omega, by have := L.b; omega⟩
theorem LenS.sk {s : AState'} (L : LenS s 1000) : okBk s.2.2.2.2.2.2.2.2.2.1 := ⟨fun p hp => by have := L.sm p hp; omega, by have := L.s'; omega⟩
theorem r_ledCheck {s : AState'} (L : LenS s 1000) : ledger_Check s = some (if okS33 s = true then 0 else 3) := by
  show ledger_CheckW stdW s = _
  unfold ledger_CheckW
  refine (call_eq (r_unitsS (by have := L.ac; omega) fun a ha => L.acm a ha) _).trans ?_
  have hU : (unitsS s).length ≤ 1000 * 1000 := Nat.le_trans (flatU_len fun a ha => L.acm a ha) (Nat.mul_le_mul_left _ L.ac)
  refine loop_az (N := (unitsS s).length) (by omega) (fun i => ((i : Int), (U12 s (setU ((unitsS s).take i), (unitsS s, ()))))) _ rfl ?_ ?_
  · intro again
    show stdW.cnd (decide (((unitsS s).length : Int) < ((unitsS s).length : Int))) _ _ = _
    rw [cnd_end, List.take_length]
    refine join_g fun k16 hk16 => ?_
    have kf : k16 (false, U12 s (setU (unitsS s), ())) = some 3 := by subst hk16; rfl
    have kt : k16 (true, U12 s (setU (unitsS s), ())) = some (if (tabB s && (choB s && (groB s && (givB s && (bokB s s.2.2.2.2.2.2.2.2.1 && (bokB s s.2.2.2.2.2.2.2.2.2.1 && monB s)))))) = true then 0 else 3) := by
      subst hk16
      show stdW.join _ _ = _
      refine join_g fun k8 hk8 => ?_
      have k1 : k8 (true, U12 s (setU (unitsS s), ())) = some 3 := by subst hk8; rfl
      have k2 : k8 (false, U12 s (setU (unitsS s), ())) = some 0 := by subst hk8; rfl
      clear hk8
      refine (cnd_n (c := !true) rfl _ _).trans ?_
      refine (call_eq (ck_tables L) _).trans ?_
      show stdW.cnd (!tabB s) _ _ = _
      cases tabB s with
      | false => exact (cnd_y rfl _ _).trans k1
      | true =>
        refine (cnd_n rfl _ _).trans ((call_eq (ck_choices L) _).trans ?_)
        show stdW.cnd (!choB s) _ _ = _
        cases choB s with
        | false => exact (cnd_y rfl _ _).trans k1
        | true =>
          refine (cnd_n rfl _ _).trans ((call_eq (ck_groups L) _).trans ?_)
          show stdW.cnd (!groB s) _ _ = _
          cases groB s with
          | false => exact (cnd_y rfl _ _).trans k1
          | true =>
            refine (cnd_n rfl _ _).trans ((call_eq (ck_gives L) _).trans ?_)
            show stdW.cnd (!givB s) _ _ = _
            cases givB s with
            | false => exact (cnd_y rfl _ _).trans k1
            | true =>
              refine (cnd_n rfl _ _).trans ((call_eq (ck_book L L.bk) _).trans ?_)
              show stdW.cnd (!bokB s s.2.2.2.2.2.2.2.2.1) _ _ = _
              cases bokB s s.2.2.2.2.2.2.2.2.1 with
              | false => exact (cnd_y rfl _ _).trans k1
              | true =>
                refine (cnd_n rfl _ _).trans ((call_eq (ck_book L L.sk) _).trans ?_)
                show stdW.cnd (!bokB s s.2.2.2.2.2.2.2.2.2.1) _ _ = _
                cases bokB s s.2.2.2.2.2.2.2.2.2.1 with
                | false => exact (cnd_y rfl _ _).trans k1
                | true =>
                  refine (cnd_n rfl _ _).trans ((call_eq (ck_money L) _).trans ?_)
                  show k8 (!monB s, _) = _
                  cases monB s with
                  | false => exact k1
                  | true => exact k2
    clear hk16
    unfold okS33 dayB
    by_cases h1 : 0 ≤ s.1
    · refine (cnd_y (decide_eq_true h1) _ _).trans ?_
      by_cases h2 : s.1 ≤ 1048576
      · rw [decide_eq_true (show 0 ≤ s.1 ∧ s.1 ≤ 1048576 from ⟨h1, h2⟩), Bool.true_and, ← kt, decide_eq_true h2]
      · rw [decide_eq_false (show ¬ (0 ≤ s.1 ∧ s.1 ≤ 1048576) from fun h => h2 h.2), Bool.false_and, decide_eq_false h2]; exact kf
    · refine (cnd_n (decide_eq_false h1) _ _).trans ?_
      rw [decide_eq_false (show ¬ (0 ≤ s.1 ∧ s.1 ≤ 1048576) from fun h => h1 h.1), Bool.false_and]; exact kf
  · intro i hi again ha
    show stdW.cnd (decide ((i : Int) < ((unitsS s).length : Int))) (stdW.idx (unitsS s) (i : Int) fun x4 => stdW.nth (unitsS s) (Int.toNat (i : Int)) _) _ = _
    rw [cnd_lt hi, idx_w hi, nth_w hi]
    show again (IntKind.i64.wrap ((i : Int) + 1), (U12 s (addU (setU ((unitsS s).take i)) (unitsS s)[i], (unitsS s, ())))) = _
    rw [i64_s i (by omega), ← setU_s hi]
    exact ha
end Go.Proofs.YtllkmncnmlmefaaGreat
