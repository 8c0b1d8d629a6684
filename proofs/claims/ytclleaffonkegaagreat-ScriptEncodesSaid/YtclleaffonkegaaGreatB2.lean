import Derived.Test.YtclleaffonkegaaGreatB1
import Derived.Maps.RangeRun
import Derived.MapKept
import Derived.Lib.AppendStr
import Derived.Lib.AppendZerosOnto
import Derived.Laws.MakeOwn
import Derived.Laws.BytesString
import Derived.Great.BuildSlice
import Derived.Lib.SliceRun
namespace Go.Vc
open Go Go.RowKit Go.ChangeMaps

/-! ### A set (a map of units to true), and a walk over it -/
theorem set_store {P : Program} {t kt et : TypeId} (hk : KeyOk P kt) (ht : P.underlying t = some (.map kt et)) {w : World} {b : Nat} {es : Array MapEntry} {clock : Nat} {ks : List Value}
    (hb : w.heap[b]? = some (.map es clock)) (hs : SetOk es clock ks) {k : Value} (hK : isU k) :
    ∃ es' clock' ks', (Instr.mapUpdate t (.map (some b)) k (.bool true)).run P w = .ok () (setBlock w b (.map es' clock')) ∧ SetOk es' clock' ks' ∧ ((k ∈ ks ∧ ks' = ks) ∨ (k ∉ ks ∧ ks' = ks ++ [k])) := by
  have hmem : ∀ x, x ∈ ks ↔ ∃ e ∈ es.toList, e.key = x := fun x => by rw [← hs.keys, List.mem_map]
  rcases hk.find w hK es.toList (fun e he => hs.kok _ ((hmem _).2 ⟨e, he, rfl⟩)) with ⟨hf, hn⟩ | ⟨j, e, hf, hj, he⟩
  · refine ⟨es.push ⟨k, .bool true, clock⟩, clock + 1, ks ++ [k], ?_, ?_, .inr ⟨fun hm => ?_, rfl⟩⟩
    · simp [Instr.mapUpdate, run_underlying ht, MapKept.run_getObj_map hb, hk.check _ w hK, hf, MapKept.run_setObj_map _ hb, Result.andThen, setBlock]
    · have hkn : k ∉ ks := fun hm => by obtain ⟨e, he, hek⟩ := (hmem _).1 hm; exact hn e he hek
      refine ⟨by simp [hs.keys], ?_, ?_, ?_, ?_, ?_⟩
      · intro x hx
        rcases List.mem_append.1 hx with hx | hx
        · exact hs.kok x hx
        · simp at hx; exact hx ▸ hK
      · exact List.nodup_append.2 ⟨hs.nd, by simp, fun a ha b hb => by simp at hb; subst hb; rintro rfl; exact hkn ha⟩
      · intro x hx
        simp only [Array.toList_push, List.mem_append, List.mem_singleton] at hx
        rcases hx with hx | rfl
        · exact hs.val x hx
        · rfl
      · simp only [Array.toList_push, List.map_append, List.map_cons, List.map_nil]
        refine List.nodup_append.2 ⟨hs.bnd, by simp, fun a ha b hb => ?_⟩
        simp at hb; subst hb
        obtain ⟨x, hx, rfl⟩ := List.mem_map.1 ha
        have := hs.lt x hx; omega
      · intro x hx
        simp only [Array.toList_push, List.mem_append, List.mem_singleton] at hx
        rcases hx with hx | rfl
        · have := hs.lt x hx; omega
        · simp
    · obtain ⟨e, he, hek⟩ := (hmem _).1 hm; exact hn e he hek
  · have hj' : es[j]? = some e := by rw [← Array.getElem?_toList]; exact hj
    have hem : e ∈ es.toList := List.mem_of_getElem? hj
    refine ⟨es.modify j fun x => { x with key := k, val := .bool true }, clock, ks, ?_, ?_, .inl ⟨(hmem _).2 ⟨e, hem, he⟩, rfl⟩⟩
    · simp [Instr.mapUpdate, run_underlying ht, MapKept.run_getObj_map hb, hk.check _ w hK, hf, hj', he, hk.stays w hK, MapKept.run_setObj_map _ hb, Result.andThen, setBlock]
    · have hget : ∀ i, (es.modify j fun x => { x with key := k, val := .bool true })[i]? = es[i]? := fun i => by
        rw [Array.getElem?_modify]
        split
        · rename_i hi; subst hi
          rw [hj']
          have := hs.val e hem
          cases e; simp_all
        · rfl
      have heq : (es.modify j fun x => { x with key := k, val := .bool true }) = es := by
        apply Array.ext_getElem?; exact hget
      rw [heq]; exact hs
theorem set_lookup {P : Program} {t kt et : TypeId} (hk : MapOk P kt et) (ht : P.underlying t = some (.map kt et)) {w : World} {b : Nat} {es : Array MapEntry} {clock : Nat} {ks : List KU}
    (hb : w.heap[b]? = some (.map es clock)) (hs : SetOk es clock (ks.map kV)) (x : KU) : (Instr.lookup t (.map (some b)) (kV x) false).run P w = .ok (.bool (memU x ks)) w := by
  have hK : isU (kV x) := ⟨_, _, rfl⟩
  have hmem : ∀ v, v ∈ ks.map kV ↔ ∃ e ∈ es.toList, e.key = v := fun v => by rw [← hs.keys, List.mem_map]
  rcases hk.key.find w hK es.toList (fun e he => hs.kok _ ((hmem _).2 ⟨e, he, rfl⟩)) with ⟨hf, hn⟩ | ⟨j, e, hf, hj, he⟩
  · have hno : memU x ks = false := by
      cases hm : memU x ks with
      | false => rfl
      | true =>
        obtain ⟨e, he, hek⟩ := (hmem _).1 (kV_mem.2 (memU_iff.1 hm))
        exact absurd hek (hn e he)
    rw [hno]
    simp [Instr.lookup, run_underlying ht, MapKept.run_getObj_map hb, hk.key.check _ w hK, hf, hk.zero w, Result.andThen]
  · have hyes : memU x ks = true := memU_iff.2 (kV_mem.1 ((hmem _).2 ⟨e, List.mem_of_getElem? hj, he⟩))
    rw [hyes]
    simp [Instr.lookup, run_underlying ht, MapKept.run_getObj_map hb, hk.key.check _ w hK, hf, hs.val e (List.mem_of_getElem? hj), Result.andThen]
theorem inj_nodup {α β : Type} {f : α → β} : ∀ {l : List α}, (l.map f).Nodup → ∀ {x y : α}, x ∈ l → y ∈ l → f x = f y → x = y
  | [], _, _, _, hx, _, _ => by simp at hx
  | a :: l, h, x, y, hx, hy, e => by
    simp only [List.map_cons, List.nodup_cons] at h
    rcases List.mem_cons.1 hx with hx | hx
    · rcases List.mem_cons.1 hy with hy | hy
      · rw [hx, hy]
      · exact absurd (List.mem_map.2 ⟨y, hy, by rw [← e, hx]⟩) h.1
    · rcases List.mem_cons.1 hy with hy | hy
      · exact absurd (List.mem_map.2 ⟨x, hx, by rw [e, hy]⟩) h.1
      · exact inj_nodup h.2 hx hy e
theorem heapSet_ne {w : World} {b c : Nat} {o : Obj} (h : c ≠ b) : (setBlock w b o).heap[c]? = w.heap[c]? := by
  unfold setBlock
  exact Array.getElem?_setIfInBounds_ne (fun e => h e.symm)
theorem heapSet_eq {w : World} {b : Nat} {o : Obj} (h : b < w.heap.size) : (setBlock w b o).heap[b]? = some o := by
  unfold setBlock
  simp [h]
/-- a walk that goes on -/
structure Walk (U : Nat → Prop) (w : World) (ks dn : List KU) (o : Obj) (bm : Nat) (es : Array MapEntry) (clock since : Nat) (seen : Array Nat) (ds : List MapEntry) : Prop where
  ho : o = .mapIter (some bm) since seen clock
  nu : ¬ U bm
  low : bm < w.heap.size
  hmap : w.heap[bm]? = some (.map es clock)
  hset : SetOk es clock (ks.map kV)
  old : ∀ e ∈ es.toList, e.born < since
  sc : since ≤ clock
  hseen : seen.toList = ds.map (·.born)
  hdn : ds.map (·.key) = dn.map kV
  hsub : ∀ e ∈ ds, e ∈ es.toList
  nd : (ds.map (·.born)).Nodup
def OD.h (U : Nat → Prop) (w : World) : OD → Obj → Prop
  | .itr s p, o => o = .stringIter s p.toNat
  | .set ks, o => ∃ es clock, o = .map es clock ∧ SetOk es clock (ks.map kV)
  | .walk ks dn, o => ∃ bm es clock since seen ds, Walk U w ks dn o bm es clock since seen ds
theorem OD.mono {U U' : Nat → Prop} {w w' : World} (l : Later U U' w w') {d : OD} {o : Obj} (h : d.h U w o) : d.h U' w' o := by
  cases d with
  | itr s p => exact h
  | set ks => exact h
  | walk ks dn =>
    obtain ⟨bm, es, clock, since, seen, ds, H⟩ := h
    exact ⟨bm, es, clock, since, seen, ds, H.ho, fun hu => H.nu (l.sub _ H.low hu), Nat.lt_of_lt_of_le H.low l.size, (l.same _ H.low H.nu).trans H.hmap, H.hset, H.old, H.sc, H.hseen, H.hdn, H.hsub, H.nd⟩
theorem OKd.of_s {k : OKd} {d : OD} {z : k.T.den} (h : k.of d = some z) : (k.od z).isM = d.isM ∧ ∀ U w o, d.h U w o → (k.od z).h U w o := by
  cases k with
  | itr => cases d with
    | itr s p => have h := Option.some.inj h; subst h; exact ⟨rfl, fun _ _ _ h => h⟩
    | _ => cases h
  | set => cases d with
    | set ks => have h := Option.some.inj h; subst h; exact ⟨rfl, fun _ _ _ h => h⟩
    | _ => cases h
  | walk => cases d with
    | walk ks dn => have h := Option.some.inj h; subst h; exact ⟨rfl, fun _ _ _ h => h⟩
    | _ => cases h
/-- the next one, or none is left -/
theorem Walk.next {P : Program} {ty : TypeId} {U : Nat → Prop} {w : World} {ks dn : List KU} {r bm : Nat} {es : Array MapEntry} {clock since : Nat} {seen : Array Nat} {ds : List MapEntry} {o : Obj}
    (H : Walk U w ks dn o bm es clock since seen ds) (hr : w.heap[r]? = some o) (_ : r ≠ bm) :
    ((Instr.next (.pointer (some ⟨r, 0, none⟩)) false ty).run P w = .ok (.tuple #[.bool false]) w ∧ restU ks dn = []) ∨
    ∃ k w1 o', k ∈ restU ks dn ∧ (Instr.next (.pointer (some ⟨r, 0, none⟩)) false ty).run P w = .ok (.tuple #[.bool true, kV k, .bool true]) (setBlock w1 r o') ∧ (w1.heap = w.heap ∧ w1.os = w.os ∧ w1.tape = w.tape ∧ w1.output = w.output) ∧
      ∀ U' (w' : World), ¬ U' bm → bm < w'.heap.size → w'.heap[bm]? = w.heap[bm]? → ∃ bm es clock since seen ds, Walk U' w' ks (dn ++ [k]) o' bm es clock since seen ds := by
  obtain ⟨rfl, nu, low, hwb, hso, hold, hsc, hseen, hdn, hsub, hnd⟩ := H
  have inj : ∀ {x y : MapEntry}, x ∈ es.toList → y ∈ es.toList → x.born = y.born → x = y := fun hx hy e => inj_nodup hso.bnd hx hy e
  have kinj : ∀ {x y : MapEntry}, x ∈ es.toList → y ∈ es.toList → x.key = y.key → x = y := fun hx hy e => inj_nodup (by rw [hso.keys]; exact hso.nd) hx hy e
  rcases run_next_at (P := P) w ty r bm since clock seen es clock hr hwb hold hsc with ⟨h0, hrun⟩ | ⟨e, he, w1, hal, hrun⟩
  · refine .inl ⟨hrun, ?_⟩
    unfold restU
    refine List.filter_eq_nil_iff.2 fun k hk => ?_
    have hk2 : kV k ∈ es.toList.map (·.key) := by rw [hso.keys]; exact kV_mem.2 hk
    obtain ⟨e, he, hek⟩ := List.mem_map.1 hk2
    have hc : seen.contains e.born = true := by
      have he0 : leftOf es seen = #[] := Array.eq_empty_of_size_eq_zero h0
      unfold leftOf at he0
      rw [Array.filter_eq_empty_iff] at he0
      have := he0 e (Array.mem_toList_iff.1 he)
      simpa using this
    have hm : e.born ∈ seen.toList := by rw [Array.mem_toList_iff]; exact Array.contains_iff_mem.1 hc
    rw [hseen] at hm
    obtain ⟨d, hd, hdb⟩ := List.mem_map.1 hm
    have hed := inj (hsub d hd) he hdb
    subst hed
    have : kV k ∈ dn.map kV := by rw [← hdn, ← hek]; exact List.mem_map.2 ⟨d, hd, rfl⟩
    simp [memU_iff.2 (kV_mem.1 this)]
  · obtain ⟨hem, hes⟩ := mem_left he
    have hkm : e.key ∈ ks.map kV := by rw [← hso.keys]; exact List.mem_map.2 ⟨e, hem, rfl⟩
    obtain ⟨k, hk, hke⟩ := List.mem_map.1 hkm
    have hnk : k ∉ dn := fun hx => by
      have hx := kV_mem.2 hx
      rw [← hdn, hke] at hx
      obtain ⟨d, hd, hdk⟩ := List.mem_map.1 hx
      have := kinj (hsub d hd) hem hdk
      subst this
      have hm : d.born ∈ seen.toList := by rw [hseen]; exact List.mem_map.2 ⟨d, hd, rfl⟩
      rw [Array.mem_toList_iff] at hm
      rw [Array.contains_iff_mem.2 hm] at hes
      cases hes
    have hw1 : w1.heap = w.heap ∧ w1.os = w.os ∧ w1.tape = w.tape ∧ w1.output = w.output := by rcases hal with rfl | rfl <;> exact ⟨rfl, rfl, rfl, rfl⟩
    refine .inr ⟨k, w1, .mapIter (some bm) since (seen.push e.born) clock, List.mem_filter.2 ⟨hk, ?_⟩, ?_, hw1, fun U' w' h1 h2 h3 => ⟨bm, es, clock, since, seen.push e.born, ds ++ [e], rfl, h1, h2, h3.trans hwb, hso, hold, hsc, by simp [hseen], by simp [hdn, hke], fun x hx => ?_, ?_⟩⟩
    · cases hm : memU k dn with
      | true => exact absurd (memU_iff.1 hm) hnk
      | false => rfl
    · rw [hso.val e hem, ← hke] at hrun; exact hrun
    · rcases List.mem_append.1 hx with hx | hx
      · exact hsub x hx
      · simp at hx; exact hx ▸ hem
    · simp only [List.map_append, List.map_cons, List.map_nil]
      refine List.nodup_append.2 ⟨hnd, by simp, fun a ha c hc => ?_⟩
      simp at hc; subst hc; rintro rfl
      have hm : e.born ∈ seen.toList := by rw [hseen]; exact ha
      rw [Array.mem_toList_iff] at hm
      rw [Array.contains_iff_mem.2 hm] at hes
      cases hes
/-- the round's key, read behind the step -/
theorem Walk.entry {P : Program} {U : Nat → Prop} {w : World} {ks dn : List KU} {k : KU} {r bm : Nat} {es : Array MapEntry} {clock since : Nat} {seen : Array Nat} {ds : List MapEntry} {o : Obj}
    (H : Walk U w ks dn o bm es clock since seen ds) (hk : dn[dn.length - 1]? = some k) (hr : w.heap[r]? = some o) : (Instr.entry (.pointer (some ⟨r, 0, none⟩))).run P w = .ok (.tuple #[kV k, .bool true]) w := by
  obtain ⟨rfl, nu, low, hwb, hso, hold, hsc, hseen, hdn, hsub, hnd⟩ := H
  obtain ⟨dn', rfl⟩ : ∃ dn', dn = dn' ++ [k] := by
    rcases List.eq_nil_or_concat dn with h | ⟨d, x, h⟩
    · subst h; simp at hk
    · subst h
      simp at hk
      exact ⟨d, by rw [hk]; simp⟩
  obtain ⟨d1, e, rfl⟩ : ∃ d1 e, ds = d1 ++ [e] := by
    rcases List.eq_nil_or_concat ds with h | ⟨d1, e, h⟩
    · subst h; simp at hdn
    · exact ⟨d1, e, by simpa using h⟩
  simp only [List.map_append, List.map_cons, List.map_nil] at hdn hseen
  have hke := (List.append_inj' hdn rfl).2
  simp only [List.cons.injEq, and_true] at hke
  have hsn : seen = (d1.map (·.born)).toArray.push e.born := by
    apply Array.ext'; rw [hseen]; simp
  rw [hsn] at hr
  have hem := hsub e (by simp)
  have hrun := run_entry_at (P := P) w r bm since _ es clock e hr hwb hem hso.bnd
  rw [hso.val e hem, hke] at hrun
  exact hrun
end Go.Vc
namespace Go.Vc
open Go Go.RowKit

/-! ### Where a call stands -/
abbrev Asg := Nat → Option Addr × Nat
/-- what is owned stands in these blocks: boxes (false), rows (true) -/
def blk (B : Nat → Nat) (A : Asg) (pb : DBs) (rw : List DR) : Bool → Nat → Nat → Prop
  | false, i, b => live pb i ∧ B i = b
  | true, j, b => ∃ r ad, rw[j]? = some r ∧ r ≠ .dead ∧ (A j).1 = some ad ∧ ad.block = b
def Us (U0 : Nat → Prop) (B : Nat → Nat) (A : Asg) (pb : DBs) (rw : List DR) : Nat → Prop := fun b => U0 b ∨ ∃ k i, blk B A pb rw k i b
def env (U0 : Nat → Prop) (B : Nat → Nat) (A : Asg) (pb : DBs) (rw : List DR) (w : World) : Env := ⟨Us U0 B A pb rw, w, B, A, pb, rw⟩
/-- V: where it began; U0: what it may not touch, or name; L: what it was lent -/
structure Mem (V : World) (U0 L : Nat → Prop) (B : Nat → Nat) (A : Asg) (pb : DBs) (rw : List DR) (w : World) : Prop where
  os : w.os = V.os
  tape : w.tape = V.tape
  output : w.output = V.output
  size : V.heap.size ≤ w.heap.size
  same : ∀ b, b < V.heap.size → ¬ L b → w.heap[b]? = V.heap[b]?
  u0 : ∀ b, U0 b → b < V.heap.size ∧ ¬ L b
  low : ∀ k i b, blk B A pb rw k i b → b < w.heap.size ∧ (V.heap.size ≤ b ∨ L b)
  inj : ∀ k i k' i' b, blk B A pb rw k i b → blk B A pb rw k' i' b → k = k' ∧ i = i'
  box : ∀ i b, pb[i]? = some (some b) → ∃ cs, w.heap[B i]? = some (.cells cs.toArray b.ty (0, 0)) ∧ hL (env U0 B A pb rw w) b.cells cs ∧ (b.w = false → B i < V.heap.size ∧ w.heap[B i]? = V.heap[B i]?)
  row : ∀ j e t l, rw[j]? = some (.own e t l) → ∃ xs, w.ownsRow 0 e t.size (.slice (A j).1 l.length (A j).2) l.length xs ∧ t.hs (Us U0 B A pb rw) w l xs
  itr : ∀ j d, rw[j]? = some (.obj d) → ∃ b o, (A j).1 = some ⟨b, 0, none⟩ ∧ w.heap[b]? = some o ∧ d.h (Us U0 B A pb rw) w o
/-- what may be written: the boxes of al, and rows -/
def Wr (al : Nat → Bool) (B : Nat → Nat) (A : Asg) (pb : DBs) (rw : List DR) : Nat → Prop := fun b => (∃ i, al i = true ∧ blk B A pb rw false i b) ∨ ∃ j, blk B A pb rw true j b
/-- what a step leaves as it was -/
structure Ext (al : Nat → Bool) (B : Nat → Nat) (A : Asg) (pb : DBs) (rw : List DR) (w : World) (B' : Nat → Nat) (A' : Asg) (pb' : DBs) (rw' : List DR) (w' : World) : Prop where
  bx : ∀ i, live pb i → live pb' i ∧ B' i = B i
  fr : ∀ b, b < w.heap.size → ¬ Wr al B A pb rw b → w'.heap[b]? = w.heap[b]?
  fresh : ∀ b, Wr al B' A' pb' rw' b → Wr al B A pb rw b ∨ w.heap.size ≤ b
  size : w.heap.size ≤ w'.heap.size
theorem Ext.trans {al : Nat → Bool} {B B1 B2 : Nat → Nat} {A A1 A2 : Asg} {pb pb1 pb2 : DBs} {rw rw1 rw2 : List DR} {w w1 w2 : World} (h : Ext al B A pb rw w B1 A1 pb1 rw1 w1) (k : Ext al B1 A1 pb1 rw1 w1 B2 A2 pb2 rw2 w2) : Ext al B A pb rw w B2 A2 pb2 rw2 w2 := by
  refine ⟨fun i hl => ?_, fun b hb hn => ?_, fun b hb => ?_, Nat.le_trans h.size k.size⟩
  · obtain ⟨g1, g2⟩ := h.bx i hl
    obtain ⟨g3, g4⟩ := k.bx i g1
    exact ⟨g3, g4.trans g2⟩
  · rw [k.fr b (Nat.lt_of_lt_of_le hb h.size) fun hw => ?_, h.fr b hb hn]
    rcases h.fresh b hw with g | g
    · exact hn g
    · omega
  · rcases k.fresh b hb with g | g
    · exact h.fresh b g
    · exact .inr (Nat.le_trans h.size g)
theorem owns_same {w w' : World} {base : Nat} {e : TypeId} {size : Nat} {a : Option Addr} {n c : Nat} {xs : List Value} (h : w.ownsRow base e size (.slice a n c) n xs) (hk : ∀ x, a = some x → w'.heap[x.block]? = w.heap[x.block]?) : w'.ownsRow base e size (.slice a n c) n xs := by
  refine ⟨h.1, ?_⟩
  rcases h.2 with h2 | ⟨g, cap, cur, heq, hb, hg, rest⟩
  · exact .inl h2
  · simp only [Value.slice.injEq] at heq
    obtain ⟨rfl, _, rfl⟩ := heq
    exact .inr ⟨g, c, cur, rfl, hb, (hk _ rfl).trans hg, rest⟩
section
variable {V : World} {U0 L : Nat → Prop} {B B' : Nat → Nat} {A A' : Asg} {pb pb' : DBs} {rw rw' : List DR} {w w' : World}
theorem Mem.step0 {al : Nat → Bool} (f : Nat → Option DV) (m : Mem V U0 L B A pb rw w)
    (hr : w'.os = w.os ∧ w'.tape = w.tape ∧ w'.output = w.output ∧ w.heap.size ≤ w'.heap.size)
    (hk : ∀ b, b < w.heap.size → ¬ Wr al B A pb rw b → w'.heap[b]? = w.heap[b]?)
    (hwr : ∀ b, Wr al B' A' pb' rw' b → Wr al B A pb rw b ∨ w.heap.size ≤ b)
    (hb : ∀ k i b, blk B' A' pb' rw' k i b → (∃ k' i', blk B A pb rw k' i' b) ∨ (w.heap.size ≤ b ∧ b < w'.heap.size))
    (hj : ∀ k i k' i' b, blk B' A' pb' rw' k i b → blk B' A' pb' rw' k' i' b → k = k' ∧ i = i')
    (bx : ∀ i, live pb i → live pb' i ∧ B' i = B i)
    (keep : ∀ j e t l, f j = none → rw[j]? = some (.own e t l) → ∃ l', rw'[j]? = some (.own e t l') ∧ l'.length = l.length ∧ A' j = A j)
    (keepI : ∀ j d, f j = none → rw[j]? = some (.obj d) → (∃ d', rw'[j]? = some (.obj d') ∧ d'.isM = d.isM) ∧ A' j = A j)
    (to : Later (Us U0 B A pb rw) (Us U0 B' A' pb' rw') w w' → ∀ j q e t l, f j = some q → rw[j]? = some (.own e t l) → q.h (env U0 B' A' pb' rw' w') (.slice (A j).1 l.length (A j).2))
    (toI : Later (Us U0 B A pb rw) (Us U0 B' A' pb' rw') w w' → ∀ j q d ad, f j = some q → rw[j]? = some (.obj d) → (A j).1 = some ad → q.h (env U0 B' A' pb' rw' w') (d.at ad))
    (hbox : Sub f (env U0 B A pb rw w) (env U0 B' A' pb' rw' w') → ∀ i b', pb'[i]? = some (some b') → (∃ b, pb[i]? = some (some b) ∧ b'.ty = b.ty ∧ b'.cells = subL f b.cells ∧ (b'.w = false → b.w = false) ∧ w'.heap[B i]? = w.heap[B i]?) ∨
      ∃ cs, w'.heap[B' i]? = some (.cells cs.toArray b'.ty (0, 0)) ∧ hL (env U0 B' A' pb' rw' w') b'.cells cs ∧ b'.w = true)
    (hrow : Later (Us U0 B A pb rw) (Us U0 B' A' pb' rw') w w' → ∀ j e t l, rw'[j]? = some (.own e t l) → (rw[j]? = some (.own e t l) ∧ A' j = A j ∧ ∀ ad, (A j).1 = some ad → w'.heap[ad.block]? = w.heap[ad.block]?) ∨
      ∃ xs, w'.ownsRow 0 e t.size (.slice (A' j).1 l.length (A' j).2) l.length xs ∧ t.hs (Us U0 B' A' pb' rw') w' l xs)
    (hitr : Later (Us U0 B A pb rw) (Us U0 B' A' pb' rw') w w' → ∀ j d, rw'[j]? = some (.obj d) → (rw[j]? = some (.obj d) ∧ A' j = A j ∧ ∀ ad, (A j).1 = some ad → w'.heap[ad.block]? = w.heap[ad.block]?) ∨ ∃ b o, (A' j).1 = some ⟨b, 0, none⟩ ∧ w'.heap[b]? = some o ∧ d.h (Us U0 B' A' pb' rw') w' o) :
    Mem V U0 L B' A' pb' rw' w' ∧ Sub f (env U0 B A pb rw w) (env U0 B' A' pb' rw' w') ∧ Ext al B A pb rw w B' A' pb' rw' w' := by
  obtain ⟨h1, h2, h3, h4⟩ := hr
  have l : Later (Us U0 B A pb rw) (Us U0 B' A' pb' rw') w w' := ⟨fun b hb1 hn => hk b hb1 fun h => hn (.inr (h.elim (fun ⟨i, _, h⟩ => ⟨_, i, h⟩) fun ⟨i, h⟩ => ⟨_, i, h⟩)), h4, fun b hb1 hu => by
    rcases hu with hu | ⟨k, i, hu⟩
    · exact .inl hu
    · rcases hb k i b hu with ⟨k', i', h⟩ | ⟨h, _⟩
      · exact .inr ⟨k', i', h⟩
      · omega⟩
  have s : Sub f (env U0 B A pb rw w) (env U0 B' A' pb' rw' w') := ⟨l, bx, keep, keepI, to l, toI l⟩
  refine ⟨⟨h1.trans m.os, h2.trans m.tape, h3.trans m.output, Nat.le_trans m.size h4, fun b hb1 hL => ?_, m.u0, fun k i b hbb => ?_, hj, fun i b' hi => ?_, fun j e t l' hj' => ?_, fun j d hj' => ?_⟩, s, ⟨bx, hk, hwr, h4⟩⟩
  · have hb2 := Nat.lt_of_lt_of_le hb1 m.size
    have hno : ∀ k i, ¬ blk B A pb rw k i b := fun k i hu => by
      rcases (m.low k i b hu).2 with h | h
      · omega
      · exact hL h
    rw [hk b hb2 fun h => h.elim (fun ⟨i, _, h⟩ => hno _ i h) fun ⟨i, h⟩ => hno _ i h, m.same b hb1 hL]
  · rcases hb k i b hbb with ⟨k', i', h⟩ | ⟨h, h'⟩
    · exact ⟨Nat.lt_of_lt_of_le (m.low k' i' b h).1 h4, (m.low k' i' b h).2⟩
    · exact ⟨h', .inl (Nat.le_trans m.size h)⟩
  · rcases hbox s i b' hi with ⟨b, g1, g2, g3, g4, g5⟩ | ⟨cs, g1, g2, g3⟩
    · obtain ⟨cs, g6, g7, g8⟩ := m.box i b g1
      have e := (bx i ⟨b, g1⟩).2
      refine ⟨cs, by rw [e, g5, g2]; exact g6, by rw [g3]; exact hL_subL s _ g7, fun hw => ?_⟩
      obtain ⟨g9, g10⟩ := g8 (g4 hw)
      exact ⟨by rw [e]; exact g9, by rw [e, g5]; exact g10⟩
    · exact ⟨cs, g1, g2, fun h => by rw [g3] at h; cases h⟩
  · rcases hrow l j e t l' hj' with ⟨g1, g2, g3⟩ | h
    · obtain ⟨xs, g4, g5⟩ := m.row j e t l' g1
      exact ⟨xs, by rw [g2]; exact owns_same g4 g3, DT.hs_mono l g5⟩
    · exact h
  · rcases hitr l j d hj' with ⟨g1, g2, g3⟩ | h
    · obtain ⟨b, o, g4, g5, g6⟩ := m.itr j d g1
      exact ⟨b, o, by rw [g2]; exact g4, (g3 _ g4).trans g5, OD.mono l g6⟩
    · exact h
theorem Mem.step {al : Nat → Bool} (f : Nat → Option DV) (m : Mem V U0 L B A pb rw w)
    (hr : w'.os = w.os ∧ w'.tape = w.tape ∧ w'.output = w.output ∧ w.heap.size ≤ w'.heap.size)
    (hk : ∀ b, b < w.heap.size → ¬ Wr al B A pb rw b → w'.heap[b]? = w.heap[b]?)
    (hb : ∀ k i b, blk B' A' pb' rw' k i b → blk B A pb rw k i b ∨ (w.heap.size ≤ b ∧ b < w'.heap.size))
    (hj : ∀ k i k' i' b, blk B' A' pb' rw' k i b → blk B' A' pb' rw' k' i' b → k = k' ∧ i = i')
    (bx : ∀ i, live pb i → live pb' i ∧ B' i = B i)
    (keep : ∀ j e t l, f j = none → rw[j]? = some (.own e t l) → ∃ l', rw'[j]? = some (.own e t l') ∧ l'.length = l.length ∧ A' j = A j)
    (keepI : ∀ j d, f j = none → rw[j]? = some (.obj d) → (∃ d', rw'[j]? = some (.obj d') ∧ d'.isM = d.isM) ∧ A' j = A j)
    (to : Later (Us U0 B A pb rw) (Us U0 B' A' pb' rw') w w' → ∀ j q e t l, f j = some q → rw[j]? = some (.own e t l) → q.h (env U0 B' A' pb' rw' w') (.slice (A j).1 l.length (A j).2))
    (toI : Later (Us U0 B A pb rw) (Us U0 B' A' pb' rw') w w' → ∀ j q d ad, f j = some q → rw[j]? = some (.obj d) → (A j).1 = some ad → q.h (env U0 B' A' pb' rw' w') (d.at ad))
    (hbox : Sub f (env U0 B A pb rw w) (env U0 B' A' pb' rw' w') → ∀ i b', pb'[i]? = some (some b') → (∃ b, pb[i]? = some (some b) ∧ b'.ty = b.ty ∧ b'.cells = subL f b.cells ∧ (b'.w = false → b.w = false) ∧ w'.heap[B i]? = w.heap[B i]?) ∨
      ∃ cs, w'.heap[B' i]? = some (.cells cs.toArray b'.ty (0, 0)) ∧ hL (env U0 B' A' pb' rw' w') b'.cells cs ∧ b'.w = true)
    (hrow : Later (Us U0 B A pb rw) (Us U0 B' A' pb' rw') w w' → ∀ j e t l, rw'[j]? = some (.own e t l) → (rw[j]? = some (.own e t l) ∧ A' j = A j ∧ ∀ ad, (A j).1 = some ad → w'.heap[ad.block]? = w.heap[ad.block]?) ∨
      ∃ xs, w'.ownsRow 0 e t.size (.slice (A' j).1 l.length (A' j).2) l.length xs ∧ t.hs (Us U0 B' A' pb' rw') w' l xs)
    (hitr : Later (Us U0 B A pb rw) (Us U0 B' A' pb' rw') w w' → ∀ j d, rw'[j]? = some (.obj d) → (rw[j]? = some (.obj d) ∧ A' j = A j ∧ ∀ ad, (A j).1 = some ad → w'.heap[ad.block]? = w.heap[ad.block]?) ∨ ∃ b o, (A' j).1 = some ⟨b, 0, none⟩ ∧ w'.heap[b]? = some o ∧ d.h (Us U0 B' A' pb' rw') w' o) :
    Mem V U0 L B' A' pb' rw' w' ∧ Sub f (env U0 B A pb rw w) (env U0 B' A' pb' rw' w') ∧ Ext al B A pb rw w B' A' pb' rw' w' :=
  m.step0 f hr hk (fun _ h => h.elim (fun ⟨i, ha, h⟩ => (hb _ _ _ h).imp (fun h => .inl ⟨i, ha, h⟩) (·.1)) fun ⟨i, h⟩ => (hb _ _ _ h).imp (fun h => .inr ⟨i, h⟩) (·.1)) (fun k i b h => (hb k i b h).imp (fun h => ⟨k, i, h⟩) id) hj bx keep keepI to toI hbox hrow hitr
end
end Go.Vc

namespace Go.Vc
open Go Go.RowKit
def upd {α : Type} (f : Nat → α) (n : Nat) (y : α) : Nat → α := fun i => if i = n then y else f i
theorem upd_same {α : Type} (f : Nat → α) (n : Nat) (y : α) : upd f n y n = y := by simp [upd]
theorem upd_ne {α : Type} (f : Nat → α) {n i : Nat} (y : α) (h : i ≠ n) : upd f n y i = f i := by simp [upd, h]
section
variable {V : World} {U0 L : Nat → Prop} {B : Nat → Nat} {A : Asg} {pb : DBs} {rw : List DR} {w w' : World}
/-- nothing that was there is changed -/
theorem Mem.world {al : Nat → Bool} (m : Mem V U0 L B A pb rw w) (hr : w'.os = w.os ∧ w'.tape = w.tape ∧ w'.output = w.output ∧ w.heap.size ≤ w'.heap.size) (hk : ∀ b, b < w.heap.size → w'.heap[b]? = w.heap[b]?) :
    Mem V U0 L B A pb rw w' ∧ Sub noF (env U0 B A pb rw w) (env U0 B A pb rw w') ∧ Ext al B A pb rw w B A pb rw w' := by
  have hl : ∀ k i b, blk B A pb rw k i b → w'.heap[b]? = w.heap[b]? := fun k i b h => hk b (m.low k i b h).1
  refine m.step noF hr (fun b hb _ => hk b hb) (fun k i b h => .inl h) m.inj (fun i h => ⟨h, rfl⟩) (fun j e t l _ h => ⟨l, h, rfl, rfl⟩) (fun j d _ h => ⟨⟨d, h, rfl⟩, rfl⟩)
    (fun _ j q e t l h => by cases h) (fun _ j q d ad h => by cases h) (fun s i b' h => .inl ⟨b', h, rfl, by rw [subL_no], id, hl false i _ ⟨⟨_, h⟩, rfl⟩⟩) (fun _ j e t l h => .inl ⟨h, rfl, fun ad ha => hl true j _ ⟨_, ad, h, by simp, ha, rfl⟩⟩)
    fun _ j d h => .inl ⟨h, rfl, fun ad ha => hl true j _ ⟨_, ad, h, by simp, ha, rfl⟩⟩
/-- a new box -/
theorem Mem.newBox {al : Nat → Bool} (m : Mem V U0 L B A pb rw w) {pb' : DBs} {i : Nat} {ty : TypeId} {cells : List DV} {cs : List Value} (hi : pb'[i]? = some (some ⟨ty, cells, true⟩)) (hj : ∀ j, j ≠ i → pb'[j]? = pb[j]?) (hn : ¬ live pb i)
    (hc : hL (env U0 B A pb rw w) cells cs) :
    Mem V U0 L (upd B i w.heap.size) A pb' rw (w.alloc (.cells cs.toArray ty)) ∧ Sub noF (env U0 B A pb rw w) (env U0 (upd B i w.heap.size) A pb' rw (w.alloc (.cells cs.toArray ty))) ∧ Ext al B A pb rw w (upd B i w.heap.size) A pb' rw (w.alloc (.cells cs.toArray ty)) := by
  have hk : ∀ b, b < w.heap.size → (w.alloc (.cells cs.toArray ty)).heap[b]? = w.heap[b]? := fun b hb => heap_alloc_old w _ hb
  have hl : ∀ k i b, blk B A pb rw k i b → (w.alloc (.cells cs.toArray ty)).heap[b]? = w.heap[b]? := fun k i b h => hk b (m.low k i b h).1
  have hlive : ∀ j, j ≠ i → (live pb' j ↔ live pb j) := fun j hji => by simp only [live, hj j hji]
  have hb : ∀ k j b, blk (upd B i w.heap.size) A pb' rw k j b → (blk B A pb rw k j b ∨ (k = false ∧ j = i ∧ b = w.heap.size)) := by
    intro k j b h
    cases k with
    | true => exact .inl h
    | false =>
      obtain ⟨h1, h2⟩ := h
      by_cases hji : j = i
      · subst hji; rw [upd_same] at h2; exact .inr ⟨rfl, rfl, h2.symm⟩
      · rw [upd_ne _ _ hji] at h2; exact .inl ⟨(hlive j hji).1 h1, h2⟩
  refine m.step noF ⟨rfl, rfl, rfl, by simp⟩ (fun b hb _ => hk b hb) (fun k j b h => (hb k j b h).imp id fun ⟨_, _, h⟩ => by subst h; simp) (fun k j k' j' b h h' => ?_)
    (fun j h => ?_) (fun j e t l _ h => ⟨l, h, rfl, rfl⟩) (fun j d _ h => ⟨⟨d, h, rfl⟩, rfl⟩) (fun _ j q e t l h => by cases h) (fun _ j q d ad h => by cases h) (fun s j b' h => ?_)
    (fun _ j e t l h => .inl ⟨h, rfl, fun ad ha => hl true j _ ⟨_, ad, h, by simp, ha, rfl⟩⟩) fun _ j d h => .inl ⟨h, rfl, fun ad ha => hl true j _ ⟨_, ad, h, by simp, ha, rfl⟩⟩
  · rcases hb k j b h with g | ⟨rfl, rfl, e⟩
    · rcases hb k' j' b h' with g' | ⟨rfl, rfl, e⟩
      · exact m.inj _ _ _ _ _ g g'
      · have := (m.low k j b g).1; omega
    · rcases hb k' j' b h' with g | ⟨rfl, rfl, _⟩
      · have := (m.low k' j' b g).1; omega
      · exact ⟨rfl, rfl⟩
  · have hji : j ≠ i := by rintro rfl; exact hn h
    exact ⟨(hlive j hji).2 h, upd_ne _ _ hji⟩
  · by_cases hji : j = i
    · subst hji
      rw [hi] at h; simp only [Option.some.injEq] at h; subst h
      refine .inr ⟨cs, by rw [upd_same]; exact heap_alloc_new w _, ?_, rfl⟩
      have := hL_subL s cells hc
      rwa [subL_no] at this
    · rw [hj j hji] at h
      exact .inl ⟨b', h, rfl, by rw [subL_no], id, hl false j _ ⟨⟨_, h⟩, rfl⟩⟩
/-- a box is written -/
theorem Mem.setBox {al : Nat → Bool} (m : Mem V U0 L B A pb rw w) {i : Nat} {b0 : DB} {cells : List DV} {cs : List Value} (hal : al i = true) (hi : pb[i]? = some (some b0)) (hc : hL (env U0 B A pb rw w) cells cs)
    (hr : w'.os = w.os ∧ w'.tape = w.tape ∧ w'.output = w.output ∧ w.heap.size ≤ w'.heap.size) (hk : ∀ b, b < w.heap.size → b ≠ B i → w'.heap[b]? = w.heap[b]?) (hw : w'.heap[B i]? = some (.cells cs.toArray b0.ty (0, 0))) :
    Mem V U0 L B A (pb.set i (some ⟨b0.ty, cells, true⟩)) rw w' ∧ Sub noF (env U0 B A pb rw w) (env U0 B A (pb.set i (some ⟨b0.ty, cells, true⟩)) rw w') ∧ Ext al B A pb rw w B A (pb.set i (some ⟨b0.ty, cells, true⟩)) rw w' := by
  have hib : blk B A pb rw false i (B i) := ⟨⟨_, hi⟩, rfl⟩
  have hlt : i < pb.length := (List.getElem?_eq_some_iff.1 hi).1
  have hlive : ∀ j, live (pb.set i (some ⟨b0.ty, cells, true⟩)) j ↔ live pb j := fun j => by
    simp only [live, List.getElem?_set]
    split
    · rename_i h; subst h; exact ⟨fun _ => ⟨_, hi⟩, fun _ => ⟨_, rfl⟩⟩
    · rfl
  have hb : ∀ k j b, blk B A (pb.set i (some ⟨b0.ty, cells, true⟩)) rw k j b → blk B A pb rw k j b := by
    intro k j b h
    cases k with
    | true => exact h
    | false => exact ⟨(hlive j).1 h.1, h.2⟩
  have hl : ∀ k j b, blk B A pb rw k j b → (k = true ∨ j ≠ i) → w'.heap[b]? = w.heap[b]? := fun k j b h hne => hk b (m.low k j b h).1 (by
    rintro rfl
    obtain ⟨h1, h2⟩ := m.inj _ _ _ _ _ h hib
    rcases hne with h' | h'
    · subst h1; cases h'
    · exact h' h2)
  refine m.step noF hr (fun b hb1 hn => hk b hb1 (by rintro rfl; exact hn (.inl ⟨i, hal, hib⟩))) (fun k j b h => .inl (hb k j b h)) (fun k j k' j' b h h' => m.inj _ _ _ _ _ (hb _ _ _ h) (hb _ _ _ h'))
    (fun j h => ⟨(hlive j).2 h, rfl⟩) (fun j e t l _ h => ⟨l, h, rfl, rfl⟩) (fun j d _ h => ⟨⟨d, h, rfl⟩, rfl⟩) (fun _ j q e t l h => by cases h) (fun _ j q d ad h => by cases h) (fun s j b' h => ?_)
    (fun _ j e t l h => .inl ⟨h, rfl, fun ad ha => hl true j _ ⟨_, ad, h, by simp, ha, rfl⟩ (.inl rfl)⟩) fun _ j d h => .inl ⟨h, rfl, fun ad ha => hl true j _ ⟨_, ad, h, by simp, ha, rfl⟩ (.inl rfl)⟩
  rw [List.getElem?_set] at h
  split at h
  · rename_i hij; subst hij
    simp only [Option.some.injEq] at h; subst h
    refine .inr ⟨cs, hw, ?_, rfl⟩
    have := hL_subL s cells hc
    rwa [subL_no] at this
  · rename_i hij
    exact .inl ⟨b', h, rfl, by rw [subL_no], id, hl false j _ ⟨⟨_, h⟩, rfl⟩ (.inr (Ne.symm hij))⟩
/-- a row of one's own is another, or new; f: what slots that name it become -/
theorem Mem.putRow {al : Nat → Bool} (m : Mem V U0 L B A pb rw w) {j : Nat} {f : Nat → Option DV} {rw' : List DR} {e : TypeId} {t : DT} {l : List t.den} {a : Option Addr} {c : Nat} (hj : rw'[j]? = some (.own e t l)) (hi : ∀ i, i ≠ j → rw'[i]? = rw[i]?)
    (hf0 : ∀ i p, f i = some p → i = j ∧ p = .junk) (hkeep : f j = none → ∀ e t l, rw[j]? = some (.own e t l) → ∃ l', rw'[j]? = some (.own e t l') ∧ l'.length = l.length ∧ (a, c) = A j) (hkeepI : f j = none → ∀ d, rw[j]? ≠ some (.obj d))
    (hr : w'.os = w.os ∧ w'.tape = w.tape ∧ w'.output = w.output ∧ w.heap.size ≤ w'.heap.size) (hk : ∀ b, b < w.heap.size → ¬ blk B A pb rw true j b → w'.heap[b]? = w.heap[b]?)
    (ha : ∀ x, a = some x → blk B A pb rw true j x.block ∨ (w.heap.size ≤ x.block ∧ x.block < w'.heap.size))
    (hw : ∀ U', Later (Us U0 B A pb rw) U' w w' → ∃ xs, w'.ownsRow 0 e t.size (.slice a l.length c) l.length xs ∧ t.hs U' w' l xs) :
    Mem V U0 L B (upd A j (a, c)) (subB' f pb) rw' w' ∧ Sub f (env U0 B A pb rw w) (env U0 B (upd A j (a, c)) (subB' f pb) rw' w') ∧ Ext al B A pb rw w B (upd A j (a, c)) (subB' f pb) rw' w' := by
  have hb : ∀ k i b, blk B (upd A j (a, c)) (subB' f pb) rw' k i b → (¬ (k = true ∧ i = j) ∧ blk B A pb rw k i b) ∨ (k = true ∧ i = j ∧ ∃ x, a = some x ∧ x.block = b) := by
    intro k i b h
    cases k with
    | false => exact .inl ⟨by simp, subB'_live.1 h.1, h.2⟩
    | true =>
      obtain ⟨r, ad, h1, h2, h3, h4⟩ := h
      by_cases hij : i = j
      · subst hij; rw [upd_same] at h3; exact .inr ⟨rfl, rfl, ad, h3, h4⟩
      · rw [upd_ne _ _ hij] at h3; rw [hi i hij] at h1; exact .inl ⟨by simp [hij], r, ad, h1, h2, h3, h4⟩
  have hl : ∀ k i b, blk B A pb rw k i b → ¬ (k = true ∧ i = j) → w'.heap[b]? = w.heap[b]? := fun k i b h hne => hk b (m.low k i b h).1 fun hj' => by
    obtain ⟨h1, h2⟩ := m.inj _ _ _ _ _ h hj'
    exact hne ⟨h1, h2⟩
  refine m.step f hr (fun b hb1 hn => hk b hb1 fun h => hn (.inr ⟨j, h⟩)) (fun k i b h => ?_) (fun k i k' i' b h h' => ?_) (fun i h => ⟨subB'_live.2 h, rfl⟩) (fun i e' t' l' hfi h => ?_) (fun i d hfi h => ?_)
    (fun _ i q e' t' l' h _ => by obtain ⟨_, rfl⟩ := hf0 i q h; simp only [DV.h]) (fun _ i q d ad h _ _ => by obtain ⟨_, rfl⟩ := hf0 i q h; simp only [DV.h]) (fun s i b' h => ?_) (fun lt i e' t' l' h => ?_) fun _ i d h => ?_
  · rcases hb k i b h with ⟨_, h⟩ | ⟨rfl, rfl, x, hx, rfl⟩
    · exact .inl h
    · exact ha x hx
  · have one : ∀ k i b, ¬ (k = true ∧ i = j) → blk B A pb rw k i b → ∀ x, a = some x → x.block = b → False := fun k i b hn g x hx e => by
      rcases ha x hx with h1 | ⟨h1, _⟩
      · rw [e] at h1; exact hn (m.inj _ _ _ _ _ g h1)
      · have := (m.low k i b g).1; omega
    rcases hb k i b h with ⟨hn, g⟩ | ⟨rfl, rfl, x, hx, e⟩
    · rcases hb k' i' b h' with ⟨_, g'⟩ | ⟨rfl, rfl, x, hx, e⟩
      · exact m.inj _ _ _ _ _ g g'
      · exact (one _ _ _ hn g x hx e).elim
    · rcases hb k' i' _ h' with ⟨hn, g⟩ | ⟨rfl, rfl, _⟩
      · exact (one _ _ _ hn g x hx e).elim
      · exact ⟨rfl, rfl⟩
  · by_cases hij : i = j
    · subst hij; obtain ⟨l2, h1, h2, h3⟩ := hkeep hfi e' t' l' h; exact ⟨l2, h1, h2, by show upd A i (a, c) i = A i; rw [upd_same, h3]⟩
    · exact ⟨l', by show rw'[i]? = _; rw [hi i hij]; exact h, rfl, upd_ne _ _ hij⟩
  · by_cases hij : i = j
    · subst hij; exact absurd h (hkeepI hfi d)
    · exact ⟨⟨d, by show rw'[i]? = _; rw [hi i hij]; exact h, rfl⟩, upd_ne _ _ hij⟩
  · obtain ⟨b0, h0, rfl⟩ := subB'_get.1 h
    exact .inl ⟨b0, h0, rfl, rfl, id, hl false i _ ⟨⟨_, h0⟩, rfl⟩ (by simp)⟩
  · by_cases hij : i = j
    · subst hij
      rw [hj] at h; simp only [Option.some.injEq, DR.own.injEq] at h
      obtain ⟨rfl, rfl, h⟩ := h
      cases h
      obtain ⟨xs, h1, h2⟩ := hw _ lt
      exact .inr ⟨xs, by rw [upd_same]; exact h1, h2⟩
    · rw [hi i hij] at h
      exact .inl ⟨h, upd_ne _ _ hij, fun ad had => hl true i _ ⟨_, ad, h, by simp, had, rfl⟩ (by simp [hij])⟩
  · have hij : i ≠ j := by rintro rfl; rw [hj] at h; cases h
    rw [hi i hij] at h
    exact .inl ⟨h, upd_ne _ _ hij, fun ad had => hl true i _ ⟨_, ad, h, by simp, had, rfl⟩ (by simp [hij])⟩
theorem owns_at {U : Nat → Prop} {e : TypeId} {k : Nat} {a : Option Addr} {n c : Nat} {xs : List Value} (h : w.ownsRow 0 e k (.slice a n c) n xs) (hu : ∀ x, a = some x → ¬ U x.block) : At U w a 0 xs := by
  intro j u hj
  rcases h.2 with ⟨_, rfl⟩ | ⟨g, cap, cur, heq, hb, hg, h1, h2, h3, h4⟩
  · have := h.1; simp at this; subst this; simp at hj
  · simp only [Value.slice.injEq] at heq
    obtain ⟨rfl, _, rfl⟩ := heq
    refine ⟨_, rfl, hu _ rfl, (Array.getElem?_eq_some_iff.1 hg).1, ?_⟩
    rw [← h4, List.getElem?_take] at hj
    split at hj
    · rw [Nat.zero_add, add_own, Nat.zero_add]
      have := cell_of_row w g j cur e (0, 0) hg
      rw [this]; simpa using hj
    · cases hj
theorem owns_cap {e : TypeId} {k : Nat} {a : Option Addr} {n c : Nat} {xs : List Value} (h : w.ownsRow 0 e k (.slice a n c) n xs) : n ≤ c ∧ c ≤ maxLen := by
  rcases h.2 with ⟨h1, rfl⟩ | ⟨g, cap, cur, heq, hb, hg, h1, h2, h3, h4⟩
  · simp only [Value.slice.injEq] at h1; obtain ⟨_, _, rfl⟩ := h1; exact ⟨Nat.le_refl _, Nat.zero_le _⟩
  · simp only [Value.slice.injEq] at heq
    obtain ⟨_, _, rfl⟩ := heq
    exact ⟨h1, h2⟩
/-- a row of one's own, as who does not own it sees it -/
theorem Mem.viewRow (m : Mem V U0 L B A pb rw w) {j : Nat} {e : TypeId} {t : DT} {l : List t.den} (hj : rw[j]? = some (.own e t l)) {U' : Nat → Prop} (hs : ∀ b, U' b → Us U0 B A pb rw b) (hn : ∀ b, U' b → ¬ blk B A pb rw true j b) :
    (DT.slc t).h U' w l [.slice (A j).1 l.length (A j).2] := by
  obtain ⟨xs, h1, h2⟩ := m.row j e t l hj
  have hc := owns_cap h1
  refine DT.hs_slc (DT.hs_mono ⟨fun _ _ _ => rfl, Nat.le_refl _, fun b _ h => hs b h⟩ h2) hc.1 hc.2 (owns_at h1 fun x hx hu => hn _ hu ⟨_, x, hj, by simp, hx, rfl⟩)
/-- a row is given up: nobody writes it any longer -/
theorem Mem.freeze {al : Nat → Bool} (m : Mem V U0 L B A pb rw w) {j : Nat} {e : TypeId} {t : DT} {l : List t.den} (hj : rw[j]? = some (.own e t l)) :
    Mem V U0 L B A (subB' (oneD j (.sl t l)) pb) (rw.set j .dead) w ∧ Sub (oneD j (.sl t l)) (env U0 B A pb rw w) (env U0 B A (subB' (oneD j (.sl t l)) pb) (rw.set j .dead) w) ∧ Ext al B A pb rw w B A (subB' (oneD j (.sl t l)) pb) (rw.set j .dead) w := by
  have hne : ∀ i, i ≠ j → (rw.set j DR.dead)[i]? = rw[i]? := fun i h => by rw [List.getElem?_set, if_neg (Ne.symm h)]
  have hjj : (rw.set j DR.dead)[j]? = some .dead := by rw [List.getElem?_set, if_pos rfl, if_pos (List.getElem?_eq_some_iff.1 hj).1]
  have hb : ∀ k i b, blk B A (subB' (oneD j (.sl t l)) pb) (rw.set j .dead) k i b → blk B A pb rw k i b ∧ ¬ (k = true ∧ i = j) := by
    intro k i b h
    cases k with
    | false => exact ⟨⟨subB'_live.1 h.1, h.2⟩, by simp⟩
    | true =>
      obtain ⟨r, ad, h1, h2, h3, h4⟩ := h
      have hij : i ≠ j := by rintro rfl; rw [hjj] at h1; simp at h1; exact h2 h1.symm
      rw [hne i hij] at h1
      exact ⟨⟨r, ad, h1, h2, h3, h4⟩, by simp [hij]⟩
  have h1 : ∀ i, oneD j (.sl t l) i = none → i ≠ j := by
    rintro i h rfl; simp [oneD] at h
  have h2 : ∀ i q, oneD j (.sl t l) i = some q → i = j ∧ q = .sl t l := by
    intro i q h
    unfold oneD at h
    split at h
    · rename_i hb; simp at h; exact ⟨Nat.eq_of_beq_eq_true hb, h.symm⟩
    · cases h
  refine m.step _ ⟨rfl, rfl, rfl, Nat.le_refl _⟩ (fun _ _ _ => rfl) (fun k i b h => .inl (hb k i b h).1) (fun k i k' i' b h h' => m.inj _ _ _ _ _ (hb k i b h).1 (hb k' i' b h').1) (fun i h => ⟨subB'_live.2 h, rfl⟩)
    (fun i e' t' l' hf h => ⟨l', (hne i (h1 i hf)).trans h, rfl, rfl⟩) (fun i d hf h => ⟨⟨d, (hne i (h1 i hf)).trans h, rfl⟩, rfl⟩) (fun lt i q e' t' l' hf h => ?_) (fun _ i q d ad hf h _ => by obtain ⟨rfl, _⟩ := h2 i q hf; rw [hj] at h; cases h) (fun s i b' h => ?_) (fun _ i e' t' l' h => ?_) fun _ i d h => ?_
  · obtain ⟨rfl, rfl⟩ := h2 i q hf
    rw [hj] at h; simp only [Option.some.injEq, DR.own.injEq] at h
    obtain ⟨rfl, rfl, h⟩ := h
    cases h
    simp only [DV.h]
    refine m.viewRow hj (fun b hu => ?_) fun b hu hbj => ?_
    · exact hu.imp id fun ⟨k, i, h⟩ => ⟨k, i, (hb k i b h).1⟩
    · rcases hu with hu | ⟨k, i', hu⟩
      · have := m.u0 b hu
        rcases (m.low _ _ _ hbj).2 with h | h
        · omega
        · exact this.2 h
      · obtain ⟨g1, g2⟩ := hb k i' b hu
        exact g2 (m.inj _ _ _ _ _ g1 hbj)
  · obtain ⟨b0, h0, rfl⟩ := subB'_get.1 h
    exact .inl ⟨b0, h0, rfl, rfl, id, rfl⟩
  · have hij : i ≠ j := by rintro rfl; rw [hjj] at h; cases h
    exact .inl ⟨(hne i hij).symm.trans h, rfl, fun _ _ => rfl⟩
  · have hij : i ≠ j := by rintro rfl; rw [hjj] at h; cases h
    exact .inl ⟨(hne i hij).symm.trans h, rfl, fun _ _ => rfl⟩
/-- a set of one's own, as who does not own it sees it -/
theorem Mem.viewSet (m : Mem V U0 L B A pb rw w) {j : Nat} {ks : List KU} {ad : Addr} (hj : rw[j]? = some (.obj (.set ks))) (ha : (A j).1 = some ad) {U' : Nat → Prop} (hn : ∀ b, U' b → ¬ blk B A pb rw true j b) :
    DT.set.h U' w ks [(OD.set ks).at ad] := by
  obtain ⟨b, o, h1, h2, es, clock, rfl, h3⟩ := m.itr j _ hj
  rw [ha] at h1; simp only [Option.some.injEq] at h1; subst h1
  have hbj : blk B A pb rw true j b := ⟨_, _, hj, by simp, ha, rfl⟩
  exact ⟨b, es, clock, rfl, fun hu => hn b hu hbj, (m.low _ _ _ hbj).1, h2, h3⟩
/-- a set is given up: nobody writes it any longer -/
theorem Mem.freezeSet {al : Nat → Bool} (m : Mem V U0 L B A pb rw w) {j : Nat} {ks : List KU} (hj : rw[j]? = some (.obj (.set ks))) :
    Mem V U0 L B A (subB' (oneD j (.set ks)) pb) (rw.set j .dead) w ∧ Sub (oneD j (.set ks)) (env U0 B A pb rw w) (env U0 B A (subB' (oneD j (.set ks)) pb) (rw.set j .dead) w) ∧ Ext al B A pb rw w B A (subB' (oneD j (.set ks)) pb) (rw.set j .dead) w := by
  have hne : ∀ i, i ≠ j → (rw.set j DR.dead)[i]? = rw[i]? := fun i h => by rw [List.getElem?_set, if_neg (Ne.symm h)]
  have hjj : (rw.set j DR.dead)[j]? = some .dead := by rw [List.getElem?_set, if_pos rfl, if_pos (List.getElem?_eq_some_iff.1 hj).1]
  have hb : ∀ k i b, blk B A (subB' (oneD j (.set ks)) pb) (rw.set j .dead) k i b → blk B A pb rw k i b ∧ ¬ (k = true ∧ i = j) := by
    intro k i b h
    cases k with
    | false => exact ⟨⟨subB'_live.1 h.1, h.2⟩, by simp⟩
    | true =>
      obtain ⟨r, ad, h1, h2, h3, h4⟩ := h
      have hij : i ≠ j := by rintro rfl; rw [hjj] at h1; simp at h1; exact h2 h1.symm
      rw [hne i hij] at h1
      exact ⟨⟨r, ad, h1, h2, h3, h4⟩, by simp [hij]⟩
  have h1 : ∀ i, oneD j (.set ks) i = none → i ≠ j := by
    rintro i h rfl; simp [oneD] at h
  have h2 : ∀ i q, oneD j (.set ks) i = some q → i = j ∧ q = .set ks := by
    intro i q h
    unfold oneD at h
    split at h
    · rename_i hb; simp at h; exact ⟨Nat.eq_of_beq_eq_true hb, h.symm⟩
    · cases h
  refine m.step _ ⟨rfl, rfl, rfl, Nat.le_refl _⟩ (fun _ _ _ => rfl) (fun k i b h => .inl (hb k i b h).1) (fun k i k' i' b h h' => m.inj _ _ _ _ _ (hb k i b h).1 (hb k' i' b h').1) (fun i h => ⟨subB'_live.2 h, rfl⟩)
    (fun i e' t' l' hf h => ⟨l', (hne i (h1 i hf)).trans h, rfl, rfl⟩) (fun i d hf h => ⟨⟨d, (hne i (h1 i hf)).trans h, rfl⟩, rfl⟩) (fun _ i q e' t' l' hf h => by obtain ⟨rfl, _⟩ := h2 i q hf; rw [hj] at h; cases h) (fun lt i q d ad hf h ha => ?_) (fun s i b' h => ?_) (fun _ i e' t' l' h => ?_) fun _ i d h => ?_
  · obtain ⟨rfl, rfl⟩ := h2 i q hf
    rw [hj] at h; simp only [Option.some.injEq, DR.obj.injEq] at h
    subst h
    simp only [DV.h]
    refine m.viewSet hj ha fun b hu hbj => ?_
    rcases hu with hu | ⟨k, i', hu⟩
    · have := m.u0 b hu
      rcases (m.low _ _ _ hbj).2 with h | h
      · omega
      · exact this.2 h
    · obtain ⟨g1, g2⟩ := hb k i' b hu
      exact g2 (m.inj _ _ _ _ _ g1 hbj)
  · obtain ⟨b0, h0, rfl⟩ := subB'_get.1 h
    exact .inl ⟨b0, h0, rfl, rfl, id, rfl⟩
  · have hij : i ≠ j := by rintro rfl; rw [hjj] at h; cases h
    exact .inl ⟨(hne i hij).symm.trans h, rfl, fun _ _ => rfl⟩
  · have hij : i ≠ j := by rintro rfl; rw [hjj] at h; cases h
    exact .inl ⟨(hne i hij).symm.trans h, rfl, fun _ _ => rfl⟩
end
end Go.Vc

namespace Go.Vc
open Go Go.RowKit
/-! ### Words -/
section
variable {β : Type} {q : β}
theorem o1_s {α : Type} {o : Option α} {K : α → Option β} (h : o1 o K = some q) : ∃ x, o = some x ∧ K x = some q := by
  cases o with
  | none => cases h
  | some x => exact ⟨x, rfl, h⟩
theorem bif_s {c : Bool} {K N : Option β} (h : (bif c then K else N) = some q) : (c = true ∧ K = some q) ∨ (c = false ∧ N = some q) := by cases c <;> simp_all
theorem nz_s {b : Int} {K : Option β} (h : stdW.nz b K = some q) : b ≠ 0 ∧ K = some q := by
  change nzF b K = _ at h; unfold nzF at h
  rcases bif_s h with ⟨_, h⟩ | ⟨h1, h⟩
  · cases h
  · exact ⟨by simpa using h1, h⟩
theorem nn_s {b : Int} {K : Option β} (h : stdW.nn b K = some q) : 0 ≤ b ∧ K = some q := by
  change nnF b K = _ at h; unfold nnF at h
  rcases bif_s h with ⟨h1, h⟩ | ⟨_, h⟩
  · exact ⟨by simpa using h1, h⟩
  · cases h
theorem str_s {n : Int} {K : Option β} (h : stdW.str n K = some q) : n ≤ 9223372036854775807 ∧ K = some q := by
  change strF n K = _ at h; unfold strF at h
  rcases bif_s h with ⟨h1, h⟩ | ⟨_, h⟩
  · exact ⟨by simpa using h1, h⟩
  · cases h
theorem bnd_s {i : Int} {n : Nat} {K : Nat → Option β} (h : stdW.bnd i n K = some q) : 0 ≤ i ∧ i ≤ (n : Int) ∧ K i.toNat = some q := by
  change bndF i n K = _ at h; unfold bndF at h
  rcases bif_s h with ⟨h1, h⟩ | ⟨_, h⟩
  · simp at h1; exact ⟨h1.1, h1.2, h⟩
  · cases h
theorem idx_s {α : Type} {l : List α} {i : Int} {K : α → Option β} (h : stdW.idx l i K = some q) : 0 ≤ i ∧ ∃ x, l[i.toNat]? = some x ∧ K x = some q := by
  change idxF l i K = _ at h; unfold idxF at h
  split at h
  · rename_i x hx
    rcases bif_s h with ⟨h1, h⟩ | ⟨_, h⟩
    · exact ⟨by simpa using h1, x, hx, h⟩
    · cases h
  · cases h
theorem nth_s {α : Type} {l : List α} {i : Nat} {K : α → Option β} (h : stdW.nth l i K = some q) : ∃ x, l[i]? = some x ∧ K x = some q := by
  change idxR l i K = _ at h; unfold idxR at h
  split at h
  · rename_i x hx; exact ⟨x, hx, h⟩
  · cases h
theorem room_s {n b : Nat} {K : Option β} (h : stdW.room n b K = some q) : n ≤ 281474976710656 ∧ n * b ≤ 140737488355328 ∧ K = some q := by
  change roomF n b K = _ at h; unfold roomF at h
  rcases bif_s h with ⟨h1, h⟩ | ⟨_, h⟩
  · simp at h1; exact ⟨h1.1, h1.2, h⟩
  · cases h
theorem cnd_s {c : Bool} {a b : Option β} (h : stdW.cnd c a b = some q) : (c = true ∧ a = some q) ∨ (c = false ∧ b = some q) := bif_s h
theorem call_s {α : Type} {a : Option α} {K : α → Option β} (h : stdW.call a K = some q) : ∃ x, a = some x ∧ K x = some q := Option.bind_eq_some_iff.1 h
theorem both_s [EqB β] {a b : Option β} (h : stdW.both a b = some q) : a = some q ∧ b = some q := by
  change bothF a b = _ at h; unfold bothF at h
  split at h
  · rcases bif_s h with ⟨h1, h2⟩ | ⟨_, h2⟩
    · rw [(EqB.iff _ _).1 h1] at h2 ⊢; exact ⟨h2, h2⟩
    · cases h2
  · cases h
end
/-! ### Operands -/
section
variable {P : Program} {T : List TI} {E : Env} {ts : List DV} {a : Act} {β : Type} {q : β}
theorem gtV_h : ∀ {ts : List DV} {vs : List Value} {t : Nat} {p : DV}, gtV ts t = some p → hL E ts vs → p.h E ((vs[t]?).getD undef)
  | [], vs, t, p, h, hv => by simp only [hL] at hv; subst hv; simp [gtV] at h; subst h; simp [DV.h]
  | x :: ts, vs, 0, p, h, hv => by
    simp only [hL] at hv
    obtain ⟨v, vs', rfl, h1, _⟩ := hv
    simp only [gtV] at h
    split at h
    · cases h
    · simp only [Option.some.injEq] at h; subst h; simpa using h1
  | x :: ts, vs, t + 1, p, h, hv => by
    simp only [hL] at hv
    obtain ⟨v, vs', rfl, _, h2⟩ := hv
    simp only [gtV] at h
    simpa using gtV_h h h2
theorem ofConst_h (c : Value) : (ofConst c).h E c := by unfold ofConst; split <;> simp only [DV.h]
theorem opV_h {o : Operand} {p : DV} (h : opV ts o = some p) (hv : hL E ts a.tmps.toList) : p.h E (a.eval o) := by
  cases o with
  | tmp t => have := gtV_h h hv; simpa [Act.eval] using this
  | const c => simp only [opV, Option.some.injEq] at h; subst h; exact ofConst_h c
  | global g => simp only [opV, Option.some.injEq] at h; subst h; simp only [DV.h]; rfl
  | func f =>
    simp only [opV] at h
    split at h
    · cases h
    · rename_i hb
      simp only [Option.some.injEq] at h; subst h
      simp only [DV.h]
      exact ⟨#[], by unfold fnV; rw [hb]; rfl, by simp [hL]⟩
theorem opsV_h : ∀ {os : List Operand} {ps : List DV}, opsV ts os = some ps → hL E ts a.tmps.toList → hL E ps (os.map a.eval)
  | [], ps, h, _ => by simp [opsV] at h; subst h; simp [hL]
  | o :: os, ps, h, hv => by
    simp only [opsV] at h
    split at h
    · rename_i x hx
      split at h
      · rename_i xs hxs
        simp only [Option.some.injEq] at h; subst h
        simp only [List.map_cons, hL]
        exact ⟨_, _, rfl, opV_h hx hv, opsV_h hxs hv⟩
      · cases h
    · cases h
theorem tiV_s : ∀ {T : List TI} {t : Nat} {ti : TI}, tiV T t = some ti → T[t]? = some ti ∧ ti.ok = true
  | [], t, ti, h => by simp [tiV] at h
  | x :: T, 0, ti, h => by
    simp only [tiV] at h
    split at h
    · rename_i ho; simp only [Option.some.injEq] at h; subst h; exact ⟨rfl, ho⟩
    · cases h
  | x :: T, t + 1, ti, h => by simp only [tiV] at h; simpa using tiV_s h
theorem tiV_f (hT : TableOk P T) {t : Nat} {ti : TI} (h : tiV T t = some ti) : TFacts P t ti := let ⟨h1, h2⟩ := tiV_s h; hT.facts h1 h2
theorem tdV_k (hT : TableOk P T) {t k e : Nat} (h : tdV T t = some (.map k e)) : MapOk P k e := by
  unfold tdV at h
  split at h
  · rename_i ti hti
    obtain ⟨h1, h2⟩ := tiV_s hti
    exact hT.keys ti (List.mem_of_getElem? h1) h2 k e (Option.some.inj h)
  · cases h
theorem tdV_f (hT : TableOk P T) {t : Nat} {td : TD} (h : tdV T t = some td) : ∃ ti, TFacts P t ti ∧ ti.td = td := by
  unfold tdV at h
  split at h
  · rename_i ti hti; simp only [Option.some.injEq] at h; exact ⟨ti, tiV_f hT hti, h⟩
  · cases h
theorem fldV_s : ∀ {fs : List (Nat × Nat × Nat)} {i : Nat} {f : Nat × Nat × Nat}, fldV fs i = some f → fs[i]? = some f ∧ f.2.2 ≠ 0
  | [], i, f, h => by simp [fldV] at h
  | (off, ty, sz) :: fs, 0, f, h => by
    simp only [fldV] at h
    split at h
    · cases h
    · simp only [Option.some.injEq] at h; subst h; exact ⟨rfl, by simp⟩
  | _ :: fs, i + 1, f, h => by simp only [fldV] at h; simpa using fldV_s h
theorem posV_s : ∀ {fs : List (Nat × Nat × Nat)}, posV fs = true → ∀ f ∈ fs, f.2.2 ≠ 0
  | [], _ => by simp
  | (x, y, sz) :: fs, h => by
    simp only [posV] at h
    split at h
    · cases h
    · intro f hf
      rcases List.mem_cons.1 hf with rfl | hf
      · simp
      · exact posV_s h f hf
theorem oneD1_h {p : DV} (h : oneD1 p = true) {v : Value} (hv : p.h E v) : v.cells = #[v] ∧ oneC v = true := by
  cases p <;> simp only [oneD1] at h <;> try (cases h; done)
  all_goals simp only [DV.h] at hv
  case v y => subst hv; cases v <;> simp_all [oneC, Value.cells]
  case sl t l => obtain ⟨a, c, e, _⟩ := hv; simp at e; subst e; exact ⟨rfl, rfl⟩
  case set ks => obtain ⟨b, es, clock, e, _⟩ := hv; simp at e; subst e; exact ⟨rfl, rfl⟩
  case fn f cs => obtain ⟨vs, rfl, _⟩ := hv; unfold fnV; cases Nat.ble 1000000 f <;> exact ⟨rfl, rfl⟩
  case row j => obtain ⟨_, _, _, _, rfl⟩ := hv; exact ⟨rfl, rfl⟩
  case el t x off => obtain ⟨_, _, rfl, _⟩ := hv; exact ⟨rfl, rfl⟩
  case re j i off => obtain ⟨_, _, _, _, _, _, _, rfl⟩ := hv; exact ⟨rfl, rfl⟩
  case rt j i => obtain ⟨_, _, _, _, _, rfl⟩ := hv; exact ⟨rfl, rfl⟩
  case ob j => obtain ⟨d, _, _, _, rfl⟩ := hv; cases d <;> exact ⟨rfl, rfl⟩
  case own i off => obtain ⟨_, rfl⟩ := hv; exact ⟨rfl, rfl⟩
  case fns xs => obtain ⟨_, _, _, rfl, _⟩ := hv; exact ⟨rfl, rfl⟩
  case fp xs k => obtain ⟨_, _, rfl, _⟩ := hv; exact ⟨rfl, rfl⟩
  case ra j => obtain ⟨_, _, _, _, _, _, _, rfl⟩ := hv; exact ⟨rfl, rfl⟩
  case rs j i => obtain ⟨_, _, _, _, _, _, _, rfl⟩ := hv; exact ⟨rfl, rfl⟩
  case cs t l => obtain ⟨_, _, rfl⟩ := hv; exact ⟨rfl, rfl⟩
  all_goals (subst hv; exact ⟨rfl, rfl⟩)
theorem cellsV_h {p : DV} {cs : List DV} (h : cellsV p = some cs) {v : Value} (hv : p.h E v) : hL E cs v.cells.toList := by
  unfold cellsV at h
  split at h
  · simp only [Option.some.injEq] at h; subst h
    simp only [DV.h] at hv
    obtain ⟨vs, rfl, hv⟩ := hv
    exact hv
  · split at h
    · rename_i h1
      simp only [Option.some.injEq] at h; subst h
      rw [(oneD1_h h1 hv).1]
      simp only [hL]; exact ⟨v, [], rfl, hv, rfl⟩
    · cases h
theorem oneDL_h : ∀ {ps : List DV} {vs : List Value}, oneDL ps = true → hL E ps vs → ∀ v ∈ vs, oneC v = true
  | [], vs, _, hv => by simp only [hL] at hv; subst hv; simp
  | p :: ps, vs, h, hv => by
    simp only [oneDL] at h
    split at h
    · rename_i h1
      simp only [hL] at hv
      obtain ⟨v, vs', rfl, h2, h3⟩ := hv
      intro u hu
      rcases List.mem_cons.1 hu with rfl | hu
      · exact (oneD1_h h1 h2).2
      · exact oneDL_h h h3 u hu
    · cases h
theorem constV_h : ∀ (xs : List Value), hL E (constV xs) xs
  | [] => by simp [constV, hL]
  | x :: xs => by simp only [constV, hL]; exact ⟨x, xs, rfl, ofConst_h x, constV_h xs⟩
theorem partsV_h : ∀ {ps : List (Nat × Operand)} {xs : List (Nat × DV)}, partsV ts ps = some xs → hL E ts a.tmps.toList → hL E (xs.map (·.2)) (ps.map fun p => a.eval p.2) ∧ xs.map (·.1) = ps.map (·.1)
  | [], xs, h, _ => by simp [partsV] at h; subst h; simp [hL]
  | (i, o) :: ps, xs, h, hv => by
    simp only [partsV] at h
    split at h
    · rename_i x hx
      split at h
      · rename_i ys hys
        simp only [Option.some.injEq] at h; subst h
        obtain ⟨h1, h2⟩ := partsV_h hys hv
        refine ⟨?_, by simp [h2]⟩
        simp only [List.map_cons, hL]
        exact ⟨_, _, rfl, opV_h hx hv, h1⟩
      · cases h
    · cases h
theorem opOV_h {o : Option Operand} {x : Option DV} (h : opOV ts o = some x) (hv : hL E ts a.tmps.toList) : (o = none ∧ x = none) ∨ ∃ o' p, o = some o' ∧ x = some p ∧ p.h E (a.eval o') := by
  cases o with
  | none => simp [opOV] at h; exact .inl ⟨rfl, h.symm⟩
  | some o =>
    simp only [opOV] at h
    split at h
    · rename_i p hp; simp only [Option.some.injEq] at h; subst h; exact .inr ⟨o, p, rfl, rfl, opV_h hp hv⟩
    · cases h
theorem bndD_s {x : Option DV} {d n : Nat} {K : Nat → Option β} (h : bndD stdW x d n K = some q) : ∃ m, K m = some q ∧ ((x = none ∧ m = d) ∨ ∃ k i, x = some (.int k i) ∧ 0 ≤ i ∧ i ≤ (n : Int) ∧ m = i.toNat) := by
  unfold bndD at h
  split at h
  · exact ⟨d, h, .inl ⟨rfl, rfl⟩⟩
  · obtain ⟨h1, h2, h3⟩ := bnd_s h; exact ⟨_, h3, .inr ⟨_, _, rfl, h1, h2, rfl⟩⟩
  · cases h

/-! ### Operators -/
theorem leafV_h {l : LK} {x y : DV} {r : Bool} (h : leafV l x y = some r) {u v : Value} (hu : x.h E u) (hv : y.h E v) : ∀ ls xs ys, cmpV (l :: ls) (u :: xs) (v :: ys) = (cmpV ls xs ys).map (r && ·) := by
  unfold leafV at h
  split at h
  · split at h
    · rename_i hk
      have := eqk_eq hk; subst this
      simp only [Option.some.injEq] at h; subst h
      simp only [DV.h] at hu hv; subst hu; subst hv
      intro ls xs ys; simp [cmpV]
    · cases h
  all_goals first
    | cases h; done
    | (simp only [Option.some.injEq] at h; subst h; simp only [DV.h] at hu hv; subst hu; subst hv; intro ls xs ys; simp [cmpV])
theorem cmpXV_h : ∀ {ls : List LK} {xs ys : List DV} {r : Bool}, cmpXV ls xs ys = some r → ∀ {us vs : List Value}, hL E xs us → hL E ys vs → cmpV ls us vs = some r := by
  intro ls
  induction ls with
  | nil => intro xs ys r h; simp [cmpXV] at h
  | cons l ls ih =>
    intro xs ys r h us vs hu hv
    unfold cmpXV at h
    split at h
    · rename_i h1; injection h1 with h1 h2; subst h1; subst h2
      simp only [hL] at hu hv
      obtain ⟨u, _, rfl, hu, rfl⟩ := hu
      obtain ⟨v, _, rfl, hv, rfl⟩ := hv
      rw [leafV_h h hu hv]; simp [cmpV]
    · rename_i h1; injection h1 with h1 h2; subst h1; subst h2
      split at h
      · rename_i r1 hr1
        split at h
        · rename_i r2 hr2
          simp only [Option.some.injEq] at h; subst h
          simp only [hL] at hu hv
          obtain ⟨u, us, rfl, hu, hus⟩ := hu
          obtain ⟨v, vs, rfl, hv, hvs⟩ := hv
          rw [leafV_h hr1 hu hv, ih hr2 hus hvs]; simp
        · cases h
      · cases h
    · cases h
theorem run_eqXV (hT : TableOk P T) {neg : Bool} {t : TypeId} {p1 p2 r : DV} (h : eqXV T neg t p1 p2 = some r) {u v : Value} (hu : p1.h E u) (hv : p2.h E v) (x y : Operand) :
    ∃ z, r.h E z ∧ ∀ w : World, (do eqGuard (if neg then .neq else .eql) t x y u v; binOp (if neg then .neq else .eql) t u v).run P w = .ok z w := by
  unfold eqXV at h
  split at h
  case h_1 =>
    simp only [Option.some.injEq] at h; subst h
    simp only [DV.h] at hu hv ⊢; subst hu; subst hv
    exact ⟨_, rfl, fun w => run_eq_str neg x y _ _ w⟩
  case h_2 =>
    split at h
    · rename_i ti hti
      have hf := tiV_f hT hti
      split at h
      · rename_i ls fs hls htd
        split at h
        · rename_i r0 hr0
          simp only [Option.some.injEq] at h; subst h
          simp only [DV.h] at hu hv ⊢
          obtain ⟨us, rfl, hu⟩ := hu
          obtain ⟨vs, rfl, hv⟩ := hv
          have hc := cmpXV_h hr0 hu hv
          obtain ⟨d, i, hd, hi, h1, h2, h3, h4, h5, h6⟩ := hf.ex
          refine ⟨_, rfl, fun w => ?_⟩
          rw [hls] at h6
          split at h6
          · cases h6
          · rename_i hg
            obtain ⟨fl, hun, _⟩ := td_struct hf htd
            have := eq_leaves (P := P) 8 t ls h6.symm 10000 (by omega) _ _ _ hc w
            simp only [wrapV, hun] at this
            simp only [Sem.run_bind, run_eqGuard_agg (hm := by simpa using hg), Result.andThen_ok]
            cases neg
            · simp only [Bool.false_eq_true, if_false, run_eql_struct, this, Result.andThen_ok, notIf]
            · simp only [if_true, run_neq_struct, this, Result.andThen_ok, notIf]
        · cases h
      · rename_i ls n e hls htd
        split at h
        · rename_i r0 hr0
          simp only [Option.some.injEq] at h; subst h
          simp only [DV.h] at hu hv ⊢
          obtain ⟨us, rfl, hu⟩ := hu
          obtain ⟨vs, rfl, hv⟩ := hv
          have hc := cmpXV_h hr0 hu hv
          obtain ⟨d, i, hd, hi, h1, h2, h3, h4, h5, h6⟩ := hf.ex
          refine ⟨_, rfl, fun w => ?_⟩
          rw [hls] at h6
          split at h6
          · cases h6
          · rename_i hg
            have hun := td_array hf htd
            have := eq_leaves (P := P) 8 t ls h6.symm 10000 (by omega) _ _ _ hc w
            simp only [wrapV, hun] at this
            simp only [Sem.run_bind, run_eqGuard_agg (hm := by simpa using hg), Result.andThen_ok]
            cases neg
            · simp only [Bool.false_eq_true, if_false, run_eql_struct, this, Result.andThen_ok, notIf]
            · simp only [if_true, run_neq_struct, this, Result.andThen_ok, notIf]
        · cases h
      · cases h
    · cases h
  all_goals first
    | (cases h; done)
    | (split at h
       · rename_i htd
         obtain ⟨ti, hf, htd⟩ := tdV_f hT htd
         simp only [Option.some.injEq] at h; subst h
         simp only [DV.h] at hu hv ⊢
         first
           | (subst hu; subst hv; exact ⟨_, rfl, fun w => run_eq_bool neg x y _ _ w (td_bool hf htd)⟩)
           | (subst hu; subst hv; exact ⟨_, rfl, fun w => run_eq_slc neg x y none 0 0 w (td_slice hf htd)⟩)
           | (subst hu; subst hv; exact ⟨_, rfl, fun w => by cases neg <;> first | exact run_eq_ptr false x y none w (td_ptr hf htd) | exact run_eq_ptr true x y none w (td_ptr hf htd)⟩)
           | (obtain ⟨_, rfl⟩ := hu; subst hv; exact ⟨_, rfl, fun w => by cases neg <;> first | exact run_eq_ptr false x y (some _) w (td_ptr hf htd) | exact run_eq_ptr true x y (some _) w (td_ptr hf htd)⟩)
       · cases h)
theorem run_binE (hT : TableOk P T) {op : BinOp} {t : TypeId} {p1 p2 : DV} {ret : DV → Option β} (h : binE stdW T op t p1 p2 ret = some q) {u v : Value} (hu : p1.h E u) (hv : p2.h E v) (x y : Operand) :
    ∃ r z, ret r = some q ∧ r.h E z ∧ ∀ w : World, (do eqGuard op t x y u v; binOp op t u v).run P w = .ok z w := by
  unfold binE at h
  split at h
  · obtain ⟨h1, h⟩ := nn_s h
    simp only [DV.h] at hu hv; subst hu; subst hv
    exact ⟨_, _, h, by simp only [DV.h]; rfl, fun w => by simp [eqGuard_at_int, binOp_shl, Op.shift, Int.not_lt.2 h1]⟩
  · obtain ⟨h1, h⟩ := nn_s h
    simp only [DV.h] at hu hv; subst hu; subst hv
    exact ⟨_, _, h, by simp only [DV.h]; rfl, fun w => by simp [eqGuard_at_int, binOp_shr, Op.shift, Int.not_lt.2 h1]⟩
  · split at h
    · rename_i hk
      have := eqk_eq hk; subst this
      simp only [DV.h] at hu hv; subst hu; subst hv
      unfold intBinD at h
      split at h
      all_goals first
        | (cases h; done)
        | exact ⟨_, _, h, by simp only [DV.h]; rfl, fun w => by simp [eqGuard_at_int, binOp, Op.intArith, Op.intBits, Op.intCmp, bits]⟩
        | (obtain ⟨h1, h⟩ := nz_s h; exact ⟨_, _, h, by simp only [DV.h]; rfl, fun w => by simp [eqGuard_at_int, binOp, Op.intDiv, h1]⟩)
    · cases h
  · obtain ⟨h1, h⟩ := str_s h
    simp only [DV.h] at hu hv; subst hu; subst hv
    refine ⟨_, _, h, by simp only [DV.h]; rfl, fun w => ?_⟩
    simp [eqGuard_at_string, binOp, Op.stringOp]
    omega
  · split at h
    · rename_i r hr; obtain ⟨z, h1, h2⟩ := run_eqXV hT hr hu hv x y; exact ⟨r, z, h, h1, h2⟩
    · cases h
  · split at h
    · rename_i r hr; obtain ⟨z, h1, h2⟩ := run_eqXV hT hr hu hv x y; exact ⟨r, z, h, h1, h2⟩
    · cases h
  · cases h
end
end Go.Vc

namespace Go.Vc
open Go Go.RowKit
/-! ### Operations that come to a value whatever the world -/
section
variable {P : Program} {T : List TI} {E : Env} {ts : List DV} {a : Act} {β : Type} {q : β} {o : Oper} {ret : DV → Option β} {rw : List DR}
/-- a row without a block has no elements -/
def RowsA (E : Env) : Prop := ∀ j e t l, E.rw[j]? = some (.own e t l) → (E.A j).1 = none → l.length = 0
def PureOk (P : Program) (E : Env) (a : Act) (o : Oper) (ret : DV → Option β) (q : β) : Prop := ∃ r v, ret r = some q ∧ r.h E v ∧ ∀ w, (execOp a.eval o).run P w = .ok (.value v) w
theorem pu_run {s : Sem Value} {r : DV} {v : Value} (he : ∀ w, (execOp a.eval o).run P w = (s.run P w).andThen fun v w' => .ok (.value v) w') (hq : ret r = some q) (hr : r.h E v) (hs : ∀ w, s.run P w = .ok v w) : PureOk P E a o ret q :=
  ⟨r, v, hq, hr, fun w => by rw [he, hs]; rfl⟩
theorem pickV_h {g : Bool} {x y r : DV} (h : pickV g x y = some r) {u v : Value} (hu : x.h E u) (hv : y.h E v) : r.h E (if g then u else v) := by
  unfold pickV at h
  split at h <;> first
    | (cases h; done)
    | (simp only [Option.some.injEq] at h; subst h; simp only [DV.h] at hu hv ⊢; subst hu; subst hv; cases g <;> simp)
theorem pu_pick {c x y : Operand} (ho : o.op = .pick c x y) (hts : hL E ts a.tmps.toList) (h : purE stdW T o.op ts rw ret = some q) : PureOk P E a o ret q := by
  simp only [ho, purE] at h
  obtain ⟨g, hg, h⟩ := o1_s h
  have hg := opV_h hg hts
  have hr : ∀ w, (execOp a.eval o).run P w = ((asBool (a.eval c)).run P w).andThen fun b w' => .ok (.value (if b then a.eval x else a.eval y)) w' := by
    intro w; simp only [execOp, ho, Sem.run_bind, Sem.run_pure]
  split at h
  · obtain ⟨z, hz, h⟩ := o1_s h
    simp only [DV.h] at hg
    exact ⟨z, _, h, opV_h hz hts, fun w => by rw [hr, hg]; simp [asBool]⟩
  · obtain ⟨z, hz, h⟩ := o1_s h
    simp only [DV.h] at hg
    exact ⟨z, _, h, opV_h hz hts, fun w => by rw [hr, hg]; simp [asBool]⟩
  · obtain ⟨z, hz, h⟩ := o1_s h
    obtain ⟨u, hu, h⟩ := o1_s h
    obtain ⟨r, hpk, h⟩ := o1_s h
    simp only [DV.h] at hg
    exact ⟨r, _, h, pickV_h hpk (opV_h hz hts) (opV_h hu hts), fun w => by rw [hr, hg]; simp [asBool]⟩
  · cases h
theorem pu_nilCheck {x : Operand} (ho : o.op = .nilCheck x) (hts : hL E ts a.tmps.toList) (h : purE stdW T o.op ts rw ret = some q) : PureOk P E a o ret q := by
  simp only [ho, purE] at h
  obtain ⟨g, hg, h⟩ := o1_s h
  have hg := opV_h hg hts
  split at h
  · refine ⟨_, _, h, hg, fun w => ?_⟩; simp only [DV.h] at hg; obtain ⟨_, hg⟩ := hg; simp only [execOp, ho, hg]; rfl
  · refine ⟨_, _, h, hg, fun w => ?_⟩; simp only [DV.h] at hg; obtain ⟨_, _, hg, _⟩ := hg; simp only [execOp, ho, hg]; rfl
  · refine ⟨_, _, h, hg, fun w => ?_⟩; simp only [DV.h] at hg; obtain ⟨_, _, _, _, _, _, _, hg⟩ := hg; simp only [execOp, ho, hg]; rfl
  · rename_i f _ _
    refine ⟨_, _, h, hg, fun w => ?_⟩; simp only [DV.h] at hg; obtain ⟨_, hg, _⟩ := hg; simp only [execOp, ho, hg, fnV]; cases Nat.ble 1000000 f <;> rfl
  · cases h
theorem pu_unOp {op : UnOp} {t : TypeId} {x : Operand} (ho : o.op = .unOp op t x) (hts : hL E ts a.tmps.toList) (h : purE stdW T o.op ts rw ret = some q) : PureOk P E a o ret q := by
  simp only [ho, purE] at h
  obtain ⟨g, hg, h⟩ := o1_s h
  obtain ⟨r, hr0, h⟩ := o1_s h
  have hg := opV_h hg hts
  have hr : ∀ w, (execOp a.eval o).run P w = ((Op.unary op (a.eval x)).run P w).andThen fun v w' => .ok (.value v) w' := by
    intro w; simp only [execOp, ho, Sem.run_bind, Sem.run_pure]
  unfold unV at hr0
  split at hr0 <;> first
    | (cases hr0; done)
    | (simp only [Option.some.injEq] at hr0; subst hr0; simp only [DV.h] at hg; rw [hg] at hr; exact pu_run hr h (by simp only [DV.h]; rfl) fun w => by first | (simp [Op.unary]; done) | (simp [Op.unary, Op.intArith]; done) | (simp [Op.unary, intBits_xor]; done))
theorem pu_convert {s d : TypeId} {x : Operand} (hT : TableOk P T) (ho : o.op = .convert s d x) (hts : hL E ts a.tmps.toList) (h : purE stdW T (.convert s d x) ts rw ret = some q) : PureOk P E a o ret q := by
  simp only [purE] at h
  obtain ⟨g, hg, h⟩ := o1_s h
  have hg := opV_h hg hts
  have hr : ∀ w, (execOp a.eval o).run P w = ((convert s d (a.eval x)).run P w).andThen fun v w' => .ok (.value v) w' := by
    intro w; simp only [execOp, ho, Sem.run_bind, Sem.run_pure]
  split at h
  · rename_i hs hd _
    obtain ⟨ds, is, hds, _⟩ := (tiV_f hT hs).ex
    obtain ⟨ti, hf, htd⟩ := tdV_f hT hd
    have hu := td_int hf htd
    simp only [DV.h] at hg; rw [hg] at hr
    exact pu_run hr h (by simp only [DV.h]; rfl) fun w => by simp [convert, Sem.run_bind, run_underlying hds, run_underlying hu, Conv.intToInt]
  · rename_i hs hd _
    obtain ⟨ds, is, hds, _⟩ := (tiV_f hT hs).ex
    obtain ⟨ti, hf, htd⟩ := tdV_f hT hd
    have hu := td_string hf htd
    simp only [DV.h] at hg; rw [hg] at hr
    exact pu_run hr h (by simp only [DV.h]; rfl) fun w => by
      simp only [convert, Sem.run_bind, run_underlying hds, run_underlying hu, Result.andThen_ok]
      cases ds <;> simp
  · cases h
theorem stepV_h {p r : DV} {off : Nat} (h : stepV p off = some r) {v : Value} (hv : p.h E v) : ∃ ad, v = .pointer (some ad) ∧ r.h E (.pointer (some (ad.add off))) := by
  unfold stepV at h
  split at h
  · simp only [Option.some.injEq] at h; subst h
    simp only [DV.h] at hv ⊢
    obtain ⟨h1, rfl⟩ := hv
    exact ⟨_, rfl, h1, by rw [add_own]⟩
  · simp only [Option.some.injEq] at h; subst h
    simp only [DV.h] at hv ⊢
    obtain ⟨ad, us, rfl, h1, h2⟩ := hv
    exact ⟨_, rfl, ad, us, by rw [Addr.add_add], h1, h2⟩
  · simp only [Option.some.injEq] at h; subst h
    simp only [DV.h] at hv ⊢
    obtain ⟨e, t, l, ad, h1, h2, h3, rfl⟩ := hv
    exact ⟨_, rfl, e, t, l, ad, h1, h2, h3, by rw [Addr.add_add, Nat.add_assoc]⟩
  · cases h
theorem pu_fieldAddr {s : TypeId} {f : Nat} {x : Operand} (hT : TableOk P T) (ho : o.op = .fieldAddr s x f) (hts : hL E ts a.tmps.toList) (h : purE stdW T o.op ts rw ret = some q) : PureOk P E a o ret q := by
  simp only [ho, purE] at h
  obtain ⟨g, hg, h⟩ := o1_s h
  have hg := opV_h hg hts
  have hr : ∀ w, (execOp a.eval o).run P w = ((Instr.fieldAt s (a.eval x) f).run P w).andThen fun v w' => .ok (.value v) w' := by
    intro w; simp only [execOp, ho, Sem.run_bind, Sem.run_pure]
  split at h
  · rename_i fs hs
    obtain ⟨fq, hfq, h1⟩ := o1_s h
    obtain ⟨r, hr0, h2⟩ := o1_s h1
    clear h h1
    obtain ⟨ti, hf, htd⟩ := tdV_f hT hs
    obtain ⟨fl, hu, rfl⟩ := td_struct hf htd
    obtain ⟨hfl, hsz⟩ := fldV_s hfq
    simp only [List.getElem?_map, Option.map_eq_some_iff] at hfl
    obtain ⟨fd, hfd, rfl⟩ := hfl
    simp only at hsz hr0
    obtain ⟨i, hi, hisz⟩ := info_of_cells fd.type hsz
    have hfd' : fl[f]? = some fd := by simpa using hfd
    obtain ⟨ad, hv, hrh⟩ := stepV_h hr0 hg
    rw [hv] at hr
    exact pu_run hr h2 hrh fun w => by simp [Instr.fieldAt, Sem.run_bind, run_underlying hu, hfd', Instr.sureAddr, fieldPlace, run_sizeOf' hi, hisz, hsz]
  · cases h
theorem part_any (hT : TableOk P T) {ty : TypeId} {xs : List DV} {off : Nat} {r : DV} {i : TypeInfo} (h : partV T ty i.size xs off = some r) (hi : P.info? ty = some i) {vs : Array Value} (hv : hL E xs vs.toList) :
    ∃ v, r.h E v ∧ ∀ w, (part ty vs off).run P w = .ok v w := by
  unfold partV at h
  split at h
  · rename_i tf htf
    have hff := tiV_f hT htf
    split at h
    · rename_i hag
      split at h
      · rename_i l hl
        simp only [Option.some.injEq] at h; subst h
        obtain ⟨rfl, hle⟩ := subV_spec hl
        refine ⟨.agg ((vs.toList.drop off).take i.size).toArray, by simp only [DV.h]; exact ⟨_, rfl, hL_sub hv off i.size⟩, fun w => ?_⟩
        simp only [part, Sem.run_bind, td_agg hff, hag, Result.andThen_ok, if_true, run_sizeOf' hi, Sem.run_pure]
        congr 2
        apply Array.ext'
        simp [Array.toList_extract, List.extract_eq_take_drop]
      · cases h
    · rename_i hag
      split at h
      · rename_i x hx
        simp only [Option.some.injEq] at h; subst h
        obtain ⟨v, hv1, hv2⟩ := hL_get hv _ _ (sub1_spec hx)
        refine ⟨v, hv2, fun w => ?_⟩
        have : vs[off]? = some v := by simpa using hv1
        simp [part, td_agg hff, hag, this]
      · cases h
  · cases h
theorem pu_field {s : TypeId} {f : Nat} {x : Operand} (hT : TableOk P T) (ho : o.op = .field s x f) (hts : hL E ts a.tmps.toList) (h : purE stdW T o.op ts rw ret = some q) : PureOk P E a o ret q := by
  simp only [ho, purE] at h
  obtain ⟨g, hg, h⟩ := o1_s h
  have hg := opV_h hg hts
  have hr : ∀ w, (execOp a.eval o).run P w = ((Instr.field s (a.eval x) f).run P w).andThen fun v w' => .ok (.value v) w' := by
    intro w; simp only [execOp, ho, Sem.run_bind, Sem.run_pure]
  split at h
  · rename_i fs xs hs _
    obtain ⟨fq, hfq, h1⟩ := o1_s h
    obtain ⟨r, hr0, h2⟩ := o1_s h1
    clear h h1
    obtain ⟨ti, hf, htd⟩ := tdV_f hT hs
    obtain ⟨fl, hu, rfl⟩ := td_struct hf htd
    obtain ⟨hfl, hsz⟩ := fldV_s hfq
    simp only [List.getElem?_map, Option.map_eq_some_iff] at hfl
    obtain ⟨fd, hfd, rfl⟩ := hfl
    simp only at hsz hr0
    obtain ⟨i, hi, hisz⟩ := info_of_cells fd.type hsz
    have hfd' : fl[f]? = some fd := by simpa using hfd
    simp only [DV.h] at hg
    obtain ⟨vs, hv, hg⟩ := hg
    rw [hv] at hr
    rw [← hisz] at hr0
    obtain ⟨v, hv1, hv2⟩ := part_any hT hr0 hi hg
    exact pu_run hr h2 hv1 fun w => by simp [Instr.field, Sem.run_bind, run_underlying hu, hfd', asAgg, hv2]
  · cases h
theorem pu_indexAddr {t : TypeId} {x ix : Operand} (hT : TableOk P T) (ho : o.op = .indexAddr t x ix) (hts : hL E ts a.tmps.toList) (hrw : E.rw = rw) (hA : RowsA E) (h : purE stdW T o.op ts rw ret = some q) : PureOk P E a o ret q := by
  simp only [ho, purE] at h
  obtain ⟨g, hg, h⟩ := o1_s h
  obtain ⟨u, hu, h⟩ := o1_s h
  have hg := opV_h hg hts
  have hu := opV_h hu hts
  have hr : ∀ w, (execOp a.eval o).run P w = ((Instr.indexAt t (a.eval x) (a.eval ix)).run P w).andThen fun v w' => .ok (.value v) w' := by
    intro w; simp only [execOp, ho, Sem.run_bind, Sem.run_pure]
  split at h
  · rename_i e t' l k i htd _ _ _
    obtain ⟨ti, hf, htd⟩ := tdV_f hT htd
    have hun := td_slice hf htd
    split at h
    · rename_i te hte
      have hfe := tiV_f hT hte
      split at h
      · rename_i hsz h0
        have hsz := Nat.eq_of_beq_eq_true hsz
        obtain ⟨hi0, y, hy, h⟩ := idx_s h
        simp only [DV.h] at hg hu
        obtain ⟨aa, c, hv, hlc, hcm, hel⟩ := hg
        simp only [List.cons.injEq, and_true] at hv
        obtain ⟨us, hus, hat⟩ := hel _ _ hy
        have hlt := (List.getElem?_eq_some_iff.1 hy).1
        have hul := t'.h_len hus
        obtain ⟨ad, rfl⟩ : ∃ ad, aa = some ad := by
          have hp : 0 < us.length := by rw [hul]; exact Nat.le_of_ble_eq_true h0
          obtain ⟨x0, hx0, _⟩ := hat 0 _ (List.getElem?_eq_getElem hp)
          exact ⟨x0, hx0⟩
        rw [hv, hu] at hr
        refine pu_run hr h (v := .pointer (some (ad.add (i.toNat * te.size)))) ?_ fun w => ?_
        · simp only [DV.h]
          refine ⟨ad.add (i.toNat * te.size), us, by rw [Addr.add_add]; rfl, hus, fun j z hj => ?_⟩
          obtain ⟨x0, hx0, h1, h2, h3⟩ := hat j z hj
          simp only [Option.some.injEq] at hx0; subst hx0
          exact ⟨_, rfl, by rw [add_block]; exact h1, by rw [add_block]; exact h2, by rw [Addr.add_add, Nat.zero_add, hsz]; exact h3⟩
        · have h1 : i < (l.length : Int) := by omega
          simp [Instr.indexAt, Sem.run_bind, run_underlying hun, asIntOf, hi0, h1, td_size hfe]
      · cases h
    · cases h
  · rename_i e j k i htd _ _ _
    obtain ⟨ti, hf, htd⟩ := tdV_f hT htd
    have hun := td_slice hf htd
    split at h
    · rename_i te e' t' l hte hrj
      have hfe := tiV_f hT hte
      rw [drV_spec, ← hrw] at hrj
      split at h
      · rename_i hsz h0
        have hsz := Nat.eq_of_beq_eq_true hsz
        obtain ⟨hi0, y, hy, h⟩ := idx_s h
        simp only [DV.h] at hg hu
        obtain ⟨e2, t2, l2, hj2, hv⟩ := hg
        rw [hrj] at hj2; simp only [Option.some.injEq, DR.own.injEq] at hj2
        obtain ⟨rfl, rfl, hl2⟩ := hj2
        cases hl2
        have hlt := (List.getElem?_eq_some_iff.1 hy).1
        cases ha : (E.A j).1 with
        | none => have := hA j e' t' l hrj ha; omega
        | some ad =>
          rw [hv, hu, ha] at hr
          refine pu_run hr h (v := .pointer (some (ad.add (i.toNat * te.size)))) ?_ fun w => ?_
          · simp only [DV.h]
            exact ⟨e', t', l, ad, hrj, hlt, ha, by rw [hsz, Nat.add_zero]⟩
          · have h1 : i < (l.length : Int) := by omega
            simp [Instr.indexAt, Sem.run_bind, run_underlying hun, asIntOf, hi0, h1, td_size hfe]
      · cases h
    · cases h
  · rename_i e l _ k htd _ _ _
    obtain ⟨ti, hf, htd⟩ := tdV_f hT htd
    have hun := td_slice hf htd
    split at h
    · rename_i te hte
      have hfe := tiV_f hT hte
      split at h
      · rename_i hsz h0
        have hsz := Nat.eq_of_beq_eq_true hsz
        have h0 : k < l.length := Nat.le_of_ble_eq_true h0
        simp only [DV.h] at hg hu
        obtain ⟨ad, vs, c, hv, hel, hat⟩ := hg
        rw [hv, hu] at hr
        refine pu_run hr h (v := .pointer (some (ad.add k))) (by simp only [DV.h]; exact ⟨ad, vs, rfl, hel, hat⟩) fun w => ?_
        have h1 : ((k : Nat) : Int) < (l.length : Int) := by omega
        have h2 : (0 : Int) ≤ ((k : Nat) : Int) := by omega
        simp [Instr.indexAt, Sem.run_bind, run_underlying hun, asIntOf, h0, td_size hfe, hsz]
      · cases h
    · cases h
  · cases h
theorem pu_extract {t : Operand} {i : Nat} (ho : o.op = .extract t i) (hts : hL E ts a.tmps.toList) (h : purE stdW T o.op ts rw ret = some q) : PureOk P E a o ret q := by
  simp only [ho, purE] at h
  obtain ⟨g, hg, h⟩ := o1_s h
  have hg := opV_h hg hts
  have hr : ∀ w, (execOp a.eval o).run P w = ((Instr.extract (a.eval t) i).run P w).andThen fun v w' => .ok (.value v) w' := by
    intro w; simp only [execOp, ho, Sem.run_bind, Sem.run_pure]
  split at h
  · split at h
    · rename_i xs x hx
      simp only [DV.h] at hg
      obtain ⟨vs, hv, hg⟩ := hg
      obtain ⟨v, hv1, hv2⟩ := hL_get hg _ _ (sub1_spec hx)
      rw [hv] at hr
      have : vs[i]? = some v := by simpa using hv1
      exact pu_run hr h hv2 fun w => by simp [Instr.extract, this]
    · cases h
  · cases h
theorem pu_makeFunc {fn : Fn} {first caps : Array Operand} (ho : o.op = .makeFunc fn first caps) (hts : hL E ts a.tmps.toList) (h : purE stdW T o.op ts rw ret = some q) : PureOk P E a o ret q := by
  simp only [ho, purE] at h
  split at h
  · rename_i f hfirst
    split at h
    · rename_i cs hb hcs
      have hc := opsV_h hcs hts
      have hfa : first = #[] := by apply Array.ext'; simpa using hfirst
      refine ⟨_, .func (.func f) #[] (caps.map a.eval), h, by simp only [DV.h]; exact ⟨_, by unfold fnV; rw [hb]; rfl, by simpa using hc⟩, fun w => ?_⟩
      simp [execOp, ho, Instr.makeFunc, hfa]
    · cases h
  · rename_i f hcaps _
    split at h
    · rename_i cs hcs
      have hc := opsV_h hcs hts
      have hfa : caps = #[] := by apply Array.ext'; simpa using hcaps
      have hb : Nat.ble 1000000 (f + 1000000) = true := Nat.ble_eq_true_of_le (by omega)
      refine ⟨_, .func (.func f) (first.map a.eval) #[], h, by simp only [DV.h]; exact ⟨first.map a.eval, by unfold fnV; rw [hb]; simp, by simpa using hc⟩, fun w => ?_⟩
      simp [execOp, ho, Instr.makeFunc, hfa]
    · cases h
  · cases h
theorem run_bound {x : Option DV} {d bound n : Nat} {ol : Option Operand} (h0 : (ol = none ∧ x = none) ∨ ∃ o' p, ol = some o' ∧ x = some p ∧ p.h E (a.eval o')) (hb : (x = none ∧ n = d) ∨ ∃ k i, x = some (.int k i) ∧ 0 ≤ i ∧ i ≤ (bound : Int) ∧ n = i.toNat) :
    (ol = none ∧ n = d) ∨ ∃ o' k i, ol = some o' ∧ a.eval o' = .int k i ∧ 0 ≤ i ∧ i ≤ (bound : Int) ∧ n = i.toNat := by
  rcases h0 with ⟨rfl, rfl⟩ | ⟨o', p, rfl, rfl, hp⟩
  · rcases hb with ⟨_, rfl⟩ | ⟨k, i, h, _⟩
    · exact .inl ⟨rfl, rfl⟩
    · cases h
  · rcases hb with ⟨h, _⟩ | ⟨k, i, h, h1, h2, h3⟩
    · cases h
    · simp only [Option.some.injEq] at h; subst h
      simp only [DV.h] at hp
      exact .inr ⟨o', k, i, rfl, hp, h1, h2, h3⟩
theorem pu_slice {t : TypeId} {x : Operand} {lo hi mx : Option Operand} (hT : TableOk P T) (ho : o.op = .slice t x lo hi mx) (hts : hL E ts a.tmps.toList) (h : purE stdW T (.slice t x lo hi mx) ts rw ret = some q) : PureOk P E a o ret q := by
  simp only [purE] at h
  obtain ⟨g, hg, h⟩ := o1_s h
  have hg := opV_h hg hts
  split at h
  · rename_i plo phi hlo hhi
    have hlo := opOV_h hlo hts
    have hhi := opOV_h hhi hts
    have hr : ∀ w, (execOp a.eval o).run P w = ((Instr.sliceAt t (a.eval x) (lo.map a.eval) (hi.map a.eval) (mx.map a.eval)).run P w).andThen fun v w' => .ok (.value v) w' := by
      intro w; simp only [execOp, ho, Sem.run_bind, Sem.run_pure]
    split at h
    · rename_i e t' l htd _ _
      obtain ⟨ti, hf, htd⟩ := tdV_f hT htd
      have hun := td_slice hf htd
      split at h
      · rename_i te hte
        have hfe := tiV_f hT hte
        split at h
        · rename_i hsz
          have hsz := Nat.eq_of_beq_eq_true hsz
          simp only [DV.h] at hg
          obtain ⟨aa, c, hv, hlc, hcm, hel⟩ := hg
          simp only [List.cons.injEq, and_true] at hv
          split at h
          · obtain ⟨n, h9, hb⟩ := bndD_s h
            clear h
            have hnl : n ≤ l.length := by rcases hb with ⟨_, rfl⟩ | ⟨_, _, _, _, _, rfl⟩ <;> omega
            rcases hlo with ⟨rfl, _⟩ | ⟨_, _, rfl, h', _⟩
            case inr => cases h'
            rw [hv] at hr
            refine pu_run hr h9 (v := .slice aa n c) ?_ fun w => ?_
            · simp only [DV.h]
              exact ⟨aa, c, by simp; omega, by simp; omega, hcm, fun i y hy => hel i y (by
                rw [List.getElem?_take] at hy
                split at hy
                · exact hy
                · cases hy)⟩
            · rcases run_bound hhi hb with ⟨rfl, rfl⟩ | ⟨o', k, i, rfl, hev, h0, h1, rfl⟩
              · simp only [Instr.sliceAt, Instr.slice, Sem.run_bind, run_underlying hun, Result.andThen_ok, Option.map_none, Instr.sliceBounds, Sem.run_pure, td_size hfe, Nat.zero_mul, Nat.sub_zero]
                congr 2
                cases aa <;> simp [Addr.add]
              · have h1' : i ≤ (c : Int) := by omega
                simp only [Instr.sliceAt, Instr.slice, Sem.run_bind, run_underlying hun, Result.andThen_ok, Option.map_none, Option.map_some, hev, Instr.sliceBounds, Sem.run_pure, if_true, run_sliceBound w k i c .sliceAcap h0 h1', td_size hfe, Nat.zero_mul, Nat.sub_zero]
                congr 2
                cases aa <;> simp [Addr.add]
          · rename_i plo
            obtain ⟨n, h8, hb⟩ := bndD_s h
            obtain ⟨m, h9, hbl⟩ := bndD_s h8
            clear h h8
            have hnl : n ≤ l.length := by rcases hb with ⟨_, rfl⟩ | ⟨_, _, _, _, _, rfl⟩ <;> omega
            have hmn : m ≤ n := by
              rcases hbl with ⟨h', _⟩ | ⟨_, _, _, _, _, rfl⟩
              · cases h'
              · omega
            rcases run_bound hlo hbl with ⟨rfl, _⟩ | ⟨ol, kl, il, rfl, hevl, hl0, hl1, rfl⟩
            · rcases hlo with ⟨_, h'⟩ | ⟨_, _, h', _⟩ <;> cases h'
            · rw [hv] at hr
              refine pu_run hr h9 (v := .slice (if c = il.toNat then aa else aa.map (·.add (il.toNat * te.size))) (n - il.toNat) (c - il.toNat)) ?_ fun w => ?_
              · simp only [DV.h]
                have hlen : ((l.take n).drop il.toNat).length = n - il.toNat := by rw [List.length_drop, List.length_take, Nat.min_eq_left hnl]
                refine ⟨_, _, by rw [hlen], by rw [hlen]; omega, by omega, fun i y hy => ?_⟩
                rw [List.getElem?_drop, List.getElem?_take] at hy
                split at hy
                · obtain ⟨us, h1, h2⟩ := hel _ y hy
                  refine ⟨us, h1, fun j u hj => ?_⟩
                  obtain ⟨ad, rfl, g1, g2, g3⟩ := h2 j u hj
                  rw [if_neg (by omega)]
                  refine ⟨_, rfl, by rw [add_block]; exact g1, by rw [add_block]; exact g2, ?_⟩
                  rw [Addr.add_add, hsz, ← g3]; congr 2
                  rw [Nat.add_mul]; omega
                · cases hy
              · rcases run_bound hhi hb with ⟨rfl, rfl⟩ | ⟨o', k, i, rfl, hev, h0, h1, rfl⟩
                · simp only [Instr.sliceAt, Instr.slice, Sem.run_bind, run_underlying hun, Result.andThen_ok, Option.map_none, Option.map_some, hevl, Instr.sliceBounds, Sem.run_pure, Option.isSome_none, Bool.false_eq_true, if_false, run_sliceBound w kl il _ .sliceB hl0 hl1, td_size hfe]
                · have h1' : i ≤ (c : Int) := by omega
                  simp only [Instr.sliceAt, Instr.slice, Sem.run_bind, run_underlying hun, Result.andThen_ok, Option.map_none, Option.map_some, hevl, hev, Instr.sliceBounds, Sem.run_pure, Option.isSome_none, Bool.false_eq_true, if_false, if_true, run_sliceBound w k i c .sliceAcap h0 h1', run_sliceBound w kl il _ .sliceB hl0 hl1, td_size hfe]
        · cases h
      · cases h
    · rename_i s htd _ _
      obtain ⟨ti, hf, htd⟩ := tdV_f hT htd
      have hun := td_string hf htd
      obtain ⟨n, h8, hb⟩ := bndD_s h
      obtain ⟨m, h9, hbl⟩ := bndD_s h8
      clear h h8
      simp only [DV.h] at hg
      rw [hg] at hr
      refine pu_run hr h9 (v := .string (s.extract m n)) (by simp only [DV.h]) fun w => ?_
      rcases run_bound hhi hb with ⟨rfl, rfl⟩ | ⟨o', k, i, rfl, hev, h0, h1, rfl⟩ <;> rcases run_bound hlo hbl with ⟨rfl, rfl⟩ | ⟨ol, k2, i2, rfl, hev2, h2, h3, rfl⟩
      · simp [Instr.sliceAt, Instr.slice, Sem.run_bind, run_underlying hun, Instr.sliceBounds]
      · simp [Instr.sliceAt, Instr.slice, Sem.run_bind, run_underlying hun, Instr.sliceBounds, hev2, run_sliceBound w k2 i2 _ .sliceB h2 h3]
      · simp [Instr.sliceAt, Instr.slice, Sem.run_bind, run_underlying hun, Instr.sliceBounds, hev, run_sliceBound w k i _ .sliceAlen h0 h1]
      · simp [Instr.sliceAt, Instr.slice, Sem.run_bind, run_underlying hun, Instr.sliceBounds, hev, hev2, run_sliceBound w k i _ .sliceAlen h0 h1, run_sliceBound w k2 i2 _ .sliceB h2 h3]
    · rename_i e t' l m htd _ _
      obtain ⟨ti, hf, htd⟩ := tdV_f hT htd
      have hun := td_slice hf htd
      split at h
      · rename_i kn n kk k te hm hte _ _
        have hfe := tiV_f hT hte
        split at h
        · rename_i hsz
          have hsz := Nat.eq_of_beq_eq_true hsz
          rcases cnd_s h with ⟨hc, h9⟩ | ⟨_, h9⟩
          case inr => cases h9
          simp only [Bool.and_eq_true, beq_iff_eq] at hc
          obtain ⟨rfl, rfl⟩ := hc
          simp only [DV.h] at hg
          obtain ⟨aa, c, hv, hlc, hcm, hel⟩ := hg
          simp only [List.cons.injEq, and_true] at hv
          have hm := opV_h hm hts
          simp only [DV.h] at hm
          rcases hlo with ⟨rfl, _⟩ | ⟨_, _, rfl, h', _⟩
          case inr => cases h'
          rcases hhi with ⟨_, h'⟩ | ⟨o', p, rfl, h', hp⟩
          · cases h'
          simp only [Option.some.injEq] at h'
          subst h'
          simp only [DV.h] at hp
          rw [hv] at hr
          refine pu_run hr h9 (v := .slice aa l.length l.length) ?_ fun w => ?_
          · simp only [DV.h]
            exact ⟨⟨aa, l.length, rfl, Nat.le_refl _, by omega, hel⟩, aa, rfl⟩
          · simp only [Instr.sliceAt, Instr.slice, Sem.run_bind, run_underlying hun, Result.andThen_ok, Option.map_none, Option.map_some, hm, hp, Instr.sliceBounds, Sem.run_pure, if_true, run_sliceBound w kk l.length c .slice3Acap (by omega) (by omega), Int.toNat_natCast, run_sliceBound w kn l.length l.length .slice3B (by omega) (by omega), td_size hfe, Nat.zero_mul, Nat.sub_zero]
            congr 2
            cases aa <;> simp [Addr.add]
        · cases h
      · cases h
    · cases h
  · cases h
theorem mapM_places (w : World) : ∀ (fl : List Field), (∀ f ∈ fl, (sizeOf f.type).run P w = .ok (P.cellsOf f.type) w) →
    (fl.mapM (fun f => do pure (f.offset, ← sizeOf f.type) : Field → Sem (Nat × Nat))).run P w = .ok (fl.map fun f => (f.offset, P.cellsOf f.type)) w
  | [], _ => by simp
  | f :: fl, h => by
    have h0 := h f (by simp)
    have ih := mapM_places w fl (fun g hg => h g (by simp [hg]))
    simp only [List.mapM_cons, Sem.run_bind, h0, ih, Result.andThen_ok, Sem.run_pure, List.map_cons]
theorem fillE_s {fs : List (Nat × Nat × Nat)} : ∀ (ps : List (Nat × DV)) (ns : List (Nat × Value)) (cells : List DV) (cs : List Value) (K : List DV → Option β), fillE fs cells ps K = some q → hL E (ps.map (·.2)) (ns.map (·.2)) → ps.map (·.1) = ns.map (·.1) → hL E cells cs →
    ∃ r us, K r = some q ∧ hL E r us ∧ Instr.fill (fun i => (fs.map fun f => (f.1, f.2.2))[i]?) cs.toArray ns = some us.toArray
  | [], ns, cells, cs, K, h, hv, hn, hc => by
    cases ns with
    | nil => exact ⟨cells, cs, h, hc, by simp [Instr.fill]⟩
    | cons n ns => simp at hn
  | (i, x) :: ps, ns, cells, cs, K, h, hv, hn, hc => by
    cases ns with
    | nil => simp at hn
    | cons n ns =>
      obtain ⟨i', v⟩ := n
      simp only [List.map_cons, List.cons.injEq] at hn
      obtain ⟨rfl, hn⟩ := hn
      simp only [List.map_cons, hL] at hv
      obtain ⟨v', vs', e, hv1, hv2⟩ := hv
      simp only [List.cons.injEq] at e
      obtain ⟨rfl, rfl⟩ := e
      simp only [fillE] at h
      split at h
      · rename_i off ty sz hfl
        obtain ⟨hfl, hsz⟩ := fldV_s hfl
        split at h
        · rename_i ds hds
          have hd := cellsV_h hds hv1
          split at h
          · rename_i hlen hsub
            have hlen := Nat.eq_of_beq_eq_true hlen
            have hle := (subV_spec hsub).2
            rw [wrE_eq] at h
            obtain ⟨r, us, h1, h2, h3⟩ := fillE_s ps ns _ _ K h hv2 hn (hL_wr off hc hd)
            refine ⟨r, us, h1, h2, ?_⟩
            have hs : v.cells.size = sz := by rw [← Array.length_toList, hL_len hd, hlen]
            have hcl := hL_len hc
            simp only [Instr.fill, List.getElem?_map, hfl, Option.map_some]
            have hgt : ¬ (off + sz > cs.length) := by omega
            simp only [hs, ne_eq, not_true_eq_false, decide_false, List.size_toArray, Bool.false_or, hgt]
            rw [← h3]
            congr 1
            have := foldl_wr v.cells.toList cs.toArray off 0
            rw [← Array.foldl_toList, Array.toList_zipIdx]
            rw [this]
            simp
          · cases h
        · cases h
      · cases h
theorem arrFs_get {e : TypeId} {sz : Nat} : ∀ {n k i : Nat} {q : Nat × Nat × Nat}, (arrFs e sz n k)[i]? = some q → q = ((k + i) * sz, e, sz)
  | 0, k, i, q, h => by simp [arrFs] at h
  | n + 1, k, 0, q, h => by simp [arrFs] at h; rw [← h]; rfl
  | n + 1, k, i + 1, q, h => by
    simp only [arrFs, List.getElem?_cons_succ] at h
    rw [arrFs_get h, show k + 1 + i = k + (i + 1) by omega]
theorem fill_more {f g : Nat → Option (Nat × Nat)} (h : ∀ i p, f i = some p → g i = some p) : ∀ {cs : Array Value} (ps : List (Nat × Value)) {r : Array Value}, Instr.fill f cs ps = some r → Instr.fill g cs ps = some r
  | cs, [], r, hr => hr
  | cs, (i, v) :: ps, r, hr => by
    unfold Instr.fill at hr ⊢
    cases hf : f i with
    | none => rw [hf] at hr; cases hr
    | some p =>
      rw [hf] at hr
      rw [h i p hf]
      obtain ⟨off, sz⟩ := p
      simp only at hr ⊢
      split at hr
      · cases hr
      · rename_i hc; rw [if_neg hc]; exact fill_more h ps hr
theorem pu_build {t : TypeId} {parts : Array (Nat × Operand)} (hT : TableOk P T) (ho : o.op = .build t parts) (hts : hL E ts a.tmps.toList) (h : purE stdW T o.op ts rw ret = some q) : PureOk P E a o ret q := by
  simp only [ho, purE] at h
  split at h
  · rename_i ps hps
    obtain ⟨hp1, hp2⟩ := partsV_h hps hts
    have hr : ∀ w, (execOp a.eval o).run P w = ((Instr.build t (parts.toList.map fun p => (p.1, a.eval p.2)).toArray).run P w).andThen fun v w' => .ok (.value v) w' := by
      intro w
      simp only [execOp, ho, Sem.run_bind, Sem.run_pure]
      congr 3
      apply Array.ext'
      simp
    split at h
    · rename_i ti hti
      have hf := tiV_f hT hti
      split at h
      · rename_i fs z zs htd hz
        obtain ⟨fl, hu, rfl⟩ := td_struct hf htd
        split at h
        · rename_i hpos
          have hpos := posV_s hpos
          obtain ⟨r, us, h, hru, hfill⟩ := fillE_s ps (parts.toList.map fun p => (p.1, a.eval p.2)) _ _ _ h (by simpa [List.map_map, Function.comp_def] using hp1) (by simpa [List.map_map, Function.comp_def] using hp2) (constV_h (z :: zs))
          obtain ⟨i, hi, _, hzero⟩ := td_facts hf
          rw [hz] at hzero
          obtain ⟨zv, hzv, hzc⟩ : ∃ zv, i.zero = some zv ∧ zv.cells.toList = z :: zs := by
            cases hiz : i.zero with
            | none => rw [hiz] at hzero; cases hzero
            | some zv => rw [hiz] at hzero; exact ⟨zv, rfl, hzero.symm⟩
          refine pu_run hr h (v := .agg us.toArray) (by simp only [DV.h]; exact ⟨_, rfl, by simpa using hru⟩) fun w => ?_
          have hm := mapM_places (P := P) w fl.toList (fun f hf' => by
            have := hpos _ (List.mem_map.2 ⟨f, hf', rfl⟩)
            obtain ⟨j, hj, hjs⟩ := info_of_cells f.type this
            rw [run_sizeOf' hj, hjs])
          have hm' : (fl.mapM (fun f => do pure (f.offset, ← sizeOf f.type) : Field → Sem (Nat × Nat))).run P w = .ok (fl.toList.map fun f => (f.offset, P.cellsOf f.type)).toArray w := by
            rw [Array.mapM_eq_mapM_toList]
            simp only [Sem.run_map, hm, Result.andThen_ok]
          have hc : zv.cells = (z :: zs).toArray := by rw [← hzc]
          simp only [Instr.build, Sem.run_bind, run_zeroValue' hi hzv, Result.andThen_ok, run_underlying hu, hm', hc]
          simp only [List.map_map] at hfill
          have e : (fun x : Nat => ((fl.toList.map fun f => (f.offset, P.cellsOf f.type)).toArray)[x]?) = (fun i : Nat => (fl.toList.map ((fun f => (f.1, f.2.2)) ∘ fun f => (f.offset, f.type, P.cellsOf f.type)))[i]?) := by
            funext i; simp; rfl
          rw [e, hfill]
          simp
        · cases h
      · rename_i n e z zs htd hz
        have hu := td_array hf htd
        split at h
        · rename_i te hte
          have hfe := tiV_f hT hte
          split at h
          · rename_i hpos
            have hpos : 0 < te.size := Nat.le_of_ble_eq_true hpos
            have hsz := td_size hfe
            obtain ⟨r, us, h, hru, hfill⟩ := fillE_s ps (parts.toList.map fun p => (p.1, a.eval p.2)) _ _ _ h (by simpa [List.map_map, Function.comp_def] using hp1) (by simpa [List.map_map, Function.comp_def] using hp2) (constV_h (z :: zs))
            obtain ⟨i, hi, _, hzero⟩ := td_facts hf
            rw [hz] at hzero
            obtain ⟨zv, hzv, hzc⟩ : ∃ zv, i.zero = some zv ∧ zv.cells.toList = z :: zs := by
              cases hiz : i.zero with
              | none => rw [hiz] at hzero; cases hzero
              | some zv => rw [hiz] at hzero; exact ⟨zv, rfl, hzero.symm⟩
            refine pu_run hr h (v := .agg us.toArray) (by simp only [DV.h]; exact ⟨_, rfl, by simpa using hru⟩) fun w => ?_
            have hc : zv.cells = (z :: zs).toArray := by rw [← hzc]
            have hfill' := fill_more (g := fun i => some (i * te.size, te.size)) (fun i p hp => by
              simp only [List.getElem?_map, Option.map_eq_some_iff] at hp
              obtain ⟨q, hq, rfl⟩ := hp
              rw [arrFs_get hq]; simp) _ hfill
            simp only [Instr.build, Sem.run_bind, run_zeroValue' hi hzv, Result.andThen_ok, run_underlying hu, hc, hsz, hfill']
            simp
          · cases h
        · cases h
      · cases h
    · cases h
  · cases h
theorem pu_builtin {c : Call} {b : Builtin} {xs : List DV} (hT : TableOk P T) (ho : o.op = .call c) (hcal : c.callee = .builtin b) (hrw : E.rw = rw) (hxs : hL E xs (c.args.toList.map a.eval)) (h : builtinE T b c.argTypes xs rw ret = some q) : PureOk P E a o ret q := by
  have hr : ∀ w, (execOp a.eval o).run P w = (builtin b c.argTypes o.type (c.args.map fun | .const _ => true | _ => false) (c.args.toList.map a.eval).toArray).run P w := by
    intro w
    have : c.args.map a.eval = (c.args.toList.map a.eval).toArray := by apply Array.ext'; simp
    simp only [execOp, ho, resolve, hcal, Sem.run_bind, Sem.run_pure, Result.andThen_ok, invoke, this]
    rfl
  have one : ∀ {td : TD}, argTyV T c.argTypes = some td → ∃ t ti, c.argTypes = #[t] ∧ TFacts P t ti ∧ ti.td = td := by
    intro td h
    unfold argTyV at h
    split at h
    · rename_i t hats
      obtain ⟨ti, h1, h2⟩ := tdV_f hT h
      exact ⟨t, ti, by apply Array.ext'; simpa using hats, h1, h2⟩
    · cases h
  unfold builtinE at h
  split at h
  · split at h
    · rename_i e hat
      obtain ⟨t, ti, hat, hf, htd⟩ := one hat
      have hun := td_slice hf htd
      split at h
      · rename_i n hn
        have : ∃ aa cc, c.args.toList.map a.eval = [.slice aa n cc] := by
          unfold lenV at hn
          split at hn
          · simp only [Option.some.injEq] at hn; subst hn
            simp only [hL, DV.h] at hxs
            obtain ⟨v, _, e1, ⟨aa, cc, e2, _⟩, rfl⟩ := hxs
            simp only [List.cons.injEq, and_true] at e2; subst e2
            exact ⟨aa, cc, e1⟩
          · split at hn
            · rename_i hrj
              simp only [Option.some.injEq] at hn; subst hn
              simp only [hL, DV.h] at hxs
              obtain ⟨v, _, e1, ⟨e', t', l', hj, rfl⟩, rfl⟩ := hxs
              rw [drV_spec, ← hrw, hj] at hrj
              simp only [Option.some.injEq, DR.own.injEq] at hrj
              obtain ⟨rfl, rfl, hl⟩ := hrj
              cases hl
              exact ⟨_, _, e1⟩
            · cases hn
          · simp only [Option.some.injEq] at hn; subst hn
            simp only [hL, DV.h] at hxs
            obtain ⟨v, _, e1, rfl, rfl⟩ := hxs
            exact ⟨_, _, e1⟩
          · simp only [Option.some.injEq] at hn; subst hn
            simp only [hL, DV.h] at hxs
            obtain ⟨v, _, e1, ⟨aa, vs, cc, e2, _⟩, rfl⟩ := hxs
            subst e2
            exact ⟨_, cc, e1⟩
          · cases hn
        obtain ⟨aa, cc, e⟩ := this
        refine ⟨_, .int .i64 n, h, by simp only [DV.h], fun w => ?_⟩
        rw [hr, e]
        simp [builtin, Builtin.len_, hat, run_underlying hun, goInt, Sem.run_bind]
      · cases h
    · rename_i hat
      obtain ⟨t, ti, hat, hf, htd⟩ := one hat
      have hun := td_string hf htd
      split at h
      · simp only [hL, DV.h] at hxs
        obtain ⟨v, _, e1, rfl, rfl⟩ := hxs
        refine ⟨_, _, h, by simp only [DV.h]; rfl, fun w => ?_⟩
        rw [hr, e1]
        simp [builtin, Builtin.len_, hat, run_underlying hun, goInt, Sem.run_bind]
      · cases h
    · cases h
  · split at h
    · simp only [hL, DV.h] at hxs
      obtain ⟨v, _, e1, rfl, u, _, rfl, rfl, rfl⟩ := hxs
      refine ⟨_, _, h, by simp only [DV.h]; rfl, fun w => ?_⟩
      rw [hr, e1]
      simp only [builtin, Sem.run_bind, run_max_int2, Result.andThen_ok, Sem.run_pure]
    · cases h
  · split at h
    · simp only [hL, DV.h] at hxs
      obtain ⟨v, _, e1, rfl, u, _, rfl, rfl, rfl⟩ := hxs
      refine ⟨_, _, h, by simp only [DV.h]; rfl, fun w => ?_⟩
      rw [hr, e1]
      simp only [builtin, Sem.run_bind, run_min_int2, Result.andThen_ok, Sem.run_pure]
    · cases h
  · cases h
/-- PURE OPERATIONS -/
theorem purE_ok (hT : TableOk P T) {op : Op} (ho : o.op = op) (hts : hL E ts a.tmps.toList) (hrw : E.rw = rw) (hA : RowsA E) (h : purE stdW T op ts rw ret = some q) : PureOk P E a o ret q := by
  cases op with
  | move x =>
    obtain ⟨p, hp, h⟩ := o1_s h
    exact ⟨p, _, h, opV_h hp hts, fun w => by simp [execOp, ho]⟩
  | assign x =>
    obtain ⟨p, hp, h⟩ := o1_s h
    exact ⟨p, _, h, opV_h hp hts, fun w => by simp [execOp, ho]⟩
  | pick c x y => exact pu_pick ho hts (by rw [ho]; exact h)
  | nilCheck x => exact pu_nilCheck ho hts (by rw [ho]; exact h)
  | binOp op t x y ty =>
    simp only [purE] at h
    obtain ⟨g, hg, h⟩ := o1_s h
    obtain ⟨u, hu, h⟩ := o1_s h
    obtain ⟨r, z, h, hr, hrun⟩ := run_binE hT h (opV_h hg hts) (opV_h hu hts) x y
    refine ⟨r, z, h, hr, fun w => ?_⟩
    have := hrun w
    simp only [execOp, ho]
    rw [Sem.run_bind, this]; simp
  | unOp op t x => exact pu_unOp ho hts (by rw [ho]; exact h)
  | convert s d x => exact pu_convert hT ho hts h
  | fieldAddr s x f => exact pu_fieldAddr hT ho hts (by rw [ho]; exact h)
  | field s x f => exact pu_field hT ho hts (by rw [ho]; exact h)
  | indexAddr t x ix => exact pu_indexAddr hT ho hts hrw hA (by rw [ho]; exact h)
  | extract t i => exact pu_extract ho hts (by rw [ho]; exact h)
  | slice t x lo hi mx => exact pu_slice hT ho hts h
  | build t parts => exact pu_build hT ho hts (by rw [ho]; exact h)
  | makeFunc fn first caps => exact pu_makeFunc ho hts (by rw [ho]; exact h)
  | call c =>
    simp only [purE] at h
    split at h
    · rename_i b hb
      split at h
      · rename_i xs hxs
        exact pu_builtin hT ho hb hrw (opsV_h hxs hts) h
      · cases h
    · cases h
  | _ => cases h
end
end Go.Vc

namespace Go.Vc
open Go Go.RowKit
/-! ### Operations on memory -/
theorem wp_mono0 {P : Program} {o : Oper} {a : Act} {w : World} {N N' : Act → World → Prop} {Q : Exit → Act → World → Prop} (h : o.wp P a w N Q) (k : ∀ a w, N a w → N' a w) : o.wp P a w N' Q := Oper.wp_mono k h
theorem wp_of_value {P : Program} {o : Oper} {a : Act} {w w' : World} {v : Value} {N : Act → World → Prop} {Q : Exit → Act → World → Prop}
    (h : (execOp a.eval o).run P w = .ok (.value v) w') (hn : N (a.put o.dst v) w') : o.wp P a w N Q := by
  simp only [Oper.wp, h, Oper.upon]; exact hn
theorem wp_of_skip {P : Program} {o : Oper} {a : Act} {w w' : World} {N : Act → World → Prop} {Q : Exit → Act → World → Prop}
    (h : (execOp a.eval o).run P w = .ok .skip w') (hn : N (a.put o.dst undef) w') : o.wp P a w N Q := by
  simp only [Oper.wp, h, Oper.upon]; exact hn
section
variable {P : Program} {T : List TI} {V : World} {U0 L : Nat → Prop} {al : Nat → Bool} {B : Nat → Nat} {A : Asg} {ts : List DV} {pb : DBs} {rw : List DR} {a : Act} {w : World} {β : Type} {q : β} {o : Oper} {K : DK β} {Q : Exit → Act → World → Prop}
/-- where a step leads to -/
def Nxt (V : World) (U0 L : Nat → Prop) (al : Nat → Bool) (B : Nat → Nat) (A : Asg) (pb : DBs) (rw : List DR) (w : World) (a : Act) (K : DK β) (q : β) : Act → World → Prop := fun a' w' =>
  ∃ B' A' ts' pb' rw', Mem V U0 L B' A' pb' rw' w' ∧ hL (env U0 B' A' pb' rw' w') ts' a'.tmps.toList ∧ K ts' pb' rw' = some q ∧ a'.defers = a.defers ∧ Ext al B A pb rw w B' A' pb' rw' w'
theorem Ext.refl : Ext al B A pb rw w B A pb rw w := ⟨fun _ h => ⟨h, rfl⟩, fun _ _ _ => rfl, fun _ h => .inl h, Nat.le_refl _⟩
theorem upd_eta {α : Type} (f : Nat → α) (n : Nat) : upd f n (f n) = f := by funext i; unfold upd; split <;> simp_all
theorem retE_s {E : Env} {dst : Option Tmp} {x : DV} {v : Value} (h : retE dst x ts pb rw K = some q) (hts : hL E ts a.tmps.toList) (hx : x.h E v) : ∃ ts', K ts' pb rw = some q ∧ hL E ts' (a.put dst v).tmps.toList ∧ (a.put dst v).defers = a.defers := by
  cases dst with
  | none => exact ⟨ts, h, hts, rfl⟩
  | some d =>
    simp only [retE, setE_eq] at h
    exact ⟨_, h, by simpa [Act.put] using hL_set hts d hx, rfl⟩
theorem Nxt.ret {B' : Nat → Nat} {A' : Asg} {ts' : List DV} {pb' : DBs} {rw' : List DR} {w' : World} {x : DV} {v : Value} (h : retE o.dst x ts' pb' rw' K = some q) (m' : Mem V U0 L B' A' pb' rw' w') (hts : hL (env U0 B' A' pb' rw' w') ts' a.tmps.toList) (hx : x.h (env U0 B' A' pb' rw' w') v)
    (e : Ext al B A pb rw w B' A' pb' rw' w') : Nxt V U0 L al B A pb rw w a K q (a.put o.dst v) w' := by
  obtain ⟨ts2, h1, h2, h3⟩ := retE_s h hts hx
  exact ⟨B', A', ts2, pb', rw', m', h2, h1, h3, e⟩
theorem Nxt.more {B1 : Nat → Nat} {A1 : Asg} {pb1 : DBs} {rw1 : List DR} {w1 : World} {a1 a' : Act} {w' : World} (e : Ext al B A pb rw w B1 A1 pb1 rw1 w1) (hd : a1.defers = a.defers) (h : Nxt V U0 L al B1 A1 pb1 rw1 w1 a1 K q a' w') : Nxt V U0 L al B A pb rw w a K q a' w' :=
  let ⟨B2, A2, ts2, pb2, rw2, m2, h2, h3, h4, e2⟩ := h
  ⟨B2, A2, ts2, pb2, rw2, m2, h2, h3, h4.trans hd, e.trans e2⟩
theorem noSub {E E' : Env} (s : Sub noF E E') {ps : List DV} {vs : List Value} (h : hL E ps vs) : hL E' ps vs := by have := hL_subL s ps h; rwa [subL_no] at this
theorem noSub1 {E E' : Env} (s : Sub noF E E') {p : DV} {v : Value} (h : p.h E v) : p.h E' v := by have := DV.h_sub s p h; rwa [DV.sub_no] at this
theorem Mem.rowsA (m : Mem V U0 L B A pb rw w) : RowsA (env U0 B A pb rw w) := by
  intro j e t l hj ha
  obtain ⟨xs, h, _⟩ := m.row j e t l hj
  have ha : (A j).1 = none := ha
  rcases h.2 with ⟨_, h1⟩ | ⟨g, cap, cur, heq, _⟩
  · exact h1
  · rw [ha] at heq; simp at heq
theorem loadC_ok {E : Env} {t : TypeId} {ti : TI} (hf : TFacts P t ti) {cells : List DV} {off : Nat} {cs : List Value} {ad : Addr} {ret : DV → Option β} (h : loadC ti cells off ret = some q) (hc : hL E cells cs) (hw : ∀ j u, cs[j]? = some u → w.cell? (ad.add j) = some u) :
    ∃ r u, ret r = some q ∧ r.h E u ∧ (∀ w' : World, w'.heap[ad.block]? = w.heap[ad.block]? → (Instr.loadAt t (.pointer (some (ad.add off)))).run P w' = .ok u w') ∧ cs ≠ [] := by
  have hw' : ∀ w' : World, w'.heap[ad.block]? = w.heap[ad.block]? → ∀ j u, cs[j]? = some u → w'.cell? (ad.add j) = some u := fun w' hs j u hj => by
    rw [← hw j u hj]; exact World.cell?_of_block (by rw [add_block]; exact hs)
  unfold loadC at h
  split at h
  · rename_i n hg hsz
    split at h
    · rename_i l hl
      obtain ⟨rfl, hle⟩ := subV_spec hl
      refine ⟨_, .agg ((cs.drop off).take (n + 1)).toArray, h, by simp only [DV.h]; exact ⟨_, rfl, by simpa using hL_sub hc off (n + 1)⟩, fun w' hs => ?_, by rintro rfl; have := hL_len hc; simp at this; omega⟩
      have hlen : ((cs.drop off).take (n + 1)).length = n + 1 := by have := hL_len hc; simp; omega
      have := run_loadCells_list (P := P) w' (ad.add off) ((cs.drop off).take (n + 1)) (fun j v hv => by
        rw [Addr.add_add]
        exact hw' w' hs _ _ (drop_take_get.1 hv).2)
      rw [hlen] at this
      simp [Instr.loadAt, Instr.sureAddr, loadVar, Sem.run_bind, td_agg hf, hg, td_size hf, hsz, this]
    · cases h
  · rename_i hg
    split at h
    · rename_i x hx
      obtain ⟨v, hv1, hv2⟩ := hL_get hc _ _ (sub1_spec hx)
      refine ⟨x, v, h, hv2, fun w' hs => ?_, by rintro rfl; simp at hv1⟩
      have := hw' w' hs _ _ hv1
      simp [Instr.loadAt, Instr.sureAddr, loadVar, Sem.run_bind, td_agg hf, hg, run_load, this]
    · cases h
  · cases h
theorem owns_cells {e : TypeId} {k : Nat} {ad : Addr} {n c : Nat} {xs : List Value} (h : w.ownsRow 0 e k (.slice (some ad) n c) n xs) : ∃ g cur, ad = ⟨g, 0, none⟩ ∧ w.heap[g]? = some (.cells cur e (0, 0)) ∧ n ≤ c ∧ c ≤ maxLen ∧ cur.size = c * k ∧ cur.toList.take (n * k) = xs ∧ ∀ j u, xs[j]? = some u → w.cell? (ad.add j) = some u := by
  rcases h.2 with ⟨h1, _⟩ | ⟨g, cap, cur, heq, hb, hg, h1, h2, h3, h4⟩
  · simp at h1
  · simp only [Value.slice.injEq, Option.some.injEq] at heq
    obtain ⟨rfl, _, rfl⟩ := heq
    refine ⟨g, cur, rfl, hg, h1, h2, h3, h4, fun j u hj => ?_⟩
    rw [← h4, List.getElem?_take] at hj
    split at hj
    · rw [add_own, Nat.zero_add, cell_of_row w g j cur e (0, 0) hg]; simpa using hj
    · cases hj
/-- A LOAD: what it yields, as long as the block lies still -/
theorem loadE_ok (hT : TableOk P T) (m : Mem V U0 L B A pb rw w) {t : TypeId} {p : DV} {ret : DV → Option β} (h : loadE stdW T t p pb rw ret = some q) {v : Value} (hp : p.h (env U0 B A pb rw w) v) :
    ∃ r u ad, v = .pointer (some ad) ∧ ret r = some q ∧ r.h (env U0 B A pb rw w) u ∧ (∀ w', w'.heap[ad.block]? = w.heap[ad.block]? → (Instr.loadAt t v).run P w' = .ok u w') ∧
      ((∃ i off, p = .own i off ∧ blk B A pb rw false i ad.block) ∨ (∃ t x off, p = .el t x off ∧ ¬ Us U0 B A pb rw ad.block ∧ ad.block < w.heap.size) ∨ (∃ j i off, p = .re j i off) ∨ ∃ l k, p = .fp l k) := by
  unfold loadE at h
  split at h
  · rename_i ti hti
    have hf := tiV_f hT hti
    split at h
    · rename_i i off
      simp only [DV.h] at hp
      obtain ⟨hl, rfl⟩ := hp
      split at h
      · rename_i b hb
        rw [dbV_spec] at hb
        obtain ⟨cs, h1, h2, _⟩ := m.box i b hb
        obtain ⟨r, u, g1, g2, g3, g4⟩ := loadC_ok (P := P) (w := w) (ad := ⟨B i, 0, none⟩) hf h h2 (fun j u hj => by rw [add_own, Nat.zero_add, cell_of_block h1]; exact hj)
        rw [add_own, Nat.zero_add] at g3
        exact ⟨r, u, _, rfl, g1, g2, g3, .inl ⟨i, off, rfl, hl, rfl⟩⟩
      · cases h
    · rename_i t' x off
      simp only [DV.h] at hp
      obtain ⟨ad, us, rfl, h1, h2⟩ := hp
      have hc := t'.cells_h (E := env U0 B A pb rw w) h1 (r := []) (us' := []) (by simp [hL])
      rw [List.append_nil] at hc
      obtain ⟨r, u, g1, g2, g3, g4⟩ := loadC_ok (P := P) (w := w) (ad := ad) hf h hc (fun j u hj => by
        obtain ⟨x, hx, _, _, h3⟩ := h2 j u hj
        simp only [Option.some.injEq] at hx; subst hx
        rwa [Nat.zero_add] at h3)
      refine ⟨r, u, _, rfl, g1, g2, fun w' hs => g3 w' (by rwa [add_block] at hs), .inr (.inl ⟨t', x, off, rfl, ?_⟩)⟩
      rw [add_block]
      cases us with
      | nil => exact absurd rfl g4
      | cons u0 us => obtain ⟨x, hx, h3, h4, _⟩ := h2 0 u0 rfl; simp only [Option.some.injEq] at hx; subst hx; exact ⟨h3, h4⟩
    · rename_i l k
      simp only [DV.h] at hp
      obtain ⟨ad, us, rfl, h1, h2⟩ := hp
      obtain ⟨r, u, g1, g2, g3, g4⟩ := loadC_ok (P := P) (w := w) (ad := ad) hf h h1 (fun j u hj => by
        obtain ⟨x, hx, _, _, h3⟩ := h2 j u hj
        simp only [Option.some.injEq] at hx; subst hx
        rwa [Nat.zero_add] at h3)
      refine ⟨r, u, _, rfl, g1, g2, fun w' hs => g3 w' (by rwa [add_block] at hs), .inr (.inr (.inr ⟨l, k, rfl⟩))⟩
    · rename_i j i off
      simp only [DV.h] at hp
      obtain ⟨e, t1, l1, ad, hj, hi, ha, rfl⟩ := hp
      split at h
      · rename_i e2 t' l hrj
        rw [drV_spec] at hrj
        have hj : rw[j]? = some (.own e t1 l1) := hj
        rw [hj] at hrj; simp only [Option.some.injEq, DR.own.injEq] at hrj
        obtain ⟨rfl, rfl, hl⟩ := hrj
        cases hl
        obtain ⟨y, hy, h⟩ := nth_s h
        obtain ⟨xs, h1, h2⟩ := m.row j e t1 l1 hj
        have ha : (A j).1 = some ad := ha
        rw [ha] at h1
        obtain ⟨g, cur, rfl, _, _, _, _, _, hcell⟩ := owns_cells h1
        have hc := t1.cells_h (E := env U0 B A pb rw w) (h2.2 i y hy) (r := []) (us' := []) (by simp [hL])
        rw [List.append_nil] at hc
        obtain ⟨r, u, g1, g2, g3, g4⟩ := loadC_ok (P := P) (w := w) (ad := (⟨g, 0, none⟩ : Addr).add (i * t1.size)) hf h hc (fun k u hk => by
          rw [Addr.add_add]; exact hcell _ _ (drop_take_get.1 hk).2)
        rw [Addr.add_add] at g3
        exact ⟨r, u, _, rfl, g1, g2, fun w' hs => g3 w' (by rw [add_block] at hs ⊢; exact hs), .inr (.inr (.inl ⟨j, i, off, rfl⟩))⟩
      · cases h
    · cases h
  · cases h
theorem zero_of {t : TypeId} {ti : TI} {z : Value} {zs : List Value} (hf : TFacts P t ti) (hz : ti.zero = z :: zs) : ∃ zv, ∀ w, (zeroValue t).run P w = .ok zv w ∧ zv.cells = (z :: zs).toArray := by
  obtain ⟨i, hi, _, hzero⟩ := td_facts hf
  rw [hz] at hzero
  cases hiz : i.zero with
  | none => rw [hiz] at hzero; cases hzero
  | some zv =>
    rw [hiz] at hzero
    exact ⟨zv, fun w => ⟨run_zeroValue' hi hiz w, by apply Array.ext'; simpa using hzero.symm⟩⟩
theorem unbornV_s : ∀ {pb : DBs} {i : Nat}, unbornV pb i = true → pb[i]? = some none
  | [], i, h => by simp [unbornV] at h
  | o :: pb, 0, h => by
    simp only [unbornV] at h
    split at h
    · cases h
    · rfl
  | o :: pb, i + 1, h => by simp only [unbornV] at h; simpa using unbornV_s h
theorem newDB_ok {av : List (Nat × Nat)} {ty : TypeId} {cells : List DV} {cs : List Value} (hrun : (execOp a.eval o).run P w = .ok (.value (.pointer (some ⟨w.heap.size, 0, none⟩))) (w.alloc (.cells cs.toArray ty)))
    (h : newDB av o.dst ty cells ts pb rw K = some q) (m : Mem V U0 L B A pb rw w) (hts : hL (env U0 B A pb rw w) ts a.tmps.toList) (hc : hL (env U0 B A pb rw w) cells cs) : o.wp P a w (Nxt V U0 L al B A pb rw w a K q) Q := by
  unfold newDB at h
  have key : ∀ (i : Nat) (pb' : DBs) (d : Tmp), pb'[i]? = some (some ⟨ty, cells, true⟩) → (∀ j, j ≠ i → pb'[j]? = pb[j]?) → ¬ live pb i → o.dst = some d → retE (some d) (.own i 0) ts pb' rw K = some q → o.wp P a w (Nxt V U0 L al B A pb rw w a K q) Q := by
    intro i pb' d h1 h2 h3 hd h4
    obtain ⟨m', s, e⟩ := m.newBox (al := al) h1 h2 h3 hc
    refine wp_of_value hrun (Nxt.ret (by rw [hd]; exact h4) m' (noSub s hts) ?_ e)
    simp only [DV.h]
    exact ⟨⟨_, h1⟩, by show _ = Value.pointer (some ⟨upd B i w.heap.size i, 0, none⟩); rw [upd_same]⟩
  split at h
  · cases h
  · rename_i d hd
    split at h
    · rename_i i hi
      split at h
      · rename_i hu
        have hu := unbornV_s hu
        rw [setE_eq] at h
        have hlt := (List.getElem?_eq_some_iff.1 hu).1
        exact key i _ d (by rw [List.getElem?_set, if_pos rfl, if_pos hlt]) (fun j hj => by rw [List.getElem?_set, if_neg (Ne.symm hj)]) (by rintro ⟨b, hb⟩; rw [hu] at hb; cases hb) hd h
      · cases h
    · rw [pushE_eq] at h
      rw [litE_eq] at h
      exact key pb.length _ d (by simp) (fun j hj => by
        rcases Nat.lt_or_ge j pb.length with h' | h'
        · rw [List.getElem?_append_left h']
        · rw [List.getElem?_eq_none (by simp; omega), List.getElem?_eq_none h']) (by rintro ⟨b, hb⟩; rw [List.getElem?_eq_none (Nat.le_refl _)] at hb; cases hb) hd h
theorem op_box {t : TypeId} {x : Operand} {C : ESs} {av : List (Nat × Nat)} (ho : o.op = .box t x) (h : evOp stdW T C al av o ts pb rw K = some q) (m : Mem V U0 L B A pb rw w) (hts : hL (env U0 B A pb rw w) ts a.tmps.toList) : o.wp P a w (Nxt V U0 L al B A pb rw w a K q) Q := by
  simp only [evOp, ho] at h
  split at h
  · rename_i p hp
    split at h
    · rename_i cs hcs
      have hc := cellsV_h hcs (opV_h hp hts)
      refine newDB_ok ?_ h m hts hc
      have : (a.eval x).cells = ((a.eval x).cells.toList).toArray := by simp
      simp only [execOp, ho, Sem.run_bind, Instr.box, newVar, newRow, run_newObj, Sem.run_pure, Result.andThen_ok]
      rfl
    · cases h
  · cases h
theorem op_load {t : TypeId} {x : Operand} {C : ESs} {av : List (Nat × Nat)} (hT : TableOk P T) (ho : o.op = .load t x) (h : evOp stdW T C al av o ts pb rw K = some q) (m : Mem V U0 L B A pb rw w) (hts : hL (env U0 B A pb rw w) ts a.tmps.toList) : o.wp P a w (Nxt V U0 L al B A pb rw w a K q) Q := by
  simp only [evOp, ho] at h
  split at h
  · rename_i p hp
    obtain ⟨r, u, ad, hv, h1, h2, h3, _⟩ := loadE_ok hT m h (opV_h hp hts)
    exact wp_of_value (by rw [load_run ho, h3 w rfl]; rfl) (Nxt.ret h1 m hts h2 Ext.refl)
  · cases h
theorem frzE_s : ∀ (js : List Nat) {ts : List DV} {pb : DBs} {rw : List DR} {ps : List DV} {K : List DV → DBs → List DR → List DV → Option β} {vs us : List Value}, frzE js ts pb rw ps K = some q → Mem V U0 L B A pb rw w → hL (env U0 B A pb rw w) ts vs → hL (env U0 B A pb rw w) ps us →
    ∃ ts' pb' rw' ps', K ts' pb' rw' ps' = some q ∧ Mem V U0 L B A pb' rw' w ∧ hL (env U0 B A pb' rw' w) ts' vs ∧ hL (env U0 B A pb' rw' w) ps' us ∧ Ext al B A pb rw w B A pb' rw' w ∧ pb'.length = pb.length
  | [], ts, pb, rw, ps, K, vs, us, h, m, hts, hps => ⟨ts, pb, rw, ps, h, m, hts, hps, Ext.refl, rfl⟩
  | j :: js, ts, pb, rw, ps, K, vs, us, h, m, hts, hps => by
    simp only [frzE] at h
    split at h
    · rename_i e t l hj
      rw [drV_spec] at hj
      simp only [subLE_eq, subBE_eq, setE_eq] at h
      obtain ⟨m', s, e1⟩ := m.freeze (al := al) hj
      obtain ⟨ts', pb', rw', ps', h1, m2, h2, h3, e2, h4⟩ := frzE_s js h m' (hL_subL s _ hts) (hL_subL s _ hps)
      exact ⟨ts', pb', rw', ps', h1, m2, h2, h3, e1.trans e2, by rw [h4, subB'_len]⟩
    · rename_i ks hj
      rw [drV_spec] at hj
      simp only [subLE_eq, subBE_eq, setE_eq] at h
      obtain ⟨m', s, e1⟩ := m.freezeSet (al := al) hj
      obtain ⟨ts', pb', rw', ps', h1, m2, h2, h3, e2, h4⟩ := frzE_s js h m' (hL_subL s _ hts) (hL_subL s _ hps)
      exact ⟨ts', pb', rw', ps', h1, m2, h2, h3, e1.trans e2, by rw [h4, subB'_len]⟩
    · exact frzE_s js h m hts hps
/-- a store into a box -/
theorem store_cells {b off : Nat} {xs cs : List Value} {ty : TypeId} (hb : w.heap[b]? = some (.cells xs.toArray ty (0, 0))) (hone : ∀ v ∈ cs, oneC v = true) (hle : off + cs.length ≤ xs.length) :
    (storeCells ⟨b, off, none⟩ cs 0).run P w = .ok () (setCells w ⟨b, off, none⟩ 0 cs) ∧ (setCells w ⟨b, off, none⟩ 0 cs).heap[b]? = some (.cells (wr xs off cs).toArray ty (0, 0)) := by
  refine ⟨run_storeCells (P := P) ⟨b, off, none⟩ cs 0 w hone (fun j hj => ?_), by have := setCells_eq b off cs 0 w _ hb; rwa [Nat.add_zero] at this⟩
  rw [Nat.zero_add, add_own, cell_of_block hb, frozen_of_block hb]
  have : off + j < xs.length := by omega
  simp [this]
theorem store_ok {t : TypeId} {x y : Operand} {ti : TI} (hf : TFacts P t ti) (ho : o.op = .store t x y) {b off : Nat} {xs cs : List Value} {ty : TypeId} (hx : a.eval x = .pointer (some ⟨b, off, none⟩)) (hy : (a.eval y).cells.toList = cs) (hs : cs.length = ti.size)
    (hb : w.heap[b]? = some (.cells xs.toArray ty (0, 0))) (hone : ∀ v ∈ cs, oneC v = true) (hle : off + cs.length ≤ xs.length) : (execOp a.eval o).run P w = .ok .skip (setCells w ⟨b, off, none⟩ 0 cs) := by
  have hr := store_run (P := P) (w := w) (a := a) ho
  rw [hx] at hr
  have hsz : (a.eval y).cells.size = ti.size := by rw [← Array.length_toList, hy, hs]
  rw [hr]
  simp only [Instr.storeAt, Instr.sureAddr, storeVar, Sem.run_bind, Sem.run_pure, Result.andThen_ok, td_size hf, hsz, ne_eq, not_true_eq_false, if_false, hy, (store_cells (P := P) hb hone hle).1]
theorem setCells_frame (b off : Nat) (cs : List Value) : (setCells w ⟨b, off, none⟩ 0 cs).os = w.os ∧ (setCells w ⟨b, off, none⟩ 0 cs).tape = w.tape ∧ (setCells w ⟨b, off, none⟩ 0 cs).output = w.output ∧ w.heap.size ≤ (setCells w ⟨b, off, none⟩ 0 cs).heap.size := by
  have := setCells_rest ⟨b, off, none⟩ cs 0 w
  exact ⟨this.1, this.2.1, this.2.2.1, Nat.le_of_eq this.2.2.2.1.symm⟩
theorem List.take_one_drop_eq_of_lt_length' {α : Type} {l : List α} {i : Nat} {x : α} (h : l[i]? = some x) : (l.drop i).take 1 = [x] := by
  obtain ⟨h1, h2⟩ := List.getElem?_eq_some_iff.1 h
  rw [List.drop_eq_getElem_cons h1, h2]; rfl
theorem intsD_s {E : Env} {k : IntKind} : ∀ {ds : List DV} {l : List Int} {vs : List Value}, intsD k ds = some l → hL E ds vs → vs = l.map (Value.int k)
  | [], l, vs, h, hv => by
    simp only [intsD, Option.some.injEq] at h; subst h
    simp only [hL] at hv; subst hv; rfl
  | d :: ds, l, vs, h, hv => by
    unfold intsD at h
    split at h
    · rename_i k' n
      split at h
      · rename_i l' hk hl
        simp only [Option.some.injEq] at h; subst h
        simp only [hL, DV.h] at hv
        obtain ⟨v, vs', rfl, rfl, hv⟩ := hv
        rw [intsD_s hl hv, eqk_eq hk]; rfl
      · cases h
    · cases h
theorem hs_ints {U : Nat → Prop} {w : World} {k : IntKind} {l : List Int} : (DT.int k).hs U w l (l.map (Value.int k)) := by
  refine ⟨by simp [DT.size], fun i x hx => ?_⟩
  have hx : l[i]? = some x := hx
  have : (List.map (Value.int k) l)[i]? = some (Value.int k x) := by rw [List.getElem?_map, hx]; rfl
  show _ = [Value.int k x]
  simp only [DT.size, Nat.mul_one]
  rw [List.take_one_drop_eq_of_lt_length' this]
theorem op_store {t : TypeId} {x y : Operand} {C : ESs} {av : List (Nat × Nat)} (hT : TableOk P T) (ho : o.op = .store t x y) (h : evOp stdW T C al av o ts pb rw K = some q) (m : Mem V U0 L B A pb rw w) (hts : hL (env U0 B A pb rw w) ts a.tmps.toList) : o.wp P a w (Nxt V U0 L al B A pb rw w a K q) Q := by
  simp only [evOp, ho] at h
  split at h
  · rename_i p v ti hp hv hti
    have hf := tiV_f hT hti
    split at h
    · rename_i cs hcs
      have hc := cellsV_h hcs (opV_h hv hts)
      have hpp := opV_h hp hts
      generalize hcv : (a.eval y).cells.toList = cv at hc
      split at h
      · rename_i i off hlen hone
        have hlen := Nat.eq_of_beq_eq_true hlen
        split at h
        · rename_i b hal hb
          rw [dbV_spec] at hb
          split at h
          · rename_i l hsub
            have hle := (subV_spec hsub).2
            rw [wrE_eq, setE_eq] at h
            simp only [DV.h] at hpp
            obtain ⟨_, hpp⟩ := hpp
            obtain ⟨xs, h1, h2, _⟩ := m.box i b hb
            have hxl := hL_len h2
            have hcl := hL_len hc
            have hle' : off + cv.length ≤ xs.length := by omega
            have hone := oneDL_h hone hc
            obtain ⟨m', s, e⟩ := m.setBox (al := al) hal hb (hL_wr off h2 hc) (setCells_frame (w := w) (B i) off _) (fun b' _ hne => setCells_ne _ _ hne _ _ _) (store_cells (P := P) h1 hone hle').2
            exact wp_of_skip (store_ok hf ho hpp hcv (by omega) h1 hone hle') (Nxt.ret h m' (noSub s hts) (by simp only [DV.h]) e)
          · cases h
        · cases h
      · rename_i j0 i0 off0 hlen hone
        have hlen := Nat.eq_of_beq_eq_true hlen
        obtain ⟨ts1, pb1, rw1, ps, h, m1, hts1, hps, e1, _⟩ := frzE_s (al := al) _ h m hts (ps := .re j0 i0 off0 :: cs) (us := a.eval x :: cv) (by simp only [hL]; exact ⟨_, _, rfl, hpp, hc⟩)
        split at h
        · rename_i j i off cs'
          simp only [hL] at hps
          obtain ⟨v1, vs1, e2, hp1, hc1⟩ := hps
          simp only [List.cons.injEq] at e2
          obtain ⟨rfl, rfl⟩ := e2
          split at h
          · rename_i e t' l hrj
            rw [drV_spec] at hrj
            split at h
            · rename_i hle
              have hle := Nat.le_of_ble_eq_true hle
              obtain ⟨z, hz, h⟩ := nth_s h
              rw [wrE_eq] at h
              split at h
              · rename_i y' hy'
                rw [setE_eq] at h
                simp only [DV.h] at hp1
                obtain ⟨e3, t3, l3, ad, hj3, hi3, ha, hpv⟩ := hp1
                have hj3 : rw1[j]? = some (.own e3 t3 l3) := hj3
                rw [hrj] at hj3; simp only [Option.some.injEq, DR.own.injEq] at hj3
                obtain ⟨rfl, rfl, hl3⟩ := hj3
                cases hl3
                have ha : (A j).1 = some ad := ha
                obtain ⟨xs, h1, h2⟩ := m1.row j e t' l hrj
                rw [ha] at h1
                obtain ⟨g, cur, rfl, hg, hn, hcm, hcs', htk, hcell⟩ := owns_cells h1
                rw [add_own, Nat.zero_add] at hpv
                have hcl := hL_len hc1
                have hil := mul_lt_of (k := t'.size) hi3
                have hxl := h2.1
                have hcur : xs.length ≤ cur.size := by rw [← htk, List.length_take]; simp only [Array.length_toList]; omega
                have hone' : ∀ u ∈ cv, oneC u = true := oneDL_h hone hc
                have hle' : (i * t'.size + off) + cv.length ≤ cur.toList.length := by have h0 : cur.toList.length = cur.size := Array.length_toList; omega
                have hg' : w.heap[g]? = some (.cells cur.toList.toArray e (0, 0)) := by simpa using hg
                have hst := store_cells (P := P) hg' hone' hle'
                -- the element that is written
                have hyh : ∃ us, t'.h (Us U0 B A pb1 rw1) w y' us ∧ us = wr ((xs.drop (i * t'.size)).take t'.size) off cv := by
                  have hz' := t'.cells_h (E := env U0 B A pb1 rw1 w) (h2.2 i z hz) (r := []) (us' := []) (by simp [hL])
                  rw [List.append_nil] at hz'
                  obtain ⟨us, us', e4, h3, h4⟩ := t'.of_h hy' (hL_wr off hz' hc1)
                  simp only [hL] at h4; subst h4
                  rw [List.append_nil] at e4
                  exact ⟨us, h3, e4.symm⟩
                obtain ⟨us, hus, huse⟩ := hyh
                have hxs' : (wr cur.toList (i * t'.size + off) cv).take (l.length * t'.size) = wr xs (i * t'.size) us := by
                  have hul := t'.h_len hus
                  apply List.ext_getElem?; intro k
                  rw [wr_get _ _ _ _ (by omega), List.getElem?_take]
                  by_cases hk : k < l.length * t'.size
                  · rw [if_pos hk, wr_get _ _ _ _ hle']
                    by_cases hk1 : i * t'.size ≤ k ∧ k < i * t'.size + us.length
                    · rw [if_pos hk1, huse, wr_get _ _ _ _ (by rw [List.length_take, List.length_drop]; omega)]
                      by_cases hk2 : off ≤ k - i * t'.size ∧ k - i * t'.size < off + cv.length
                      · rw [if_pos (by omega), if_pos hk2]; congr 1; omega
                      · rw [if_neg (by omega), if_neg hk2, List.getElem?_take, if_pos (by omega), List.getElem?_drop, ← htk, List.getElem?_take, if_pos (by omega)]
                        congr 1; omega
                    · rw [if_neg hk1, if_neg (by omega), ← htk, List.getElem?_take, if_pos hk]
                  · rw [if_neg hk, if_neg (by omega), List.getElem?_eq_none (by omega)]
                have hlt : j < rw1.length := (List.getElem?_eq_some_iff.1 hrj).1
                obtain ⟨m2, s2, e2⟩ := m1.putRow (al := al) (j := j) (f := noF) (rw' := rw1.set j (.own e t' (l.set i y'))) (e := e) (t := t') (l := l.set i y') (a := (A j).1) (c := (A j).2) (w' := setCells w ⟨g, i * t'.size + off, none⟩ 0 cv)
                  (by rw [List.getElem?_set, if_pos rfl, if_pos hlt]) (fun k hk => by rw [List.getElem?_set, if_neg (Ne.symm hk)]) (fun _ _ h => by cases h)
                  (fun _ e4 t4 l4 h4 => by
                    rw [hrj] at h4; simp only [Option.some.injEq, DR.own.injEq] at h4
                    obtain ⟨rfl, rfl, h4⟩ := h4
                    cases h4
                    exact ⟨_, by rw [List.getElem?_set, if_pos rfl, if_pos hlt], by simp, rfl⟩)
                  (fun _ d h4 => by rw [hrj] at h4; cases h4) (setCells_frame _ _ _)
                  (fun b hb hnb => setCells_ne ⟨g, i * t'.size + off, none⟩ b (fun he => hnb ⟨_, ⟨g, 0, none⟩, hrj, by simp, ha, he.symm⟩) _ _ _)
                  (fun x hx => .inl ⟨_, x, hrj, by simp, hx, rfl⟩)
                  (fun U' lt => by
                    refine ⟨wr xs (i * t'.size) us, ⟨?_, ?_⟩, ?_⟩
                    · rw [wr_length, hxl]; simp
                    · refine .inr ⟨g, (A j).2, (wr cur.toList (i * t'.size + off) cv).toArray, by rw [ha], Nat.zero_le _, hst.2, by simpa using hn, hcm, by rw [List.size_toArray, wr_length, Array.length_toList, hcs'], by simpa using hxs'⟩
                    · exact DT.hs_set (DT.hs_mono lt h2) hi3 (t'.mono lt hus))
                rw [show upd A j ((A j).1, (A j).2) = A from upd_eta A j] at m2 s2 e2
                rw [subB'_no] at m2 s2 e2
                exact wp_of_skip (store_ok hf ho hpv hcv (by have := hL_len hc; omega) hg' hone' hle') (Nxt.more e1 rfl (Nxt.ret h m2 (noSub s2 hts1) (by simp only [DV.h]) e2))
              · cases h
            · cases h
          · cases h
        · cases h
      · rename_i j hlen hone
        have hlen := Nat.eq_of_beq_eq_true hlen
        split at h
        · rename_i e t' l hrj
          rw [drV_spec] at hrj
          split at h
          · rename_i k n e2 l htd
            split at h
            · rename_i l' hl'
              split at h
              · rename_i hb
                simp only [Bool.and_eq_true] at hb
                have hb1 := Nat.eq_of_beq_eq_true hb.1
                have hb2 := Nat.eq_of_beq_eq_true hb.2
                have hcl := hL_len hc
                have hcv2 := intsD_s hl' hc
                have hll : l'.length = l.length := by rw [hb1, ← hb2, ← hcl, hcv2]; simp
                rw [setE_eq] at h
                simp only [DV.h] at hpp
                obtain ⟨e3, t3, l3, ad, hj3, _, ha, hpv⟩ := hpp
                have hj3 : rw[j]? = some (.own e3 t3 l3) := hj3
                rw [hrj] at hj3; simp only [Option.some.injEq, DR.own.injEq] at hj3
                obtain ⟨rfl, rfl, hl3⟩ := hj3
                cases hl3
                have ha : A j = (some ad, l.length) := ha
                obtain ⟨xs, h1, h2⟩ := m.row j e (.int k) l hrj
                rw [ha] at h1
                obtain ⟨g, cur, rfl, hg, hn, hcm, hcs', htk, hcell⟩ := owns_cells h1
                have hcs1 : cur.size = l.length := by rw [hcs']; simp [DT.size]
                have hcul : cur.toList.length = l.length := by rw [Array.length_toList]; exact hcs1
                have hone' : ∀ u ∈ cv, oneC u = true := oneDL_h hone hc
                have hcvl : cv.length = l.length := by omega
                have hg' : w.heap[g]? = some (.cells cur.toList.toArray e (0, 0)) := by simpa using hg
                have hle' : 0 + cv.length ≤ cur.toList.length := by omega
                have hst := store_cells (P := P) hg' hone' hle'
                have hwr : wr cur.toList 0 cv = cv := by
                  apply List.ext_getElem?; intro k
                  rw [wr_get _ _ _ _ (by omega)]
                  by_cases hk : k < cv.length
                  · rw [if_pos (by omega)]; simp
                  · rw [if_neg (by omega), List.getElem?_eq_none (by omega), List.getElem?_eq_none (by omega)]
                have hlt : j < rw.length := (List.getElem?_eq_some_iff.1 hrj).1
                obtain ⟨m2, s2, e2⟩ := m.putRow (al := al) (j := j) (f := noF) (rw' := rw.set j (.own e (.int k) l')) (e := e) (t := .int k) (l := l') (a := (A j).1) (c := (A j).2) (w' := setCells w ⟨g, 0, none⟩ 0 cv)
                  (by rw [List.getElem?_set, if_pos rfl, if_pos hlt]) (fun k hk => by rw [List.getElem?_set, if_neg (Ne.symm hk)]) (fun _ _ h => by cases h)
                  (fun _ e4 t4 l4 h4 => by
                    rw [hrj] at h4; simp only [Option.some.injEq, DR.own.injEq] at h4
                    obtain ⟨rfl, rfl, h4⟩ := h4
                    cases h4
                    exact ⟨_, by rw [List.getElem?_set, if_pos rfl, if_pos hlt], hll, rfl⟩)
                  (fun _ d h4 => by rw [hrj] at h4; cases h4) (setCells_frame _ _ _)
                  (fun b hb hnb => setCells_ne ⟨g, 0, none⟩ b (fun he => hnb ⟨_, ⟨g, 0, none⟩, hrj, by simp, by rw [ha], he.symm⟩) _ _ _)
                  (fun x hx => .inl ⟨_, x, hrj, by simp, hx, rfl⟩)
                  (fun U' lt => by
                    have h11 : (DT.int k).size = 1 := rfl
                    refine ⟨cv, ⟨by rw [h11]; omega, ?_⟩, by rw [hcv2]; exact hs_ints⟩
                    refine .inr ⟨g, (A j).2, (wr cur.toList 0 cv).toArray, by rw [ha], Nat.zero_le _, hst.2, by rw [ha]; simp only; omega, by rw [ha]; exact hcm, by rw [List.size_toArray, wr_length, hcul, ha, h11]; simp, ?_⟩
                    rw [List.toList_toArray, hwr, h11, List.take_of_length_le (by omega)])
                rw [show upd A j ((A j).1, (A j).2) = A from upd_eta A j] at m2 s2 e2
                rw [subB'_no] at m2 s2 e2
                exact wp_of_skip (store_ok hf ho hpv hcv (by omega) hg' hone' hle') (Nxt.ret h m2 (noSub s2 hts) (by simp only [DV.h]) e2)
              · cases h
            · cases h
          · cases h
        · cases h
      · cases h
    · cases h
  · cases h
end
end Go.Vc

namespace Go.Vc
open Go Go.RowKit
/-- what the program says of a slice type's elements -/
structure ElemOk (P : Program) (t e : TypeId) (size bytes : Nat) : Prop where
  under : P.underlying t = some (.slice e)
  info : ∃ i z, P.info? e = some i ∧ i.zero = some z ∧ i.size = size ∧ i.bytes = bytes ∧ z.cells.size = size
  pos : 0 < size
theorem elemOk_T {P : Program} {t e : TypeId} {ti te : TI} (hf : TFacts P t ti) (htd : ti.td = .slice e) (he : TFacts P e te) (hz : Nat.beq te.zero.length te.size = true) (hp : 0 < te.size) : ElemOk P t e te.size te.bytes := by
  obtain ⟨d, i, h1, h2, h3, h4, h5, h6, h7, h8⟩ := he.ex
  have hz := Nat.eq_of_beq_eq_true hz
  rw [h7] at hz
  cases hzz : i.zero with
  | none => rw [hzz] at hz; simp at hz; omega
  | some z => exact ⟨td_slice hf htd, ⟨i, z, h2, hzz, h4.symm, h5.symm, by rw [hzz] at hz; simpa using hz⟩, hp⟩
theorem foldl_set : ∀ (cs : List Value) (off s : Nat) (pre old post : List Value), pre.length = off + s → old.length = cs.length →
    (cs.zipIdx s).foldl (fun (a : Array Value) (p : Value × Nat) => a.setIfInBounds (off + p.2) p.1) (pre ++ old ++ post).toArray = (pre ++ cs ++ post).toArray
  | [], _, _, pre, old, post, _, ho => by
    cases old with
    | nil => rfl
    | cons _ _ => simp at ho
  | c :: cs, off, s, pre, old, post, hp, ho => by
    cases old with
    | nil => simp at ho
    | cons o old =>
      simp only [List.zipIdx_cons, List.foldl_cons]
      have e : ((pre ++ o :: old ++ post).toArray.setIfInBounds (off + s) c) = (pre ++ [c] ++ old ++ post).toArray := by
        rw [List.setIfInBounds_toArray]
        congr 1
        rw [← hp]
        simp
      rw [e, foldl_set cs off (s + 1) (pre ++ [c]) old post (by simp; omega) (by simpa using ho)]
      simp
def enumP : Nat → List Value → List (Nat × Value)
  | _, [] => []
  | i, v :: vs => (i, v) :: enumP (i + 1) vs
theorem fill_seq (k : Nat) : ∀ (vs : List Value) (i : Nat) (pre rest : List Value), pre.length = i * k → rest.length = vs.length * k → (∀ v ∈ vs, v.cells.size = k) →
    Instr.fill (fun i => some (i * k, k)) (pre ++ rest).toArray (enumP i vs) = some (pre ++ vs.flatMap (·.cells.toList)).toArray
  | [], _, pre, rest, _, hr, _ => by
    have : rest = [] := by cases rest <;> simp_all
    subst this
    simp [enumP, Instr.fill]
  | v :: vs, i, pre, rest, hp, hr, hk => by
    have hv := hk v (by simp)
    have hr' : rest.length = k + vs.length * k := by rw [hr, List.length_cons, Nat.succ_mul]; omega
    simp only [enumP, Instr.fill]
    rw [if_neg (by simp [hv, hp]; omega)]
    have hs : pre ++ rest = pre ++ rest.take k ++ rest.drop k := by simp
    have hz : v.cells.zipIdx.foldl (fun (cs : Array Value) (p : Value × Nat) => cs.setIfInBounds (i * k + p.2) p.1) (pre ++ rest).toArray = (pre ++ v.cells.toList ++ rest.drop k).toArray := by
      rw [← Array.foldl_toList, Array.toList_zipIdx, hs]
      exact foldl_set v.cells.toList (i * k) 0 pre (rest.take k) (rest.drop k) (by simpa using hp) (by simp [hv]; omega)
    rw [hz, fill_seq k vs (i + 1) (pre ++ v.cells.toList) (rest.drop k) (by simp [hp, hv, Nat.succ_mul]) (by simp; omega) (fun u hu => hk u (by simp [hu]))]
    simp
theorem flatten_get {α : Type} {k : Nat} : ∀ {els : List (List α)} {i : Nat} {cs : List α}, (∀ l ∈ els, l.length = k) → els[i]? = some cs → ∀ j r, cs[j]? = some r → els.flatten[i * k + j]? = some r
  | [], i, cs, _, h, _, _, _ => by simp at h
  | l :: els, i, cs, hk, h, j, r, hj => by
    have hl := hk l (by simp)
    have hj' := (List.getElem?_eq_some_iff.1 hj).1
    cases i with
    | zero =>
      simp at h; subst h
      simp only [List.flatten_cons, Nat.zero_mul, Nat.zero_add]
      rw [List.getElem?_append_left hj']; exact hj
    | succ i =>
      simp only [List.flatten_cons]
      rw [List.getElem?_append_right (by rw [hl, Nat.succ_mul]; omega), show (i + 1) * k + j - l.length = i * k + j by rw [hl, Nat.succ_mul]; omega]
      exact flatten_get (fun l hl => hk l (by simp [hl])) (by simpa using h) j r hj
theorem rep_flat {α : Type} (zs : List α) : ∀ n, (List.replicate n zs).flatten.length = n * zs.length
  | 0 => by simp
  | n + 1 => by rw [List.replicate_succ, List.flatten_cons, List.length_append, rep_flat zs n, Nat.succ_mul]; omega
theorem made_take {z : Array Value} {n c k : Nat} (hk : z.size = k) (hn : n ≤ c) : (madeCells z (c * k)).toList.take (n * k) = (List.replicate n z.toList).flatten := by
  have hnc : n * k ≤ c * k := Nat.mul_le_mul_right k hn
  apply List.ext_getElem?
  intro t
  by_cases ht : t < n * k
  · have hk0 : 0 < k := by rcases Nat.eq_zero_or_pos k with h | h; · subst h; simp at ht
                           · exact h
    have hfk : ∀ l ∈ List.replicate n z.toList, l.length = k := fun l hl => by rw [(List.mem_replicate.1 hl).2]; simpa using hk
    have hdiv : t / k < n := (Nat.div_lt_iff_lt_mul hk0).2 ht
    have hmod : t % k < k := Nat.mod_lt _ hk0
    have hfl := flatten_get (k := k) (els := List.replicate n z.toList) (i := t / k) (cs := z.toList) hfk (by rw [List.getElem?_replicate, if_pos hdiv]) (t % k) (z.toList[t % k]'(by simpa [hk] using hmod)) (List.getElem?_eq_getElem _)
    rw [Nat.div_add_mod' t k] at hfl
    rw [List.getElem?_take_of_lt ht, hfl, Array.getElem?_toList, madeCells, Array.getElem?_map, Array.getElem?_range, if_pos (by omega)]
    simp only [Option.map_some, hk]
    rw [getElem!_pos z (t % k) (by omega)]; rfl
  · rw [List.getElem?_take_eq_none (by omega), List.getElem?_eq_none (by rw [rep_flat, Array.length_toList, hk]; omega)]
theorem zero_flat {z : Array Value} {n k : Nat} (hk : z.size = k) : (Builtin.zeroCells z n).toList = (List.replicate n z.toList).flatten := by
  have h := made_take (z := z) (n := n) (c := n) hk (Nat.le_refl _)
  have e : Builtin.zeroCells z n = madeCells z (n * k) := by rw [← hk]; rfl
  rw [e, ← h, List.take_of_length_le]
  simp [madeCells]
theorem run_clear_row {P : Program} (w : World) (t e ty : TypeId) (z : Value) (ht : P.underlying t = some (.slice e)) (hv : ∀ w, (zeroValue e).run P w = .ok z w) (b o n c : Nat) (hn : 0 < n)
    (hc : ∀ j, j < (Builtin.zeroCells z.cells n).toList.length → (w.cell? ⟨b, o + j, none⟩).isSome = true) (hf : ∀ j, j < (Builtin.zeroCells z.cells n).toList.length → w.frozen? ⟨b, o + j, none⟩ = false) (h1 : ∀ v ∈ (Builtin.zeroCells z.cells n).toList, v.oneCell' = true) :
    (Builtin.clear_ #[t] ty #[.slice (some ⟨b, o, none⟩) n c]).run P w = .ok (.tuple #[]) (w.setCells b o (Builtin.zeroCells z.cells n).toList) := by
  have hst := run_storeCells_cells (P := P) b o (Builtin.zeroCells z.cells n).toList 0 w (by simpa using hc) (by simpa using hf) h1
  simp only [Nat.add_zero] at hst
  obtain ⟨m, rfl⟩ : ∃ m, n = m + 1 := ⟨n - 1, by omega⟩
  simp [Builtin.clear_, run_underlying ht, hv, hst]
theorem run_clear_none {P : Program} (w : World) (t e ty : TypeId) (ht : P.underlying t = some (.slice e)) (a : Option Addr) (c : Nat) :
    (Builtin.clear_ #[t] ty #[.slice a 0 c]).run P w = .ok (.tuple #[]) w := by
  cases a <;> simp [Builtin.clear_, run_underlying ht]
theorem run_append_empty {P : Program} {t ty e : TypeId} {size bytes n c c2 : Nat} {a a2 : Option Addr} (he : ElemOk P t e size bytes) (hn : n ≤ c) (w : World) :
    (Builtin.append_ #[t, t] ty #[.slice a n c, .slice a2 0 c2]).run P w = .ok (.slice a n c) w := by
  obtain ⟨i, z, hi, hz, hs, hb, hzs⟩ := he.info
  have hf : (Builtin.firstCells i.size 0 (.slice a2 0 c2)).run P w = .ok #[] w := by
    cases a2 <;> simp [Builtin.firstCells, loadCells, loadCellsFrom]
  cases a <;> simp [Builtin.append_, run_underlying he.under, sizeOf, typeInfo, hi, Builtin.lenOf, hn, hf, storeCells]
theorem maxLen_eq : maxLen = 9223372036854775807 := by simp [maxLen]
theorem DT.hv_cells {U : Nat → Prop} {w : World} {t : DT} {x : t.den} {v : Value} (h : t.hv U w x v) (_ : 0 < t.size) : t.h U w x v.cells.toList := by
  obtain ⟨us, h1, rfl⟩ := h
  cases ha : t.agg with
  | true => simpa [Value.cells] using h1
  | false =>
    have hl := t.h_len h1
    rw [DT.size1 t ha] at hl
    obtain ⟨u, rfl⟩ := List.length_eq_one_iff.1 hl
    have hp := t.h_one h1 u (by simp)
    have : u.cells = #[u] := by cases u <;> simp_all [plainC, Value.cells]
    simpa [this] using h1
section
variable {P : Program} {T : List TI} {V : World} {U0 L : Nat → Prop} {al : Nat → Bool} {B : Nat → Nat} {A : Asg} {ts : List DV} {pb : DBs} {rw : List DR} {a : Act} {w w' : World} {β : Type} {q : β} {o : Oper} {K : DK β} {Q : Exit → Act → World → Prop} {C : ESs} {av : List (Nat × Nat)}
/-- a new row -/
theorem Mem.pushRow (m : Mem V U0 L B A pb rw w) {e : TypeId} {t : DT} {l : List t.den} {a : Option Addr} {c : Nat} {xs : List Value} (hr : w'.os = w.os ∧ w'.tape = w.tape ∧ w'.output = w.output ∧ w.heap.size ≤ w'.heap.size) (hk : ∀ b, b < w.heap.size → w'.heap[b]? = w.heap[b]?)
    (ha : ∀ x, a = some x → w.heap.size ≤ x.block ∧ x.block < w'.heap.size) (ho : w'.ownsRow 0 e t.size (.slice a l.length c) l.length xs) (hs : t.hs (Us U0 B A pb rw) w l xs) :
    Mem V U0 L B (upd A rw.length (a, c)) pb (rw ++ [.own e t l]) w' ∧ Sub noF (env U0 B A pb rw w) (env U0 B (upd A rw.length (a, c)) pb (rw ++ [.own e t l]) w') ∧ Ext al B A pb rw w B (upd A rw.length (a, c)) pb (rw ++ [.own e t l]) w' ∧
      (DV.row rw.length).h (env U0 B (upd A rw.length (a, c)) pb (rw ++ [.own e t l]) w') (.slice a l.length c) := by
  have hn : rw[rw.length]? = none := List.getElem?_eq_none (Nat.le_refl _)
  have hj : (rw ++ [DR.own e t l])[rw.length]? = some (.own e t l) := by simp
  have := m.putRow (al := al) (j := rw.length) (f := noF) (rw' := rw ++ [.own e t l]) (e := e) (t := t) (l := l) (a := a) (c := c) (w' := w') hj (fun i hi => by
      rcases Nat.lt_or_ge i rw.length with h | h
      · rw [List.getElem?_append_left h]
      · rw [List.getElem?_eq_none (by simp; omega), List.getElem?_eq_none h])
    (fun _ _ h => by cases h) (fun _ e t l h => by rw [hn] at h; cases h) (fun _ d h => by rw [hn] at h; cases h) hr (fun b hb _ => hk b hb) (fun x hx => .inr (ha x hx)) (fun U' lt => ⟨xs, ho, DT.hs_mono lt hs⟩)
  rw [subB'_no] at this
  refine ⟨this.1, this.2.1, this.2.2, ?_⟩
  simp only [DV.h]
  exact ⟨e, t, l, hj, by show _ = Value.slice (upd A rw.length (a, c) rw.length).1 _ (upd A rw.length (a, c) rw.length).2; rw [upd_same]⟩
theorem op_pushRow {e : TypeId} {t : DT} {l : List t.den} {a' : Option Addr} {c : Nat} {xs : List Value} (m : Mem V U0 L B A pb rw w) (hts : hL (env U0 B A pb rw w) ts a.tmps.toList) (hrun : (execOp a.eval o).run P w = .ok (.value (.slice a' l.length c)) w')
    (hr : w'.os = w.os ∧ w'.tape = w.tape ∧ w'.output = w.output ∧ w.heap.size ≤ w'.heap.size) (hk : ∀ b, b < w.heap.size → w'.heap[b]? = w.heap[b]?)
    (ha : ∀ x, a' = some x → w.heap.size ≤ x.block ∧ x.block < w'.heap.size) (ho : w'.ownsRow 0 e t.size (.slice a' l.length c) l.length xs) (hs : t.hs (Us U0 B A pb rw) w l xs)
    (h : (pushE rw (.own e t l) fun rw' => litE rw.length fun n => retE o.dst (.row n) ts pb rw' K) = some q) : o.wp P a w (Nxt V U0 L al B A pb rw w a K q) Q := by
  rw [pushE_eq, litE_eq] at h
  obtain ⟨m', s, e1, hrow⟩ := m.pushRow (al := al) hr hk ha ho hs
  exact wp_of_value hrun (Nxt.ret h m' (noSub s hts) hrow e1)
theorem hs_src {U : Nat → Prop} {t : DT} {l : List t.den} {aa : Option Addr} {c : Nat} (h : (DT.slc t).h U w l [.slice aa l.length c]) (h0 : 0 < t.size) (hl : 0 < l.length) :
    ∃ ad us, aa = some ad ∧ us.length = l.length * t.size ∧ t.hs U w l us ∧ ∀ j u, us[j]? = some u → w.cell? (ad.add j) = some u := by
  obtain ⟨a', c', e, _, _, hel⟩ := h
  simp only [List.cons.injEq, Value.slice.injEq, and_true] at e
  obtain ⟨rfl, _, rfl⟩ := e
  obtain ⟨ad, rfl⟩ : ∃ ad, aa = some ad := by
    obtain ⟨us, h1, h2⟩ := hel 0 _ (List.getElem?_eq_getElem hl)
    have := t.h_len h1
    obtain ⟨x, hx, _⟩ := h2 0 _ (List.getElem?_eq_getElem (by omega))
    exact ⟨x, hx⟩
  have all : ∀ (n : Nat), n ≤ l.length → ∃ us, us.length = n * t.size ∧ t.hs U w (l.take n) us ∧ ∀ j u, us[j]? = some u → w.cell? (ad.add j) = some u := by
    intro n
    induction n with
    | zero => intro _; exact ⟨[], by simp, by simpa using DT.hs_nil, by simp⟩
    | succ n ih =>
      intro hn
      obtain ⟨us, h1, h2, h3⟩ := ih (by omega)
      obtain ⟨vs, g1, g2⟩ := hel n _ (List.getElem?_eq_getElem (by omega))
      have gl := t.h_len g1
      refine ⟨us ++ vs, by simp [h1, gl, Nat.succ_mul], ?_, fun j u hj => ?_⟩
      · rw [List.take_add_one, List.getElem?_eq_getElem (by omega)]
        exact DT.hs_app h2 (DT.hs_one g1)
      · rcases Nat.lt_or_ge j us.length with hlt | hge
        · rw [List.getElem?_append_left hlt] at hj; exact h3 j u hj
        · rw [List.getElem?_append_right hge] at hj
          obtain ⟨x, hx, _, _, g3⟩ := g2 _ u hj
          simp only [Option.some.injEq] at hx; subst hx
          rwa [show n * t.size + (j - us.length) = j by omega] at g3
  obtain ⟨us, h1, h2, h3⟩ := all l.length (Nat.le_refl _)
  exact ⟨ad, us, rfl, h1, by simpa using h2, h3⟩
theorem grown_frame {row : Option Nat} (hg : w.grownBy w' row) : w'.os = w.os ∧ w'.tape = w.tape ∧ w'.output = w.output ∧ w.heap.size ≤ w'.heap.size := ⟨hg.os, hg.tape, hg.output, hg.size⟩
theorem alloc_frame (ob : Obj) : (w.alloc ob).os = w.os ∧ (w.alloc ob).tape = w.tape ∧ (w.alloc ob).output = w.output ∧ w.heap.size ≤ (w.alloc ob).heap.size := ⟨rfl, rfl, rfl, by simp⟩
theorem bi_run {c : Call} {b : Builtin} (ho : o.op = .call c) (hcal : c.callee = .builtin b) : (execOp a.eval o).run P w = (builtin b c.argTypes o.type (c.args.map fun | .const _ => true | _ => false) (c.args.toList.map a.eval).toArray).run P w := by
  have : c.args.map a.eval = (c.args.toList.map a.eval).toArray := by apply Array.ext'; simp
  simp only [execOp, ho, resolve, hcal, Sem.run_bind, Sem.run_pure, Result.andThen_ok, invoke, this]
  rfl
/-- a string behind a row: what it makes, and where -/
theorem run_append_str {t u ty e : TypeId} {bytes : Nat} (he : ElemOk P t e 1 bytes) (hu : P.underlying u = some .string) {a : Option Addr} {n c : Nat} {xs : List Value} (ho : w.ownsRow 0 e 1 (.slice a n c) n xs) (s : ByteArray) (h63 : n + s.size ≤ maxLen) (hb : (n + s.size) * bytes ≤ 140737488355328) :
    ∃ a' c' w', (Builtin.append_ #[t, u] ty #[.slice a n c, .string s]).run P w = .ok (.slice a' (n + s.size) c') w' ∧ w'.ownsRow 0 e 1 (.slice a' (n + s.size) c') (n + s.size) (xs ++ Lib.strCells s) ∧ w.grownBy w' (Value.slice a n c).ownBlock ∧
      ((Value.slice a' (n + s.size) c').ownBlock = (Value.slice a n c).ownBlock ∨ (Value.slice a' (n + s.size) c').ownBlock = some w.heap.size) := by
  obtain ⟨i, z, hi, hz, hs1, hby, hzs⟩ := he.info
  have h63' : n + s.size ≤ 9223372036854775807 := by rw [maxLen_eq] at h63; exact h63
  have hxl : xs.length = n := by simpa using ho.1
  have hsl : (Lib.strCells s).length = s.size := Lib.strCells_length s
  have hall : (xs ++ Lib.strCells s).length = (n + s.size) * 1 := by rw [List.length_append, hxl, hsl, Nat.mul_one]
  -- a new row
  have fresh : ∀ old, (w.drew.alloc (.cells (xs.toArray ++ (Lib.strCells s).toArray ++ Builtin.zeroCells z.cells (grownCap w (n + s.size) old e - (n + s.size))) e)).ownsRow 0 e 1 (.slice (some ⟨w.heap.size, 0, none⟩) (n + s.size) (grownCap w (n + s.size) old e)) (n + s.size) (xs ++ Lib.strCells s) := by
    intro old
    have g1 := grownCap_ge w (n + s.size) old e
    have g2 := grownCap_le_maxLen w (n + s.size) old e h63
    refine ⟨hall, .inr ⟨w.heap.size, _, _, rfl, Nat.zero_le _, heap_alloc_new w.drew _, g1, g2, ?_, ?_⟩⟩
    · rw [Array.size_append, Array.size_append, size_zeroCells, List.size_toArray, List.size_toArray, hxl, hsl, hzs, Nat.mul_one, Nat.mul_one]; omega
    · rw [Array.toList_append, Array.toList_append, List.toList_toArray, List.toList_toArray, ← hall, List.take_left]
  have grow : ∀ (row : Option Nat) (ob : Obj), w.grownBy (w.drew.alloc ob) row := fun row ob => ⟨rfl, rfl, rfl, by simp, fun k hk _ => heap_alloc_old w.drew _ hk⟩
  rcases id ho.2 with ⟨hv, hn⟩ | ⟨g, cap, cur, hv, _, hg, hn, hm, hcs, htk⟩
  · simp only [Value.slice.injEq] at hv
    obtain ⟨rfl, rfl, rfl⟩ := hv
    have hx : xs = [] := List.eq_nil_of_length_eq_zero hxl
    subst hx
    rcases Nat.eq_zero_or_pos s.size with h0 | h0
    · have hn0 : Lib.strCells s = [] := List.eq_nil_of_length_eq_zero (by rw [hsl]; exact h0)
      refine ⟨none, 0, w, ?_, by rw [h0, hn0]; exact World.ownsRow_nil w 0 e 1, ⟨rfl, rfl, rfl, Nat.le_refl _, fun _ _ _ => rfl⟩, .inl rfl⟩
      have hf := Lib.run_firstCells_string (P := P) w 1 s
      rw [h0] at hf
      simp [Builtin.append_, run_underlying he.under, run_underlying hu, sizeOf, typeInfo, hi, hs1, Builtin.lenOf, h0, hf]
    · have hr := run_append_nil_string (P := P) w t u ty e i z he.under hu hi hz s h0 (by omega) (by rw [hby]; simp only [Nat.zero_add] at hb; omega)
      have hf := fresh 0
      have e1 : (s.data.map fun b => Value.int .u8 b.toNat) = (Lib.strCells s).toArray := Array.ext' (by simp [Lib.strCells])
      simp only [Nat.zero_add] at hf ⊢
      rw [e1] at hr
      exact ⟨_, _, _, hr, by simpa using hf, grow _ _, .inr rfl⟩
  · simp only [Value.slice.injEq] at hv
    obtain ⟨rfl, _, rfl⟩ := hv
    rw [Nat.mul_one] at hcs htk
    by_cases hroom : n + s.size ≤ c
    · have hr := Lib.run_append_room_string (P := P) w t u ty e i he.under hu hi hs1 g n c cur hg s hroom (by omega)
      refine ⟨_, _, _, hr, ⟨hall, .inr ⟨g, c, _, rfl, Nat.zero_le _, setRow_heap w g cur _ e _ hg, hroom, hm, ?_, ?_⟩⟩, ⟨rfl, rfl, rfl, by simp, fun k _ hk => setRow_other w g k _ fun h => hk (by rw [h]; rfl)⟩, .inl rfl⟩
      · rw [List.size_toArray, List.length_append, List.length_append, List.length_take, List.length_drop, Array.length_toList, hsl]; omega
      · rw [List.toList_toArray, htk, ← hall, List.take_left]
    · have holds : ∀ j u, xs[j]? = some u → w.cell? ((⟨g, 0, none⟩ : Addr).add j) = some u := by
        obtain ⟨g', cur', e9, hg', _, _, _, _, hc⟩ := owns_cells ho
        exact hc
      have hr := Lib.run_append_grow_string (P := P) w t u ty e i z he.under hu hi hz ⟨g, 0, none⟩ n c xs (by rw [hs1]; simpa using hxl) holds s (by omega) (by omega) (by rw [hby]; exact growslice_fits (by omega) hb)
      exact ⟨_, _, _, hr, fresh c, grow _ _, .inr rfl⟩
theorem strCells_ints (s : ByteArray) : Lib.strCells s = (bytesI s).map (Value.int .u8) := by simp [Lib.strCells, bytesI]
theorem zeroCells_u8 (n : Nat) : Builtin.zeroCells #[Value.int .u8 0] n = ((List.replicate n (0 : Int)).map (Value.int .u8)).toArray := by
  apply Array.ext
  · simp [Builtin.zeroCells]
  · intro i h1 h2
    simp [Builtin.zeroCells, Nat.mod_one]
/-- noughts behind a row: what it makes, and where -/
theorem run_append_zer {t u ty e : TypeId} {bytes : Nat} {kq kn : IntKind} (he : ElemOk P t e 1 bytes) (hz0 : ∀ i z, P.info? e = some i → i.zero = some z → z.cells = #[Value.int .u8 0]) (hu : P.underlying u = some (.int kn)) {a : Option Addr} {n c : Nat} {xs : List Value} (ho : w.ownsRow 0 e 1 (.slice a n c) n xs) (k : Nat) (h63 : n + k ≤ maxLen) (hb : (n + k) * bytes ≤ 140737488355328) :
    ∃ a' c' w', (Builtin.append_ #[t, u] ty #[.slice a n c, .int kq k]).run P w = .ok (.slice a' (n + k) c') w' ∧ w'.ownsRow 0 e 1 (.slice a' (n + k) c') (n + k) (xs ++ (List.replicate k (0 : Int)).map (Value.int .u8)) ∧ w.grownBy w' (Value.slice a n c).ownBlock ∧
      ((Value.slice a' (n + k) c').ownBlock = (Value.slice a n c).ownBlock ∨ (Value.slice a' (n + k) c').ownBlock = some w.heap.size) := by
  obtain ⟨i, z, hi, hz, hs1, hby, hzs⟩ := he.info
  have hzc := hz0 i z hi hz
  have h63' : n + k ≤ 9223372036854775807 := by rw [maxLen_eq] at h63; exact h63
  have hxl : xs.length = n := by simpa using ho.1
  generalize hcc : (List.replicate k (0 : Int)).map (Value.int .u8) = cs
  have hsl : cs.length = k := by rw [← hcc]; simp
  have hzk : Builtin.zeroCells z.cells k = cs.toArray := by rw [hzc, zeroCells_u8, hcc]
  have hone : ∀ v ∈ cs, v.oneCell' = true := by rw [← hcc]; intro v hv; simp only [List.map_replicate, List.mem_replicate] at hv; rw [hv.2]; rfl
  have hall : (xs ++ cs).length = (n + k) * 1 := by rw [List.length_append, hxl, hsl, Nat.mul_one]
  have hw : IntKind.i64.wrap (k : Int) = k := by rw [IntKind.wrap_i64]; omega
  have hw0 : IntKind.i64.wrap 0 = 0 := by decide
  have hneg : ¬ ((k : Int) < 0) := by omega
  have h48 : k * i.bytes ≤ 281474976710656 := by
    rw [hby]
    have := Nat.mul_le_mul_right bytes (Nat.le_add_left k n)
    omega
  have h48i : ¬ (281474976710656 < (k : Int) * (i.bytes : Int)) := by rw [← Int.natCast_mul]; omega
  -- a new row
  have fresh : ∀ old, (w.drew.alloc (.cells (xs.toArray ++ cs.toArray ++ Builtin.zeroCells z.cells (grownCap w (n + k) old e - (n + k))) e)).ownsRow 0 e 1 (.slice (some ⟨w.heap.size, 0, none⟩) (n + k) (grownCap w (n + k) old e)) (n + k) (xs ++ cs) := by
    intro old
    have g1 := grownCap_ge w (n + k) old e
    have g2 := grownCap_le_maxLen w (n + k) old e h63
    refine ⟨hall, .inr ⟨w.heap.size, _, _, rfl, Nat.zero_le _, heap_alloc_new w.drew _, g1, g2, ?_, ?_⟩⟩
    · rw [Array.size_append, Array.size_append, size_zeroCells, List.size_toArray, List.size_toArray, hxl, hsl, hzs, Nat.mul_one, Nat.mul_one]; omega
    · rw [Array.toList_append, Array.toList_append, List.toList_toArray, List.toList_toArray, ← hall, List.take_left]
  have grow : ∀ (row : Option Nat) (ob : Obj), w.grownBy (w.drew.alloc ob) row := fun row ob => ⟨rfl, rfl, rfl, by simp, fun k hk _ => heap_alloc_old w.drew _ hk⟩
  rcases id ho.2 with ⟨hv, hn⟩ | ⟨g, cap, cur, hv, _, hg, hn, hm, hcs, htk⟩
  · simp only [Value.slice.injEq] at hv
    obtain ⟨rfl, rfl, rfl⟩ := hv
    have hx : xs = [] := List.eq_nil_of_length_eq_zero hxl
    subst hx
    rcases Nat.eq_zero_or_pos k with h0 | h0
    · have hn0 : cs = [] := List.eq_nil_of_length_eq_zero (by rw [hsl]; exact h0)
      refine ⟨none, 0, w, ?_, by rw [h0, hn0]; exact World.ownsRow_nil w 0 e 1, ⟨rfl, rfl, rfl, Nat.le_refl _, fun _ _ _ => rfl⟩, .inl rfl⟩
      subst h0
      simp [Builtin.append_, run_underlying he.under, run_underlying hu, sizeOf, typeInfo, hi, asInt, asIntOf, hw0]
    · have hr := Lib.run_append_nil_zeros (P := P) w t u ty e i z kq kn he.under hu hi hz k h0 (by omega) (by omega) h48
      have hf := fresh 0
      rw [hzk] at hr
      simp only [Nat.zero_add] at hf ⊢
      exact ⟨_, _, _, hr, by simpa using hf, grow _ _, .inr rfl⟩
  · simp only [Value.slice.injEq] at hv
    obtain ⟨rfl, _, rfl⟩ := hv
    rw [Nat.mul_one] at hcs htk
    by_cases hroom : n + k ≤ c
    · have hr : (Builtin.append_ #[t, u] ty #[.slice (some ⟨g, 0, none⟩) n c, .int kq k]).run P w =
          .ok (.slice (some ⟨g, 0, none⟩) (n + k) c) (w.setRow g (cur.toList.take n ++ cs ++ cur.toList.drop (n + k)).toArray) := by
        have hst := run_storeCells_at P g n e cs 0 cur w hg (by rw [hsl]; omega) hone
        simp only [Nat.add_zero, hsl] at hst
        rcases Nat.eq_zero_or_pos k with h0 | h0
        · have hn0 : cs = [] := List.eq_nil_of_length_eq_zero (by rw [hsl]; exact h0)
          subst h0
          rw [hn0] at hst
          simp [Builtin.append_, run_underlying he.under, run_underlying hu, sizeOf, typeInfo, hi, hs1, asInt, asIntOf, hw0, Addr.add_lit] at hst ⊢
          simp only [Nat.add_zero] at hroom
          simp [hroom, hst, hn0]
        · have hns : ¬ (k = 0) := by omega
          simp [Builtin.append_, run_underlying he.under, run_underlying hu, sizeOf, typeInfo, zeroValue, hi, hz, hs1, asInt, asIntOf, hw, hneg, hns, h48i, hroom, Addr.add_lit, hzk, hst]
      refine ⟨_, _, _, hr, ⟨hall, .inr ⟨g, c, _, rfl, Nat.zero_le _, setRow_heap w g cur _ e _ hg, hroom, hm, ?_, ?_⟩⟩, ⟨rfl, rfl, rfl, by simp, fun k _ hk => setRow_other w g k _ fun h => hk (by rw [h]; rfl)⟩, .inl rfl⟩
      · rw [List.size_toArray, List.length_append, List.length_append, List.length_take, List.length_drop, Array.length_toList, hsl]; omega
      · rw [List.toList_toArray, htk, ← hall, List.take_left]
    · have holds : ∀ j u, xs[j]? = some u → w.cell? ((⟨g, 0, none⟩ : Addr).add j) = some u := by
        obtain ⟨g', cur', e9, hg', _, _, _, _, hc⟩ := owns_cells ho
        exact hc
      have hfo := run_firstCells_some (P := P) w.drew i.size n ⟨g, 0, none⟩ n c xs (by rw [hs1]; simpa using hxl) (by simpa using holds)
      have hr := Lib.run_append_grow_zeros (P := P) w t u ty e i z kq kn he.under hu hi hz (some ⟨g, 0, none⟩) n c xs hfo k (by omega) (by omega) (by omega) (by omega) h48 (by rw [hby]; exact growslice_fits (by omega) hb)
      rw [hzk] at hr
      exact ⟨_, _, _, hr, fresh c, grow _ _, .inr rfl⟩
theorem op_appendS {c : Call} {j n : Nat} {e : TypeId} {l : List Int} {s : ByteArray} {xs : List DV} (hT : TableOk P T) (ho : o.op = .call c) (hcal : c.callee = .builtin .append) (hxs : hL (env U0 B A pb rw w) xs (c.args.toList.map a.eval)) (hq : appS T xs c.argTypes.toList rw = some (j, e, l, s, n))
    (h : stdW.room (l.length + s.size) n (subLE (oneD j .junk) ts fun ts => subBE (oneD j .junk) pb fun pb => setE rw j (.own e (.int .u8) (l ++ bytesI s)) fun rw => retE o.dst (.row j) ts pb rw K) = some q)
    (m : Mem V U0 L B A pb rw w) (hts : hL (env U0 B A pb rw w) ts a.tmps.toList) : o.wp P a w (Nxt V U0 L al B A pb rw w a K q) Q := by
  unfold appS at hq
  split at hq
  · rename_i j0 s0 t t' hat
    split at hq
    · rename_i e0 e2 l0 htd hst hj
      obtain ⟨ti, hft, htd⟩ := tdV_f hT htd
      obtain ⟨ti', hft', htd'⟩ := tdV_f hT hst
      rw [drV_spec] at hj
      split at hq
      · rename_i te hte1 hte
        have hfe := tiV_f hT hte
        split at hq
        · rename_i hb
          simp only [Option.some.injEq, Prod.mk.injEq] at hq
          obtain ⟨rfl, rfl, rfl, rfl, rfl⟩ := hq
          simp only [Bool.and_eq_true] at hb
          have hee := Nat.eq_of_beq_eq_true hb.1
          subst hee
          have hsz := Nat.eq_of_beq_eq_true hb.2.2
          have hek := elemOk_T hft htd hfe hb.2.1 (by omega)
          rw [hsz] at hek
          obtain ⟨r1, r2, h⟩ := room_s h
          simp only [subLE_eq, subBE_eq, setE_eq] at h
          have hats : c.argTypes = #[t, t'] := Array.ext' (by simpa using hat)
          simp only [hL] at hxs
          obtain ⟨v1, _, ea, hp1, v2, _, rfl, hp2, rfl⟩ := hxs
          simp only [DV.h] at hp1 hp2
          subst hp2
          obtain ⟨e3, t3, l3, hj3, rfl⟩ := hp1
          have hj3 : rw[j0]? = some (.own e3 t3 l3) := hj3
          rw [hj] at hj3; simp only [Option.some.injEq, DR.own.injEq] at hj3
          obtain ⟨rfl, rfl, hl3⟩ := hj3
          cases hl3
          have hrun0 : (execOp a.eval o).run P w = ((Builtin.append_ #[t, t'] o.type #[.slice (A j0).1 l0.length (A j0).2, .string s0]).run P w).andThen fun v w' => .ok (.value v) w' := by
            rw [bi_run ho hcal, hats, ea]; simp only [builtin, Sem.run_bind, Sem.run_pure]; rfl
          obtain ⟨xs1, ho1, hs1⟩ := m.row j0 e0 (.int .u8) l0 hj
          have hjl := (List.getElem?_eq_some_iff.1 hj).1
          obtain ⟨a', c', w2, hrun, ho2, hg, hat2⟩ := run_append_str (P := P) (ty := o.type) hek (td_string hft' htd') ho1 s0 (by rw [maxLen_eq]; omega) r2
          have hbl : ∀ b, (Value.slice (A j0).1 l0.length (A j0).2).ownBlock = some b ↔ blk B A pb rw true j0 b := by
            intro b
            constructor
            · intro hb
              cases hA : (A j0).1 with
              | none => rw [hA] at hb; simp [Value.ownBlock] at hb
              | some ad => rw [hA] at hb; simp only [Value.ownBlock, Option.some.injEq] at hb; exact ⟨_, ad, hj, by simp, hA, hb⟩
            · rintro ⟨r, ad, _, _, hA, rfl⟩; rw [hA]; rfl
          have hlen : (l0 ++ bytesI s0).length = l0.length + s0.size := by simp [bytesI]
          obtain ⟨m2, s2, e2⟩ := m.putRow (al := al) (j := j0) (f := oneD j0 .junk) (rw' := rw.set j0 (.own e0 (.int .u8) (l0 ++ bytesI s0))) (e := e0) (t := .int .u8) (l := l0 ++ bytesI s0) (a := a') (c := c') (w' := w2)
            (by rw [List.getElem?_set, if_pos rfl, if_pos hjl]) (fun k hk => by rw [List.getElem?_set, if_neg (Ne.symm hk)])
            (fun i p hp => by
              unfold oneD at hp
              split at hp
              · rename_i hb; simp only [Option.some.injEq] at hp; exact ⟨Nat.eq_of_beq_eq_true hb, hp.symm⟩
              · cases hp)
            (fun hn => by simp [oneD] at hn) (fun hn => by simp [oneD] at hn) (grown_frame hg) (fun b hb hnb => hg.block b hb fun h => hnb ((hbl b).1 h.symm))
            (fun x hx => by
              subst hx
              rcases hat2 with h' | h'
              · exact .inl ((hbl _).1 h'.symm)
              · simp only [Value.ownBlock, Option.some.injEq] at h'
                have := (ho2.lt x.block rfl).2
                exact .inr ⟨by omega, this⟩)
            (fun U' lt => ⟨xs1 ++ Lib.strCells s0, by rw [hlen]; exact ho2, DT.hs_mono lt (DT.hs_app hs1 (by rw [strCells_ints]; exact hs_ints))⟩)
          refine wp_of_value (by rw [hrun0, hrun]; rfl) (Nxt.ret h m2 (hL_subL s2 _ hts) ?_ e2)
          simp only [DV.h]
          have hset : (rw.set j0 (DR.own e0 (.int .u8) (l0 ++ bytesI s0)))[j0]? = some (.own e0 (.int .u8) (l0 ++ bytesI s0)) := by rw [List.getElem?_set, if_pos rfl, if_pos hjl]
          exact ⟨e0, .int .u8, l0 ++ bytesI s0, hset, by show _ = Value.slice (upd A j0 (a', c') j0).1 _ (upd A j0 (a', c') j0).2; rw [upd_same, hlen]⟩
        · cases hq
      · cases hq
    · cases hq
  · cases hq
theorem op_appendZ {c : Call} {j n : Nat} {e : TypeId} {l : List Int} {k0 : Int} {xs : List DV} (hT : TableOk P T) (ho : o.op = .call c) (hcal : c.callee = .builtin .append) (hxs : hL (env U0 B A pb rw w) xs (c.args.toList.map a.eval)) (hq : appZ T xs c.argTypes.toList rw = some (j, e, l, k0, n))
    (h : stdW.nn k0 (stdW.room (l.length + k0.toNat) n (subLE (oneD j .junk) ts fun ts => subBE (oneD j .junk) pb fun pb => setE rw j (.own e (.int .u8) (l ++ List.replicate k0.toNat 0)) fun rw => retE o.dst (.row j) ts pb rw K)) = some q)
    (m : Mem V U0 L B A pb rw w) (hts : hL (env U0 B A pb rw w) ts a.tmps.toList) : o.wp P a w (Nxt V U0 L al B A pb rw w a K q) Q := by
  unfold appZ at hq
  split at hq
  · rename_i j0 kq s0 t t' hat
    split at hq
    · rename_i e0 kn e2 l0 htd hst hj
      obtain ⟨ti, hft, htd⟩ := tdV_f hT htd
      obtain ⟨ti', hft', htd'⟩ := tdV_f hT hst
      rw [drV_spec] at hj
      split at hq
      · rename_i te hte1 hte
        have hfe := tiV_f hT hte
        split at hq
        · rename_i hb hz0
          simp only [Option.some.injEq, Prod.mk.injEq] at hq
          obtain ⟨rfl, rfl, rfl, rfl, rfl⟩ := hq
          simp only [Bool.and_eq_true] at hb
          have hee := Nat.eq_of_beq_eq_true hb.1
          subst hee
          have hsz := Nat.eq_of_beq_eq_true hb.2.2
          have hek := elemOk_T hft htd hfe hb.2.1 (by omega)
          rw [hsz] at hek
          obtain ⟨hnn, h⟩ := nn_s h
          obtain ⟨k, rfl⟩ := Int.eq_ofNat_of_zero_le hnn
          simp only [Int.toNat_natCast] at h
          obtain ⟨r1, r2, h⟩ := room_s h
          simp only [subLE_eq, subBE_eq, setE_eq] at h
          have hats : c.argTypes = #[t, t'] := Array.ext' (by simpa using hat)
          simp only [hL] at hxs
          obtain ⟨v1, _, ea, hp1, v2, _, rfl, hp2, rfl⟩ := hxs
          simp only [DV.h] at hp1 hp2
          subst hp2
          obtain ⟨e3, t3, l3, hj3, rfl⟩ := hp1
          have hj3 : rw[j0]? = some (.own e3 t3 l3) := hj3
          rw [hj] at hj3; simp only [Option.some.injEq, DR.own.injEq] at hj3
          obtain ⟨rfl, rfl, hl3⟩ := hj3
          cases hl3
          have hrun0 : (execOp a.eval o).run P w = ((Builtin.append_ #[t, t'] o.type #[.slice (A j0).1 l0.length (A j0).2, .int kq k]).run P w).andThen fun v w' => .ok (.value v) w' := by
            rw [bi_run ho hcal, hats, ea]; simp only [builtin, Sem.run_bind, Sem.run_pure]; rfl
          obtain ⟨xs1, ho1, hs1⟩ := m.row j0 e0 (.int .u8) l0 hj
          have hjl := (List.getElem?_eq_some_iff.1 hj).1
          obtain ⟨a', c', w2, hrun, ho2, hg, hat2⟩ := run_append_zer (P := P) (ty := o.type) (kq := kq) hek (fun i z hi hz => by
            obtain ⟨d, i2, g1, g2, g3, g4, g5, g6, g7, g8⟩ := hfe.ex
            rw [hi] at g2; cases g2
            rw [hz, hz0] at g7
            exact Array.ext' g7.symm) (td_int hft' htd') ho1 k (by rw [maxLen_eq]; omega) r2
          have hbl : ∀ b, (Value.slice (A j0).1 l0.length (A j0).2).ownBlock = some b ↔ blk B A pb rw true j0 b := by
            intro b
            constructor
            · intro hb
              cases hA : (A j0).1 with
              | none => rw [hA] at hb; simp [Value.ownBlock] at hb
              | some ad => rw [hA] at hb; simp only [Value.ownBlock, Option.some.injEq] at hb; exact ⟨_, ad, hj, by simp, hA, hb⟩
            · rintro ⟨r, ad, _, _, hA, rfl⟩; rw [hA]; rfl
          have hlen : (l0 ++ List.replicate k (0 : Int)).length = l0.length + k := by simp []
          obtain ⟨m2, s2, e2⟩ := m.putRow (al := al) (j := j0) (f := oneD j0 .junk) (rw' := rw.set j0 (.own e0 (.int .u8) (l0 ++ List.replicate k (0 : Int)))) (e := e0) (t := .int .u8) (l := l0 ++ List.replicate k (0 : Int)) (a := a') (c := c') (w' := w2)
            (by rw [List.getElem?_set, if_pos rfl, if_pos hjl]) (fun k hk => by rw [List.getElem?_set, if_neg (Ne.symm hk)])
            (fun i p hp => by
              unfold oneD at hp
              split at hp
              · rename_i hb; simp only [Option.some.injEq] at hp; exact ⟨Nat.eq_of_beq_eq_true hb, hp.symm⟩
              · cases hp)
            (fun hn => by simp [oneD] at hn) (fun hn => by simp [oneD] at hn) (grown_frame hg) (fun b hb hnb => hg.block b hb fun h => hnb ((hbl b).1 h.symm))
            (fun x hx => by
              subst hx
              rcases hat2 with h' | h'
              · exact .inl ((hbl _).1 h'.symm)
              · simp only [Value.ownBlock, Option.some.injEq] at h'
                have := (ho2.lt x.block rfl).2
                exact .inr ⟨by omega, this⟩)
            (fun U' lt => ⟨xs1 ++ (List.replicate k (0 : Int)).map (Value.int .u8), by rw [hlen]; exact ho2, DT.hs_mono lt (DT.hs_app hs1 hs_ints)⟩)
          refine wp_of_value (by rw [hrun0, hrun]; rfl) (Nxt.ret h m2 (hL_subL s2 _ hts) ?_ e2)
          simp only [DV.h]
          have hset : (rw.set j0 (DR.own e0 (.int .u8) (l0 ++ List.replicate k (0 : Int))))[j0]? = some (.own e0 (.int .u8) (l0 ++ List.replicate k (0 : Int))) := by rw [List.getElem?_set, if_pos rfl, if_pos hjl]
          exact ⟨e0, .int .u8, l0 ++ List.replicate k (0 : Int), hset, by show _ = Value.slice (upd A j0 (a', c') j0).1 _ (upd A j0 (a', c') j0).2; rw [upd_same, hlen]⟩
        · cases hq
      · cases hq
    · cases hq
  · cases hq
theorem op_appendN {c : Call} {n : Nat} {e : TypeId} {s : ByteArray} {xs : List DV} (hT : TableOk P T) (ho : o.op = .call c) (hcal : c.callee = .builtin .append) (hxs : hL (env U0 B A pb rw w) xs (c.args.toList.map a.eval)) (hq : appN T xs c.argTypes.toList = some (e, s, n))
    (h : stdW.room s.size n (pushE rw (.own e (.int .u8) (bytesI s)) fun rw' => litE rw.length fun n => retE o.dst (.row n) ts pb rw' K) = some q)
    (m : Mem V U0 L B A pb rw w) (hts : hL (env U0 B A pb rw w) ts a.tmps.toList) : o.wp P a w (Nxt V U0 L al B A pb rw w a K q) Q := by
  unfold appN at hq
  split at hq
  · rename_i s0 t t' hat
    split at hq
    · rename_i e0 htd hst
      obtain ⟨ti, hft, htd⟩ := tdV_f hT htd
      obtain ⟨ti', hft', htd'⟩ := tdV_f hT hst
      split at hq
      · rename_i te hte1 hte
        have hfe := tiV_f hT hte
        split at hq
        · rename_i hb
          simp only [Option.some.injEq, Prod.mk.injEq] at hq
          obtain ⟨rfl, rfl, rfl⟩ := hq
          simp only [Bool.and_eq_true] at hb
          have hsz := Nat.eq_of_beq_eq_true hb.2
          have hek := elemOk_T hft htd hfe hb.1 (by omega)
          rw [hsz] at hek
          obtain ⟨r1, r2, h⟩ := room_s h
          have hats : c.argTypes = #[t, t'] := Array.ext' (by simpa using hat)
          simp only [hL] at hxs
          obtain ⟨v1, _, ea, hp1, v2, _, rfl, hp2, rfl⟩ := hxs
          simp only [DV.h] at hp1 hp2
          subst hp1; subst hp2
          have hrun0 : (execOp a.eval o).run P w = ((Builtin.append_ #[t, t'] o.type #[.slice none 0 0, .string s0]).run P w).andThen fun v w' => .ok (.value v) w' := by
            rw [bi_run ho hcal, hats, ea]; simp only [builtin, Sem.run_bind, Sem.run_pure]
          obtain ⟨a', c', w2, hrun, ho2, hg, hat2⟩ := run_append_str (P := P) (ty := o.type) hek (td_string hft' htd') (World.ownsRow_nil w 0 e0 1) s0 (by rw [maxLen_eq]; omega) (by rw [Nat.zero_add]; exact r2)
          rw [Nat.zero_add] at hrun ho2 hat2
          rw [hrun] at hrun0
          have hlen : (bytesI s0).length = s0.size := by simp [bytesI]
          exact op_pushRow (P := P) (Q := Q) (al := al) (e := e0) (t := .int .u8) (l := bytesI s0) (a' := a') (c := c') (xs := Lib.strCells s0) m hts (w' := w2) (by rw [hlen]; exact hrun0) (grown_frame hg) (fun b hb => hg.block b hb (by simp [Value.ownBlock])) (fun x hx => by
              subst hx
              have := (ho2.lt x.block rfl).2
              rcases hat2 with h' | h'
              · simp [Value.ownBlock] at h'
              · simp only [Value.ownBlock, Option.some.injEq] at h'; omega) (by rw [hlen]; exact ho2) (by rw [strCells_ints]; exact hs_ints) h
        · cases hq
      · cases hq
    · cases hq
  · cases hq
theorem op_append {c : Call} {xs : List DV} (hT : TableOk P T) (ho : o.op = .call c) (hcal : c.callee = .builtin .append) (hxs : hL (env U0 B A pb rw w) xs (c.args.toList.map a.eval)) (h : evOp stdW T C al av o ts pb rw K = some q) (hops : opsV ts c.args.toList = some xs)
    (m : Mem V U0 L B A pb rw w) (hts : hL (env U0 B A pb rw w) ts a.tmps.toList) : o.wp P a w (Nxt V U0 L al B A pb rw w a K q) Q := by
  simp only [evOp, ho, hcal, hops] at h
  split at h
  · rename_i j e l s n hq
    exact op_appendS hT ho hcal hxs hq h m hts
  split at h
  · rename_i e s n hq
    exact op_appendN hT ho hcal hxs hq h m hts
  split at h
  · rename_i j e l k0 n hq
    exact op_appendZ hT ho hcal hxs hq h m hts
  split at h
  · rename_i p1 p2
    obtain ⟨ts1, pb1, rw1, ps, h, m1, hts1, hps, e1, _⟩ := frzE_s (al := al) _ h m hts hxs
    split at h
    · rename_i p1 p2 t t' hat
      split at h
      · rename_i e htd
        obtain ⟨ti, hft, htd⟩ := tdV_f hT htd
        split at h
        · rename_i te hte
          have hfe := tiV_f hT hte
          split at h
          · rename_i t2 news htt hz
            have htt := Nat.eq_of_beq_eq_true htt
            subst htt
            have hats : c.argTypes = #[t, t] := Array.ext' (by simpa using hat)
            simp only [hL] at hps
            obtain ⟨v1, _, ea, hp1, v2, _, rfl, hp2, rfl⟩ := hps
            simp only [DV.h] at hp2
            obtain ⟨a2, c2, ev2, _⟩ := id hp2
            simp only [List.cons.injEq, and_true] at ev2
            subst ev2
            have hrun0 : (execOp a.eval o).run P w = ((Builtin.append_ #[t, t] o.type #[v1, .slice a2 news.length c2]).run P w).andThen fun v w' => .ok (.value v) w' := by
              rw [bi_run ho hcal, hats, ea]; simp only [builtin, Sem.run_bind, Sem.run_pure]
            split at h
            · rename_i j h0
              have h0 := Nat.le_of_ble_eq_true h0
              split at h
              · rename_i e2 t1 l hj
                rw [drV_spec] at hj
                split at h
                · rename_i hh hee hsz hsame
                  have hee := Nat.eq_of_beq_eq_true hee
                  have hsz := Nat.eq_of_beq_eq_true hsz
                  subst hee
                  subst hh
                  obtain ⟨r1, r2, h⟩ := room_s h
                  simp only [subLE_eq, subBE_eq, setE_eq] at h
                  simp only [DV.h] at hp1
                  obtain ⟨e3, t3, l3, hj3, ev1⟩ := hp1
                  have hj3 : rw1[j]? = some (.own e3 t3 l3) := hj3
                  rw [hj] at hj3; simp only [Option.some.injEq, DR.own.injEq] at hj3
                  obtain ⟨rfl, rfl, hl3⟩ := hj3
                  cases hl3
                  subst ev1
                  simp only [env] at hrun0
                  obtain ⟨xs1, ho1, hs1⟩ := m1.row j e t2 l hj
                  have hek := elemOk_T hft htd hfe hz (by omega)
                  have hjl := (List.getElem?_eq_some_iff.1 hj).1
                  have fin : ∀ (a' : Option Addr) (c' : Nat) (w2 : World) (xs2 : List Value), w.grownBy w2 (Value.slice (A j).1 l.length (A j).2).ownBlock → ((Value.slice a' (l.length + news.length) c').ownBlock = (Value.slice (A j).1 l.length (A j).2).ownBlock ∨ (Value.slice a' (l.length + news.length) c').ownBlock = some w.heap.size) →
                      w2.ownsRow 0 e t2.size (.slice a' (l.length + news.length) c') (l.length + news.length) xs2 → t2.hs (Us U0 B A pb1 rw1) w (l ++ news) xs2 →
                      Nxt V U0 L al B A pb rw w a K q (a.put o.dst (.slice a' (l.length + news.length) c')) w2 := by
                    intro a' c' w2 xs2 hg hat' how hsw
                    have hbl : ∀ b, (Value.slice (A j).1 l.length (A j).2).ownBlock = some b ↔ blk B A pb1 rw1 true j b := by
                      intro b
                      constructor
                      · intro hb
                        cases hA : (A j).1 with
                        | none => rw [hA] at hb; simp [Value.ownBlock] at hb
                        | some ad => rw [hA] at hb; simp only [Value.ownBlock, Option.some.injEq] at hb; exact ⟨_, ad, hj, by simp, hA, hb⟩
                      · rintro ⟨r, ad, _, _, hA, rfl⟩; rw [hA]; rfl
                    obtain ⟨m2, s2, e2⟩ := m1.putRow (al := al) (j := j) (f := oneD j .junk) (rw' := rw1.set j (.own e t2 (l ++ news))) (e := e) (t := t2) (l := l ++ news) (a := a') (c := c') (w' := w2)
                      (by rw [List.getElem?_set, if_pos rfl, if_pos hjl]) (fun k hk => by rw [List.getElem?_set, if_neg (Ne.symm hk)])
                      (fun i p hp => by
                        unfold oneD at hp
                        split at hp
                        · rename_i hb; simp only [Option.some.injEq] at hp; exact ⟨Nat.eq_of_beq_eq_true hb, hp.symm⟩
                        · cases hp)
                      (fun hn => by simp [oneD] at hn) (fun hn => by simp [oneD] at hn) (grown_frame hg) (fun b hb hnb => hg.block b hb fun h => hnb ((hbl b).1 h.symm))
                      (fun x hx => by
                        subst hx
                        rcases hat' with h' | h'
                        · exact .inl ((hbl _).1 h'.symm)
                        · simp only [Value.ownBlock, Option.some.injEq] at h'
                          have := (how.lt x.block rfl).2
                          exact .inr ⟨by omega, this⟩)
                      (fun U' lt => ⟨xs2, by rw [List.length_append]; exact how, DT.hs_mono lt hsw⟩)
                    refine Nxt.more e1 rfl (Nxt.ret h m2 (hL_subL s2 _ hts1) ?_ e2)
                    simp only [DV.h]
                    have hset : (rw1.set j (DR.own e t2 (l ++ news)))[j]? = some (.own e t2 (l ++ news)) := by rw [List.getElem?_set, if_pos rfl, if_pos hjl]
                    exact ⟨e, t2, l ++ news, hset, by show _ = Value.slice (upd A j (a', c') j).1 _ (upd A j (a', c') j).2; rw [upd_same, List.length_append]⟩
                  rcases Nat.eq_zero_or_pos news.length with hn0 | hn0
                  · have hnil : news = [] := List.length_eq_zero_iff.1 hn0
                    have hrun := run_append_empty (P := P) (t := t) (ty := o.type) (n := l.length) (c := (A j).2) (c2 := c2) (a := (A j).1) (a2 := a2) hek (owns_cap ho1).1 w
                    refine wp_of_value (by rw [hrun0, hn0]; rw [hrun]; rfl) ?_
                    have := fin (A j).1 (A j).2 w xs1 ⟨rfl, rfl, rfl, Nat.le_refl _, fun _ _ _ => rfl⟩ (.inl (by rw [hn0]; rfl)) (by rw [hn0]; exact ho1) (by rw [hnil]; simpa using hs1)
                    rw [hn0] at this; exact this
                  · obtain ⟨ad, us, rfl, hul, hus, hcs⟩ := hs_src hp2 h0 hn0
                    obtain ⟨i, z, hi, hz', hzs1, hb, hzs⟩ := hek.info
                    obtain ⟨v', w2, hrun, ho2, hg, _, hat2⟩ := run_append_own_at (P := P) w 0 t o.type e i z te.size te.bytes hek.under hi hz' hzs1 hb hzs hek.pos (.slice (A j).1 l.length (A j).2) l.length xs1 (by rw [← hsz]; exact ho1) ad news.length c2 us (by rw [hul, hsz]) hcs
                      (fun u hu => (plainC_one (DT.hs_plain hus u hu)).2) (by rw [maxLen_eq]; omega) r2 (Nat.zero_le _)
                    obtain ⟨a', c', rfl⟩ : ∃ a' c', v' = .slice a' (l.length + news.length) c' := by
                      rcases ho2.2 with ⟨rfl, h'⟩ | ⟨g, cap, cur, rfl, _⟩
                      · exact ⟨none, 0, by rw [h']⟩
                      · exact ⟨_, _, rfl⟩
                    exact wp_of_value (by rw [hrun0, hrun]; rfl) (fin a' c' w2 _ hg hat2 (by rw [hsz]; exact ho2) (DT.hs_app hs1 hus))
                · cases h
              · cases h
            · rename_i h0
              have h0 := Nat.le_of_ble_eq_true h0
              split at h
              · rename_i hsz
                have hsz := Nat.eq_of_beq_eq_true hsz
                obtain ⟨r1, r2, h⟩ := room_s h
                simp only [DV.h] at hp1
                subst hp1
                have hek := elemOk_T hft htd hfe hz (by omega)
                rcases Nat.eq_zero_or_pos news.length with hn0 | hn0
                · have hnil : news = [] := List.length_eq_zero_iff.1 hn0
                  have hrun := run_append_empty (P := P) (t := t) (ty := o.type) (n := 0) (c := 0) (c2 := c2) (a := none) (a2 := a2) hek (Nat.le_refl _) w
                  rw [hn0] at hrun0
                  rw [hrun] at hrun0
                  subst hnil
                  have := op_pushRow (P := P) (Q := Q) (al := al) (e := e) (t := t2) (l := []) (a' := none) (c := 0) (xs := []) m1 hts1 (w' := w) hrun0 ⟨rfl, rfl, rfl, Nat.le_refl _⟩ (fun _ _ => rfl) (fun x hx => by cases hx) (World.ownsRow_nil w 0 e t2.size) DT.hs_nil h
                  exact wp_mono0 this fun a' w' hn => Nxt.more e1 rfl hn
                · obtain ⟨ad, us, rfl, hul, hus, hcs⟩ := hs_src hp2 h0 hn0
                  obtain ⟨i, z, hi, hz', hzs1, hb, hzs⟩ := hek.info
                  obtain ⟨v', w2, hrun, ho2, hg, _, hat2⟩ := run_append_own_at (P := P) w 0 t o.type e i z te.size te.bytes hek.under hi hz' hzs1 hb hzs hek.pos (.slice none 0 0) 0 [] (World.ownsRow_nil w 0 e te.size) ad news.length c2 us (by rw [hul, hsz]) hcs
                    (fun u hu => (plainC_one (DT.hs_plain hus u hu)).2) (by rw [maxLen_eq]; omega) (by rw [Nat.zero_add]; exact r2) (Nat.zero_le _)
                  obtain ⟨a', c', rfl⟩ : ∃ a' c', v' = .slice a' (0 + news.length) c' := by
                    rcases ho2.2 with ⟨rfl, h'⟩ | ⟨g, cap, cur, rfl, _⟩
                    · exact ⟨none, 0, by rw [h']⟩
                    · exact ⟨_, _, rfl⟩
                  rw [Nat.zero_add] at hrun ho2 hat2
                  rw [hrun] at hrun0
                  have := op_pushRow (P := P) (Q := Q) (al := al) (e := e) (t := t2) (l := news) (a' := a') (c := c') (xs := us) m1 hts1 (w' := w2) hrun0 (grown_frame hg) (fun b hb => hg.block b hb (by simp [Value.ownBlock])) (fun x hx => by
                    subst hx
                    have := (ho2.lt x.block rfl).2
                    rcases hat2 with h' | h'
                    · simp [Value.ownBlock] at h'
                    · simp only [Value.ownBlock, Option.some.injEq] at h'; omega) (by rw [hsz]; simpa using ho2) hus h
                  exact wp_mono0 this fun a' w' hn => Nxt.more e1 rfl hn
              · cases h
            · rename_i t1 l h0
              have h0 := Nat.le_of_ble_eq_true h0
              split at h
              · rename_i hh y ys hsz hsame _
                have hsz := Nat.eq_of_beq_eq_true hsz
                subst hh
                obtain ⟨r1, r2, h⟩ := room_s h
                simp only [DV.h] at hp1
                obtain ⟨hp1, aa, ev1⟩ := hp1
                subst ev1
                have hek := elemOk_T hft htd hfe hz (by omega)
                have hn0 : 0 < (y :: ys).length := by simp
                obtain ⟨i, z, hi, hz', hzs1, hb, hzs⟩ := hek.info
                obtain ⟨ad, vs, rfl, hvl, hvs, hcv⟩ := hs_src hp2 h0 hn0
                obtain ⟨us, hul, hus, hold⟩ : ∃ us : List Value, us.length = l.length * t2.size ∧ t2.hs (Us U0 B A pb1 rw1) w l us ∧ (Builtin.firstCells i.size l.length (.slice aa l.length l.length)).run P w.drew = .ok us.toArray w.drew := by
                  rcases Nat.eq_zero_or_pos l.length with hl0 | hl0
                  · have hnil := List.length_eq_zero_iff.1 hl0
                    subst hnil
                    refine ⟨[], by simp, DT.hs_nil, ?_⟩
                    cases aa with
                    | none => exact run_firstCells_none w.drew _ _ _ _
                    | some b => exact run_firstCells_some w.drew _ _ b _ _ [] (by simp) (fun j v hj => by simp at hj)
                  · obtain ⟨ad2, us, rfl, hul, hus, hcs⟩ := hs_src hp1 h0 hl0
                    exact ⟨us, hul, hus, run_firstCells_some w.drew _ _ ad2 _ _ us (by rw [hul, hsz, hzs1]) (fun j v hj => hcs j v hj)⟩
                have hsrc : Src P i.size t (.slice (some ad) (y :: ys).length c2) (y :: ys).length vs w := by
                  rw [hzs1, ← hsz]
                  exact Src.ofSlice w hek.under ad (y :: ys).length c2 vs hvl hcv (fun u hu => (plainC_one (DT.hs_plain hvs u hu)).2)
                have hrun := run_append_grow_src (P := P) w t t o.type e i z hek.under hi hz' aa l.length l.length us hold (.slice (some ad) (y :: ys).length c2) (y :: ys).length vs hsrc (by omega) (by omega) (by rw [hb]; exact growslice_fits (by omega) r2)
                rw [hrun] at hrun0
                have hC := grownCap_ge w (l.length + (y :: ys).length) l.length e
                have hC2 := grownCap_le_maxLen w (l.length + (y :: ys).length) l.length e (by rw [maxLen_eq]; omega)
                generalize grownCap w (l.length + (y :: ys).length) l.length e = C at *
                rw [← List.length_append] at hrun0
                have hal : (us ++ vs).length = (l ++ (y :: ys)).length * t2.size := by rw [List.length_append, List.length_append, hul, hvl, Nat.add_mul]
                have := op_pushRow (P := P) (Q := Q) (al := al) (e := e) (t := t2) (l := l ++ (y :: ys)) (a' := some ⟨w.heap.size, 0, none⟩) (c := C) (xs := us ++ vs) m1 hts1 hrun0 ⟨rfl, rfl, rfl, by simp⟩ (fun b hb => heap_alloc_old w.drew _ hb)
                  (fun x hx => by simp only [Option.some.injEq] at hx; subst hx; exact ⟨Nat.le_refl _, by simp⟩)
                  ⟨hal, .inr ⟨w.heap.size, C, _, rfl, Nat.zero_le _, heap_alloc_new w.drew _, by rw [List.length_append]; exact hC, hC2, by
                    rw [Array.size_append, size_zeroCells, hzs, List.size_toArray, hal, hsz, List.length_append, ← Nat.add_mul]
                    congr 1; omega, by
                    rw [Array.toList_append, List.toList_toArray, ← hal, List.take_left']
                    rfl⟩⟩ (DT.hs_app hus hvs) h
                exact wp_mono0 this fun a' w' hn => Nxt.more e1 rfl hn
              · cases h
            · cases h
          · cases h
        · cases h
      · cases h
    · cases h
  · cases h
end
end Go.Vc
