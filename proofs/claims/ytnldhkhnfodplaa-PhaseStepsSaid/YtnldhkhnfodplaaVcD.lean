import Derived.Test.YtnldhkhnfodplaaVcC
namespace Go.Vc
open Go

/-! ### Memory -/

/-- a value of one cell -/
def oneC : Value → Bool
  | .agg _ => false
  | .tuple _ => false
  | _ => true


/-- 'vs' written over 'xs' from 'off' on -/
def wr {α : Type} : List α → Nat → List α → List α
  | xs, _, [] => xs
  | xs, off, v :: vs => wr (xs.set off v) (off + 1) vs

theorem wr_length {α : Type} (xs : List α) (off : Nat) (vs : List α) : (wr xs off vs).length = xs.length := by
  induction vs generalizing xs off with
  | nil => rfl
  | cons v vs ih => simp [wr, ih]

theorem denL_set (xs : List XV) (n : Nat) (x : XV) : denL (xs.set n x) = (denL xs).set n x.den := by
  induction xs generalizing n with
  | nil => simp [denL]
  | cons y xs ih => cases n <;> simp [denL, ih]
theorem denL_wr (xs : List XV) (off : Nat) (vs : List XV) : denL (wr xs off vs) = wr (denL xs) off (denL vs) := by
  induction vs generalizing xs off with
  | nil => simp [wr, denL]
  | cons v vs ih => simp [wr, denL, ih, denL_set]
theorem wfL_set {bs : List Nat} {xs : List XV} {x : XV} (n : Nat) (h : wfL bs xs) (hx : x.wf bs) : wfL bs (xs.set n x) := by
  rw [wfL_iff] at *
  intro y hy
  rcases List.mem_or_eq_of_mem_set hy with h' | rfl
  · exact h y h'
  · exact hx
theorem wfL_wr {bs : List Nat} {xs vs : List XV} (off : Nat) (h : wfL bs xs) (hv : wfL bs vs) : wfL bs (wr xs off vs) := by
  induction vs generalizing xs off with
  | nil => exact h
  | cons v vs ih => exact ih (off + 1) (wfL_set off h hv.1) hv.2

def wrK : List XV → Nat → List XV → (List XV → Prop) → Prop
  | xs, _, [], K => K xs
  | xs, off, v :: vs, K => setK xs off v fun l => wrK l (off + 1) vs K
theorem wrK_iff (xs : List XV) (off : Nat) (vs : List XV) (K : List XV → Prop) : wrK xs off vs K ↔ K (wr xs off vs) := by
  induction vs generalizing xs off with
  | nil => rfl
  | cons v vs ih => simp [wrK, setK_iff, ih, wr]

theorem denL_length (xs : List XV) : (denL xs).length = xs.length := by rw [denL_map]; simp
theorem denL_append (xs ys : List XV) : denL (xs ++ ys) = denL xs ++ denL ys := by simp [denL_map]
theorem wfL_append {bs : List Nat} {xs ys : List XV} (h : wfL bs xs) (h' : wfL bs ys) : wfL bs (xs ++ ys) := by
  rw [wfL_iff] at *
  intro x hx
  rcases List.mem_append.1 hx with h1 | h1
  · exact h x h1
  · exact h' x h1

/-- The world with 'vs' stored from 'a' + 'i' on. -/
def setCells (w : World) (a : Addr) : Nat → List Value → World
  | _, [] => w
  | i, v :: vs => setCells (w.setCell (a.add i) v) a (i + 1) vs

theorem heap_setCell_ne (w : World) (a : Addr) (v : Value) (b : Nat) (h : b ≠ a.block) : (w.setCell a v).heap[b]? = w.heap[b]? := RowKit.Below.heap_setCell w a v b h
theorem heap_setCell_eq {w : World} {b o : Nat} {arr : Array Value} {t : TypeId} {fr : Nat × Nat} (v : Value) (h : w.heap[b]? = some (.cells arr t fr)) :
    (w.setCell ⟨b, o, none⟩ v).heap[b]? = some (.cells (arr.setIfInBounds o v) t fr) := by
  simp [World.setCell, Array.getElem?_modify, h]

theorem add_block (a : Addr) (n : Nat) : (a.add n).block = a.block := by unfold Addr.add; split <;> rfl
theorem add_own (b o n : Nat) : (⟨b, o, none⟩ : Addr).add n = ⟨b, o + n, none⟩ := by unfold Addr.add; split <;> simp_all

theorem setCells_ne (a : Addr) (b : Nat) (h : b ≠ a.block) : ∀ (vs : List Value) (i : Nat) (w : World), (setCells w a i vs).heap[b]? = w.heap[b]?
  | [], _, _ => rfl
  | v :: vs, i, w => by
    simp only [setCells]
    rw [setCells_ne a b h vs, heap_setCell_ne _ _ _ _ (by rw [add_block]; exact h)]

theorem setCells_eq (b o : Nat) {t : TypeId} {fr : Nat × Nat} : ∀ (vs : List Value) (i : Nat) (w : World) (xs : List Value), w.heap[b]? = some (.cells xs.toArray t fr) →
    (setCells w ⟨b, o, none⟩ i vs).heap[b]? = some (.cells (wr xs (o + i) vs).toArray t fr)
  | [], _, w, xs, h => by simpa [setCells, wr] using h
  | v :: vs, i, w, xs, h => by
    simp only [setCells, wr, add_own]
    have h1 := heap_setCell_eq (o := o + i) v h
    simp only [List.setIfInBounds_toArray] at h1
    have := setCells_eq b o vs (i + 1) _ _ h1
    rw [show o + i + 1 = o + (i + 1) by omega]
    exact this

theorem setCells_rest (a : Addr) : ∀ (vs : List Value) (i : Nat) (w : World), (setCells w a i vs).os = w.os ∧ (setCells w a i vs).tape = w.tape ∧ (setCells w a i vs).output = w.output ∧ (setCells w a i vs).heap.size = w.heap.size ∧ (setCells w a i vs).drawn = w.drawn
  | [], _, _ => ⟨rfl, rfl, rfl, rfl, rfl⟩
  | v :: vs, i, w => by
    have := setCells_rest a vs (i + 1) (w.setCell (a.add i) v)
    simp only [setCells]
    refine ⟨this.1, this.2.1, this.2.2.1, ?_, this.2.2.2.2⟩
    rw [this.2.2.2.1]; simp

theorem isSome_setCell {w : World} {a b : Addr} (v : Value) (h : (w.cell? b).isSome = true) : ((w.setCell a v).cell? b).isSome = true := by
  by_cases hab : a = b
  · subst hab
    obtain ⟨u, hu⟩ := Option.isSome_iff_exists.1 h
    rw [World.cell?_setCell_same w a v hu]; rfl
  · rw [World.cell?_setCell_other w a b v hab]; exact h

theorem run_store1 {P : Program} (w : World) (a : Addr) (v : Value) (hv : oneC v = true) (hc : (w.cell? a).isSome = true) (hf : w.frozen? a = false) :
    (store a v).run P w = .ok () (w.setCell a v) := by
  obtain ⟨u, hu⟩ := Option.isSome_iff_exists.1 hc
  unfold store
  cases v <;> simp_all [Sem.run, oneC]

theorem run_storeCells {P : Program} (a : Addr) : ∀ (vs : List Value) (i : Nat) (w : World), (∀ v ∈ vs, oneC v = true) → (∀ j, j < vs.length → (w.cell? (a.add (i + j))).isSome = true ∧ w.frozen? (a.add (i + j)) = false) →
    (storeCells a vs i).run P w = .ok () (setCells w a i vs)
  | [], _, _, _, _ => by simp [storeCells, setCells]
  | v :: vs, i, w, hv, hc => by
    have h0 := hc 0 (by simp)
    simp only [Nat.add_zero] at h0
    simp only [storeCells, Sem.run_bind, run_store1 w _ v (hv v (by simp)) h0.1 h0.2, Result.andThen_ok, setCells]
    refine run_storeCells a vs (i + 1) _ (fun u hu => hv u (by simp [hu])) fun j hj => ?_
    have := hc (j + 1) (by simp; omega)
    rw [show i + 1 + j = i + (j + 1) by omega]
    exact ⟨isSome_setCell v this.1, by rw [World.frozen?_setCell]; exact this.2⟩

theorem cell_of_block {w : World} {b : Nat} {xs : List Value} {t : TypeId} {fr : Nat × Nat} (h : w.heap[b]? = some (.cells xs.toArray t fr)) (o : Nat) : w.cell? ⟨b, o, none⟩ = xs[o]? := by
  simp [World.cell?, h]
theorem frozen_of_block {w : World} {b : Nat} {xs : List Value} {t : TypeId} (h : w.heap[b]? = some (.cells xs.toArray t (0, 0))) (o : Nat) : w.frozen? ⟨b, o, none⟩ = false := by
  simp [World.frozen?, h]

/-- values of one cell each -/
def oneK : List XV → Prop → Prop
  | [], K => K
  | .v x :: xs, K => oneC x = true ∧ oneK xs K
  | .agg _ :: _, _ => False
  | .tup _ :: _, _ => False
  | .und :: _, _ => False
  | .junk :: _, _ => False
  | _ :: xs, K => oneK xs K
theorem oneK_spec {xs : List XV} {K : Prop} (h : oneK xs K) : K ∧ ∀ v ∈ denL xs, oneC v = true := by
  induction xs with
  | nil => exact ⟨h, by simp [denL]⟩
  | cons x xs ih =>
    cases x <;> simp only [oneK] at h <;> first
      | exact h.elim
      | (obtain ⟨h1, h2⟩ := ih h; exact ⟨h1, by simpa [denL, XV.den, oneC] using h2⟩)
      | (obtain ⟨h1, h2⟩ := ih h.2; exact ⟨h1, by simpa [denL, XV.den, h.1] using h2⟩)

/-- a value's cells -/
def cellsK (x : XV) (K : List XV → Prop) : Prop :=
  match x with
  | .agg xs => K xs
  | .v y => oneC y = true ∧ K [.v y]
  | .tup _ => False
  | .und => False
  | .junk => False
  | x => K [x]
theorem cellsK_spec {x : XV} {K : List XV → Prop} {bs : List Nat} (h : cellsK x K) (hw : x.wf bs) : ∃ xs, K xs ∧ wfL bs xs ∧ x.den.cells.toList = denL xs := by
  unfold cellsK at h
  split at h
  · exact ⟨_, h, hw, by simp [XV.den, Value.cells]⟩
  · rename_i y
    refine ⟨_, h.2, by simp [wfL, XV.wf], ?_⟩
    have := h.1
    cases y <;> simp_all [XV.den, Value.cells, denL, oneC]
  · exact h.elim
  · exact h.elim
  · exact h.elim
  · refine ⟨_, h, ⟨hw, by simp [wfL]⟩, ?_⟩
    cases x <;> simp_all [XV.den, Value.cells, denL]

def constL : List Value → List XV
  | [] => []
  | x :: xs => ofConst x :: constL xs
theorem denL_constL (xs : List Value) : denL (constL xs) = xs := by
  induction xs with
  | nil => rfl
  | cons x xs ih => simp [constL, denL, den_ofConst, ih]
theorem wfL_constL (bs : List Nat) (xs : List Value) : wfL bs (constL xs) := by
  induction xs with
  | nil => simp [constL, wfL]
  | cons x xs ih => simp [constL, wfL, wf_ofConst, ih]

/-- the first n of xs behind off, none if they are too few -/
def subK : List XV → Nat → Nat → (List XV → Prop) → Prop
  | x :: xs, o + 1, n, K => subK xs o n K
  | _, 0, 0, K => K []
  | x :: xs, 0, n + 1, K => subK xs 0 n fun l => K (x :: l)
  | [], _, _, _ => False
theorem subK_spec : ∀ (xs : List XV) (o n : Nat) (K : List XV → Prop), subK xs o n K → K ((xs.drop o).take n) ∧ o + n ≤ xs.length := by
  intro xs
  induction xs with
  | nil =>
    intro o n K h
    cases o with
    | zero => cases n with
      | zero => simp [subK] at h; simpa using h
      | succ n => simp [subK] at h
    | succ o => cases n <;> simp [subK] at h
  | cons x xs ih =>
    intro o n K h
    cases o with
    | zero => cases n with
      | zero => simp [subK] at h; simpa using h
      | succ n =>
        simp only [subK] at h
        have := ih 0 n _ h
        simpa using this
    | succ o =>
      simp only [subK] at h
      have := ih o n K h
      simp only [List.drop_succ_cons, List.length_cons]
      exact ⟨this.1, by omega⟩

theorem wfL_sub {bs : List Nat} {xs : List XV} (h : wfL bs xs) (o n : Nat) : wfL bs ((xs.drop o).take n) := by
  rw [wfL_iff] at *
  exact fun x hx => h x (List.mem_of_mem_drop (List.mem_of_mem_take hx))
theorem denL_sub (xs : List XV) (o n : Nat) : denL ((xs.drop o).take n) = ((denL xs).drop o).take n := by simp [denL_map, List.map_drop, List.map_take]

/-- box number i -/
def boxK : List Box → Nat → (Box → Prop) → Prop
  | [], _, _ => False
  | x :: _, 0, K => K x
  | _ :: xs, n + 1, K => boxK xs n K
theorem boxK_spec {bx : List Box} {i : Nat} {K : Box → Prop} (h : boxK bx i K) : ∃ x, bx[i]? = some x ∧ K x := by
  induction bx generalizing i with
  | nil => exact h.elim
  | cons x bx ih =>
    cases i with
    | zero => exact ⟨x, rfl, h⟩
    | succ i => simpa using ih h
/-- box number i with other cells -/
def setBoxK : List Box → Nat → List XV → (List Box → Prop) → Prop
  | [], _, _, K => K []
  | ⟨b, t, _⟩ :: xs, 0, cs, K => K (⟨b, t, cs⟩ :: xs)
  | x :: xs, n + 1, cs, K => setBoxK xs n cs fun l => K (x :: l)
def setBox : List Box → Nat → List XV → List Box
  | [], _, _ => []
  | ⟨b, t, _⟩ :: xs, 0, cs => ⟨b, t, cs⟩ :: xs
  | x :: xs, n + 1, cs => x :: setBox xs n cs
theorem setBoxK_iff (bx : List Box) (i : Nat) (cs : List XV) (K : List Box → Prop) : setBoxK bx i cs K ↔ K (setBox bx i cs) := by
  induction bx generalizing i K with
  | nil => simp [setBoxK, setBox]
  | cons x bx ih => cases i <;> simp [setBoxK, setBox, ih]
theorem blks_setBox (bx : List Box) (i : Nat) (cs : List XV) : blks (setBox bx i cs) = blks bx := by
  induction bx generalizing i with
  | nil => rfl
  | cons x bx ih =>
    cases i with
    | zero => simp [setBox, blks]
    | succ i => have := ih i; simp only [blks] at this; simp [setBox, blks, this]
theorem mem_setBox {bx : List Box} {i : Nat} {cs : List XV} {y : Box} (h : y ∈ setBox bx i cs) : (∃ x, bx[i]? = some x ∧ y = { x with cells := cs }) ∨ (y ∈ bx ∧ ∃ j, j ≠ i ∧ bx[j]? = some y) := by
  induction bx generalizing i with
  | nil => simp [setBox] at h
  | cons x bx ih =>
    cases i with
    | zero =>
      simp only [setBox, List.mem_cons] at h
      rcases h with rfl | h
      · exact .inl ⟨x, rfl, rfl⟩
      · obtain ⟨j, hj, he⟩ := List.mem_iff_getElem.1 h
        exact .inr ⟨by simp [h], j + 1, by omega, by simp [hj, he]⟩
    | succ i =>
      simp only [setBox, List.mem_cons] at h
      rcases h with rfl | h
      · exact .inr ⟨by simp, 0, by omega, by simp⟩
      · rcases ih h with ⟨z, h1, h2⟩ | ⟨h1, j, h2, h3⟩
        · exact .inl ⟨z, by simpa using h1, h2⟩
        · exact .inr ⟨by simp [h1], j + 1, by omega, by simpa using h3⟩

theorem blk_ne {bx : List Box} (hn : (blks bx).Nodup) {i j : Nat} {x y : Box} (hx : bx[i]? = some x) (hy : bx[j]? = some y) (hij : j ≠ i) : y.blk ≠ x.blk := by
  intro h
  have h1 : (blks bx)[i]? = some x.blk := by simp [blks, hx]
  have h2 : (blks bx)[j]? = some y.blk := by simp [blks, hy]
  have hi : i < (blks bx).length := by
    rcases Nat.lt_or_ge i (blks bx).length with h' | h'
    · exact h'
    · simp [List.getElem?_eq_none h'] at h1
  exact hij ((List.getElem?_inj hi hn).1 (by rw [h1, h2, h])).symm

/-- No box is block 'b'. -/
def notBox : List Box → Nat → Prop
  | [], _ => True
  | x :: xs, b => b ≠ x.blk ∧ notBox xs b
theorem notBox_iff {bx : List Box} {b : Nat} : notBox bx b ↔ b ∉ blks bx := by
  induction bx with
  | nil => simp [notBox, blks]
  | cons x bx ih => simp only [notBox, blks] at *; simp [ih]

def cellsAt (W : World) (a : Addr) : Nat → List Value → Prop
  | _, [] => True
  | i, c :: cs => W.cell? (a.add i) = some c ∧ cellsAt W a (i + 1) cs
theorem cellsAt_get {W : World} {a : Addr} : ∀ (cs : List Value) (i : Nat), cellsAt W a i cs → ∀ j v, cs[j]? = some v → W.cell? (a.add (i + j)) = some v
  | c :: cs, i, h, 0, v, hv => by simp at hv; subst hv; exact h.1
  | c :: cs, i, h, j + 1, v, hv => by
    have := cellsAt_get cs (i + 1) h.2 j v (by simpa using hv)
    rwa [show i + 1 + j = i + (j + 1) by omega] at this

theorem Sync.cell {bx : List Box} {W w : World} (h : Sync bx W w) {a : Addr} {v : Value} (hc : W.cell? a = some v) (hn : a.block ∉ blks bx) : w.cell? a = some v := by
  rw [← hc]
  exact World.cell?_of_block (h.same _ (World.block_lt_of_cell? W a hc) hn)
theorem Sync.frozen {bx : List Box} {W w : World} (h : Sync bx W w) {a : Addr} {v : Value} (hc : W.cell? a = some v) (hn : a.block ∉ blks bx) : w.frozen? a = W.frozen? a :=
  World.frozen?_of_block (h.same _ (World.block_lt_of_cell? W a hc) hn)

theorem Sync.blk_lt {bx : List Box} {W w : World} (h : Sync bx W w) {x : Box} (hx : x ∈ bx) : x.blk < w.heap.size := by
  have := h.own x hx
  rcases Nat.lt_or_ge x.blk w.heap.size with h' | h'
  · exact h'
  · simp [Array.getElem?_eq_none h'] at this
end Go.Vc
