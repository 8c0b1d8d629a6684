import Derived.Test.YtnldhkhnfodplaaVcK
import Derived.Deep.LoopGhost
namespace Go.Vc
open Go

def wfLL (bs : List Nat) : List (List XV) → Prop
  | [] => True
  | x :: xs => wfL bs x ∧ wfLL bs xs
theorem wfLL_mem {bs : List Nat} {xs : List (List XV)} (h : wfLL bs xs) : ∀ x ∈ xs, wfL bs x := by
  induction xs with
  | nil => simp
  | cons x xs ih =>
    intro y hy
    rcases List.mem_cons.1 hy with rfl | hy
    · exact h.1
    · exact ih h.2 y hy

/-- Regions that draw their order: laid elsewhere. -/
abbrev DrawK := Nat → Array Oper → List XV → List Box → World → KT → Prop

def vc (P : Program) (T : List TI) (A : Anns) (D : DrawK) : Code → QX → List XV → List Box → World → Prop
  | .skip, Q, ts, bx, W => Q .normal ts bx W
  | .label _, Q, ts, bx, W => Q .normal ts bx W
  | .exit id, Q, ts, bx, W => Q (.exit id) ts bx W
  | .ret, Q, ts, bx, W => Q .ret ts bx W
  | .seq x y, Q, ts, bx, W => vc P T A D x (fun e ts bx W => match e with
    | .normal => vc P T A D y Q ts bx W
    | .exit i => Q (.exit i) ts bx W
    | .ret => Q .ret ts bx W
    | _ => False) ts bx W
  | .cond c x y, Q, ts, bx, W => opK ts c fun c => match c with
    | .lit true => vc P T A D x Q ts bx W
    | .lit false => vc P T A D y Q ts bx W
    | .bool b => (b = true → vc P T A D x Q ts bx W) ∧ (b = false → vc P T A D y Q ts bx W)
    | _ => False
  | .block id x, Q, ts, bx, W => vc P T A D x (fun e ts bx W => match e with
    | .normal => Q .normal ts bx W
    | .exit i => match Nat.beq i id with | true => Q .normal ts bx W | false => Q (.exit i) ts bx W
    | .ret => Q .ret ts bx W
    | _ => False) ts bx W
  | .scope x, Q, ts, bx, W => vc P T A D x Q ts bx W
  | .region id ops draw, Q, ts, bx, W => match draw with
    | false => vcList P T ops.toList ops.toList ts bx W (Q .normal)
    | true => D id ops ts bx W (Q .normal)
  | .loop x, Q, ts, bx, W => annK A (codeKey x) fun wr l =>
    (∀ x, wfLL (blks bx) (l.vals x :: l.cells x)) ∧ (∀ w, Sync bx W w → ∃ x0, eqSl ts l.slots (l.vals x0) (setBoxesK bx l.boxes (l.cells x0) fun hb => eqBx bx hb (l.inv x0 w))) ∧
    ∀ x0 w0, l.inv x0 w0 → junkK ts 0 wr fun ts => setsK ts l.slots (l.vals x0) fun ts => setBoxesK bx l.boxes (l.cells x0) fun hb =>
      vc P T A D x (fun e ts' bx' W' => match e with
        | .normal => ∀ w, Sync bx' W' w → ∃ x1, eqSl ts' l.slots (l.vals x1) (setBoxesK bx l.boxes (l.cells x1) fun hb => eqBx bx' hb (l.inv x1 w ∧ l.μ x1 < l.μ x0))
        | .exit i => Q (.exit i) ts' bx' W'
        | .ret => Q .ret ts' bx' W'
        | _ => False) ts hb w0
  | _, _, _, _, _ => False

/-- what an exit leaves -/
def QPost (wr : List Nat) (a : Act) (Q : QX) : Exit → Act → World → Prop
  | .normal, a', w' => Post (Q .normal) a' w' ∧ SameOut wr a a'
  | .exit i, a', w' => Post (Q (.exit i)) a' w' ∧ SameOut wr a a'
  | .ret, a', w' => Post (Q .ret) a' w' ∧ SameOut wr a a'
  | _, _, _ => False

theorem QPost.mono {wr wr' : List Nat} {a b : Act} {Q : QX} {e : Exit} {a' : Act} {w' : World} (h : QPost wr b Q e a' w') (hs : ∀ i ∈ wr, i ∈ wr') (hab : SameOut wr' a b) : QPost wr' a Q e a' w' := by
  cases e <;> simp only [QPost] at * <;> first | exact h.elim | exact ⟨h.1, hab.trans (h.2.mono hs)⟩

/-- what the executor of drawn regions must keep -/
def DrawOk (P : Program) (D : DrawK) : Prop :=
  ∀ (id : Nat) (ops : Array Oper) (ts : List XV) (bx : List Box) (a : Act) (w W : World) (K : KT), D id ops ts bx W K → Inv ts bx a w W →
    (Code.region id ops true).wp P (fun e a' w' => match e with | .normal => Post K a' w' ∧ SameOut (dsts ops.toList) a a' | _ => False) a w

theorem Rel_iff {bs : List Nat} : {xs : List XV} → {vs : List Value} → (Rel bs xs vs ↔ xs.length = vs.length ∧ ∀ (k : Nat) (x : XV), xs[k]? = some x → x = .junk ∨ (vs[k]? = some x.den ∧ x.wf bs))
  | [], [] => by simp [Rel]
  | [], _ :: _ => by simp [Rel]
  | _ :: _, [] => by simp [Rel]
  | x :: xs, v :: vs => by
    simp only [Rel, Rel_iff (xs := xs) (vs := vs), List.length_cons, Nat.add_right_cancel_iff]
    constructor
    · rintro ⟨h0, hl, h⟩
      refine ⟨hl, fun k y hy => ?_⟩
      cases k with
      | zero => simp at hy; subst hy; simpa using h0
      | succ k => simpa using h k y (by simpa using hy)
    · rintro ⟨hl, h⟩
      exact ⟨by simpa using h 0 x (by simp), hl, fun k y hy => by simpa using h (k + 1) y (by simpa using hy)⟩

theorem junkK_spec : ∀ (ts : List XV) (i : Nat) (wr : List Nat) (K : List XV → Prop), junkK ts i wr K →
    ∃ l, K l ∧ l.length = ts.length ∧ ∀ (k : Nat) (x : XV), l[k]? = some x → x = .junk ∨ (ts[k]? = some x ∧ i + k ∉ wr)
  | [], i, [], K, h => ⟨[], h, rfl, by simp⟩
  | [], i, _ :: _, K, h => h.elim
  | x :: xs, i, [], K, h => by
    obtain ⟨l, h1, h2, h3⟩ := junkK_spec xs i [] _ h
    refine ⟨x :: l, h1, by simp [h2], fun k y hy => ?_⟩
    cases k with
    | zero => simp at hy; subst hy; exact .inr ⟨by simp, by simp⟩
    | succ k => rcases h3 k y (by simpa using hy) with h | h
                · exact .inl h
                · exact .inr ⟨by simpa using h.1, by simp⟩
  | x :: xs, i, j :: js, K, h => by
    simp only [junkK] at h
    split at h
    · rename_i hij
      have hij := Nat.eq_of_beq_eq_true hij
      subst hij
      obtain ⟨l, h1, h2, h3⟩ := junkK_spec xs (i + 1) js _ h
      refine ⟨.junk :: l, h1, by simp [h2], fun k y hy => ?_⟩
      cases k with
      | zero => simp at hy; exact .inl hy.symm
      | succ k => rcases h3 k y (by simpa using hy) with h | h
                  · exact .inl h
                  · refine .inr ⟨by simpa using h.1, ?_⟩
                    have := h.2
                    simp only [List.mem_cons, not_or]
                    exact ⟨by omega, by rwa [show i + (k + 1) = i + 1 + k by omega]⟩
    · rename_i hij
      have hij := Nat.ne_of_beq_eq_false hij
      obtain ⟨l, h1, h2, h3⟩ := junkK_spec xs (i + 1) (j :: js) _ h
      refine ⟨x :: l, h1, by simp [h2], fun k y hy => ?_⟩
      cases k with
      | zero =>
        -- slot i itself: it is no slot of the list, for the list is met in order
        simp at hy; subst hy
        refine .inr ⟨by simp, ?_⟩
        have key : ∀ (ts : List XV) (i : Nat) (wr : List Nat) (K : List XV → Prop), junkK ts i wr K → wr = [] ∨ ∀ m ∈ wr, i ≤ m := by
          intro ts
          induction ts with
          | nil => intro i wr K h; cases wr with
            | nil => exact .inl rfl
            | cons _ _ => exact h.elim
          | cons t ts ih =>
            intro i wr K h
            cases wr with
            | nil => exact .inl rfl
            | cons n ns =>
              refine .inr ?_
              simp only [junkK] at h
              split at h
              · rename_i hn
                have hn := Nat.eq_of_beq_eq_true hn
                subst hn
                intro m hm
                rcases List.mem_cons.1 hm with rfl | hm
                · exact Nat.le_refl _
                · rcases ih _ _ _ h with h' | h'
                  · subst h'; cases hm
                  · have := h' m hm; omega
              · intro m hm
                rcases ih _ _ _ h with h' | h'
                · cases h'
                · have := h' m hm; omega
        rcases key _ _ _ _ h with h' | h'
        · cases h'
        · intro hm; have := h' _ hm; omega
      | succ k => rcases h3 k y (by simpa using hy) with h | h
                  · exact .inl h
                  · exact .inr ⟨by simpa using h.1, by rw [show i + (k + 1) = i + 1 + k by omega]; exact h.2⟩

def setsL : List XV → List Nat → List XV → List XV
  | ts, s :: ss, v :: vs => setsL (ts.set s v) ss vs
  | ts, _, _ => ts
theorem setsK_spec : ∀ (ss : List Nat) (vs : List XV) (ts : List XV) (K : List XV → Prop), setsK ts ss vs K → K (setsL ts ss vs)
  | [], [], ts, K, h => h
  | s :: ss, v :: vs, ts, K, h => by
    simp only [setsK, setK_iff] at h
    exact setsK_spec ss vs _ K h
  | [], _ :: _, _, _, h => h.elim
  | _ :: _, [], _, _, h => h.elim

def setBoxesL : List Box → List Nat → List (List XV) → List Box
  | bx, i :: is, c :: cs => setBoxesL (setBox bx i c) is cs
  | bx, _, _ => bx
theorem setBoxesK_spec : ∀ (is : List Nat) (cs : List (List XV)) (bx : List Box) (K : List Box → Prop), setBoxesK bx is cs K → K (setBoxesL bx is cs)
  | [], [], bx, K, h => h
  | i :: is, c :: cs, bx, K, h => by
    simp only [setBoxesK, setBoxK_iff] at h
    exact setBoxesK_spec is cs _ K h
  | [], _ :: _, _, _, h => h.elim
  | _ :: _, [], _, _, h => h.elim
theorem blks_setBoxesL : ∀ (is : List Nat) (cs : List (List XV)) (bx : List Box), blks (setBoxesL bx is cs) = blks bx
  | i :: is, c :: cs, bx => by simp only [setBoxesL]; rw [blks_setBoxesL is cs, blks_setBox]
  | [], _, bx => by cases bx <;> rfl
  | _ :: _, [], bx => by simp [setBoxesL]

theorem eqSl_spec {bs : List Nat} {vs : List Value} : ∀ (ss : List Nat) (ys : List XV) (ts : List XV) (K : Prop), eqSl ts ss ys K → Rel bs ts vs →
    K ∧ ∀ bs2 l, wfL bs2 ys → Rel bs2 l vs → Rel bs2 (setsL l ss ys) vs
  | [], [], ts, K, h, _ => ⟨h, fun bs2 l _ hl => hl⟩
  | s :: ss, y :: ys, ts, K, h, hr => by
    obtain ⟨x, hx1, hw, hx⟩ := getK_spec h hr
    obtain ⟨rfl, h'⟩ := hx1
    obtain ⟨h1, h2⟩ := eqSl_spec ss ys ts K h' hr
    refine ⟨h1, fun bs2 l hw2 hl => h2 bs2 _ hw2.2 ?_⟩
    have h3 := hl.set s hw2.1
    have : vs.set s x.den = vs := by
      apply List.ext_getElem?
      intro i
      rw [List.getElem?_set]
      split
      · rename_i hs
        subst hs
        split
        · rename_i hlt; rw [← hx]; simp [hlt]
        · rename_i hlt; simp [Nat.le_of_not_lt hlt]
      · rfl
    rwa [this] at h3
  | [], _ :: _, _, _, h, _ => h.elim
  | _ :: _, [], _, _, h, _ => h.elim

theorem eqBx_spec : ∀ (hb bx : List Box) (K : Prop), eqBx bx hb K → K ∧ ∃ ex, bx = hb ++ ex
  | [], bx, K, h => by cases bx <;> exact ⟨h, _, rfl⟩
  | y :: ys, x :: xs, K, h => by
    obtain ⟨rfl, h⟩ := h
    obtain ⟨h1, ex, rfl⟩ := eqBx_spec ys xs K h
    exact ⟨h1, ex, rfl⟩
  | _ :: _, [], _, h => h.elim

def junkL : List XV → Nat → List Nat → List XV
  | [], _, _ => []
  | x :: xs, i, [] => x :: junkL xs i []
  | x :: xs, i, j :: js => match Nat.beq i j with
    | true => .junk :: junkL xs (i + 1) js
    | false => x :: junkL xs (i + 1) (j :: js)
theorem junkK_eq : ∀ (ts : List XV) (i : Nat) (wr : List Nat) (K : List XV → Prop), junkK ts i wr K → junkK ts i wr fun l => K l ∧ l = junkL ts i wr
  | [], i, [], K, h => ⟨h, rfl⟩
  | [], i, _ :: _, K, h => h.elim
  | x :: xs, i, [], K, h => by
    have := junkK_eq xs i [] _ h
    simp only [junkK, junkL]
    refine Eq.mp ?_ this
    congr 1; funext l; simp
  | x :: xs, i, j :: js, K, h => by
    simp only [junkK, junkL] at *
    split at h
    · rename_i hb
      have := junkK_eq xs (i + 1) js _ h
      simp only [hb]
      refine Eq.mp ?_ this
      congr 1; funext l; simp
    · rename_i hb
      have := junkK_eq xs (i + 1) (j :: js) _ h
      simp only [hb]
      refine Eq.mp ?_ this
      congr 1; funext l; simp

theorem mem_setBoxesL : ∀ (is : List Nat) (cs : List (List XV)) (bx : List Box) (y : Box), y ∈ setBoxesL bx is cs → y.cells ∈ cs ∨ y ∈ bx
  | [], cs, bx, y, h => by cases cs <;> exact .inr (by simpa [setBoxesL] using h)
  | i :: is, [], bx, y, h => .inr (by simpa [setBoxesL] using h)
  | i :: is, c :: cs, bx, y, h => by
    simp only [setBoxesL] at h
    rcases mem_setBoxesL is cs _ y h with h | h
    · exact .inl (by simp [h])
    · rcases mem_setBox h with ⟨u, hu, rfl⟩ | ⟨hy, _⟩
      · exact .inl (by simp)
      · exact .inr hy

theorem subB_spec {xs ys : List Nat} (h : subB xs ys = true) : ∀ i ∈ xs, i ∈ ys := by
  intro i hi
  have := List.all_eq_true.1 h i hi
  simpa using this

theorem Inv.dropEx {ts l : List XV} {hb ex : List Box} {a : Act} {w W : World} (inv : Inv ts (hb ++ ex) a w W) (hr : Rel (blks hb) l a.tmps.toList) (hw : ∀ x ∈ hb, wfL (blks hb) x.cells) : Inv l hb a w w := by
  refine ⟨inv.defers, hr, hw, ?_, ⟨rfl, rfl, rfl, Nat.le_refl _, fun _ _ _ => rfl, fun x hx => inv.sync.own x (by simp [hx])⟩⟩
  have := inv.nodup
  simp only [blks, List.map_append, List.nodup_append] at this
  exact this.1

theorem vc_sound {P : Program} {T : List TI} {A : Anns} {D : DrawK} (hT : TableOk P T) (hD : DrawOk P D) : ∀ (c : Code), loopsOk A c = true → ∀ (Q : QX) (ts : List XV) (bx : List Box) (a : Act) (w W : World),
    vc P T A D c Q ts bx W → Inv ts bx a w W → c.wp P (QPost (writes c) a Q) a w := by
  intro c
  induction c with
  | skip => intro _ Q ts bx a w W h inv; exact wp_skip ⟨⟨ts, bx, W, inv, h⟩, SameOut.refl _ _⟩
  | label l => intro _ Q ts bx a w W h inv; exact wp_label ⟨⟨ts, bx, W, inv, h⟩, SameOut.refl _ _⟩
  | exit id => intro _ Q ts bx a w W h inv; exact wp_exit ⟨⟨ts, bx, W, inv, h⟩, SameOut.refl _ _⟩
  | ret => intro _ Q ts bx a w W h inv; exact wp_ret ⟨⟨ts, bx, W, inv, h⟩, SameOut.refl _ _⟩
  | seq x y ihx ihy =>
    intro hl Q ts bx a w W h inv
    simp only [loopsOk, Bool.and_eq_true] at hl
    refine wp_seq (wp_mono (ihx hl.1 _ ts bx a w W h inv) fun e a' w' hq => ?_)
    have hs1 : ∀ i ∈ writes x, i ∈ writes (.seq x y) := fun i hi => by simp [writes, hi]
    have hs2 : ∀ i ∈ writes y, i ∈ writes (.seq x y) := fun i hi => by simp [writes, hi]
    cases e with
    | normal =>
      obtain ⟨⟨ts', bx', W', inv', h'⟩, hso⟩ := hq
      exact wp_mono (ihy hl.2 Q ts' bx' a' w' W' h' inv') fun e a'' w'' hq' => hq'.mono hs2 (hso.mono hs1)
    | exit i => exact ⟨hq.1, hq.2.mono hs1⟩
    | ret => exact ⟨hq.1, hq.2.mono hs1⟩
    | _ => exact hq.elim
  | cond c x y ihx ihy =>
    intro hl Q ts bx a w W h inv
    simp only [loopsOk, Bool.and_eq_true] at hl
    unfold vc at h
    replace h := opK_spec h inv.frame
    obtain ⟨g, h, _, hg⟩ := h
    have hs1 : ∀ i ∈ writes x, i ∈ writes (.cond c x y) := fun i hi => by simp [writes, hi]
    have hs2 : ∀ i ∈ writes y, i ∈ writes (.cond c x y) := fun i hi => by simp [writes, hi]
    have gx : vc P T A D x Q ts bx W → x.wp P (QPost (writes (.cond c x y)) a Q) a w := fun h => wp_mono (ihx hl.1 Q ts bx a w W h inv) fun e a' w' hq => hq.mono hs1 (SameOut.refl _ _)
    have gy : vc P T A D y Q ts bx W → y.wp P (QPost (writes (.cond c x y)) a Q) a w := fun h => wp_mono (ihy hl.2 Q ts bx a w W h inv) fun e a' w' hq => hq.mono hs2 (SameOut.refl _ _)
    split at h
    · exact wp_cond_true (by rw [hg]; rfl) (gx h)
    · exact wp_cond_false (by rw [hg]; rfl) (gy h)
    · exact wp_cond_split (by rw [hg]; rfl) (fun hb => gx (h.1 hb)) (fun hb => gy (h.2 hb))
    · exact h.elim
  | block id x ih =>
    intro hl Q ts bx a w W h inv
    refine wp_block (wp_mono (ih hl _ ts bx a w W h inv) fun e a' w' hq => ?_)
    cases e with
    | normal => exact hq
    | exit i =>
      obtain ⟨⟨ts', bx', W', inv', h'⟩, hso⟩ := hq
      simp only [Exit.inBlock]
      dsimp only at h'
      cases hb : Nat.beq i id with
      | true =>
        rw [hb] at h'
        rw [if_pos (Nat.eq_of_beq_eq_true hb)]
        exact ⟨⟨ts', bx', W', inv', h'⟩, hso⟩
      | false =>
        rw [hb] at h'
        rw [if_neg (Nat.ne_of_beq_eq_false hb)]
        exact ⟨⟨ts', bx', W', inv', h'⟩, hso⟩
    | ret => exact hq
    | _ => exact hq.elim
  | scope x ih =>
    intro hl Q ts bx a w W h inv
    refine wp_scope_straight (wp_mono (ih hl _ ts bx a w W h inv) fun e a' w' hq => ?_)
    cases e with
    | goto l => exact hq.elim
    | _ => exact hq
  | region id ops draw =>
    intro _ Q ts bx a w W h inv
    unfold vc at h
    cases draw with
    | false => exact wp_region_list (vcList_sound hT _ ts bx a w W h inv fun a' w' hp hso => ⟨hp, hso⟩)
    | true =>
      refine wp_mono (hD id ops ts bx a w W _ h inv) fun e a' w' hq => ?_
      cases e <;> first | exact hq | exact hq.elim
  | loop body ih =>
    intro hl Q ts bx a w W h inv
    simp only [loopsOk, Bool.and_eq_true] at hl
    unfold vc at h
    obtain ⟨wr, l, hmem, hwf, hstart, hround⟩ := annK_spec h
    have hsub : ∀ i ∈ writes body, i ∈ wr := by
      have := List.all_eq_true.1 hl.2 _ hmem
      simp only [beq_self_eq_true, Bool.not_true, Bool.false_or] at this
      exact subB_spec this
    have hwfv : ∀ x, wfL (blks bx) (l.vals x) := fun x => (hwf x).1
    have hwfc : ∀ x, ∀ c ∈ l.cells x, wfL (blks bx) c := fun x => wfLL_mem (hwf x).2
    let hd (x : l.X) : List XV := setsL (junkL ts 0 wr) l.slots (l.vals x)
    let hb (x : l.X) : List Box := setBoxesL bx l.boxes (l.cells x)
    have hbb : ∀ x, blks (hb x) = blks bx := fun x => blks_setBoxesL _ _ _
    have hbw : ∀ x, ∀ y ∈ hb x, wfL (blks (hb x)) y.cells := by
      intro x y hy
      rw [hbb]
      rcases mem_setBoxesL _ _ _ _ hy with h' | h'
      · exact hwfc x _ h'
      · exact inv.wf y h'
    obtain ⟨x0, h0⟩ := hstart w inv.sync
    obtain ⟨h0, hset0⟩ := eqSl_spec _ _ _ _ h0 inv.frame
    replace h0 := setBoxesK_spec _ _ _ _ h0
    obtain ⟨hinv0, ex0, hex0⟩ := eqBx_spec _ _ _ h0
    -- the loop's slots, from what was there ahead of it
    have hjunk : ∀ a' : Act, SameOut wr a a' → (∀ K, junkK ts 0 wr K → Rel (blks bx) (junkL ts 0 wr) a'.tmps.toList) := by
      intro a' hso K hK
      obtain ⟨l', ⟨_, rfl⟩, hlen, hall⟩ := junkK_spec ts 0 wr _ (junkK_eq ts 0 wr K hK)
      have hr := Rel_iff.1 inv.frame
      rw [Rel_iff]
      refine ⟨by rw [hlen, hr.1]; simp [hso.1], fun k y hy => ?_⟩
      rcases hall k y hy with h' | ⟨h1, h2⟩
      · exact .inl h'
      · rcases hr.2 k y h1 with h' | ⟨h3, h4⟩
        · exact .inl h'
        · refine .inr ⟨?_, h4⟩
          have := hso.2 k (by simpa using h2)
          simp only [Array.getElem?_toList] at h3 ⊢
          rw [this]; exact h3
    refine wp_loop_ghost (fun n a' w' => ∃ x, l.μ x = n ∧ l.inv x w' ∧ SameOut (writes body) a a' ∧ Inv (hd x) (hb x) a' w' w') (l.μ x0) ⟨x0, rfl, hinv0, SameOut.refl _ _, ?_⟩ ?_
    · have hj := hjunk a (SameOut.refl _ _) _ (hround x0 w hinv0)
      have hfr := hset0 (blks bx) _ (hwfv x0) hj
      have inv' : Inv ts (hb x0 ++ ex0) a w W := by
        have : bx = hb x0 ++ ex0 := hex0
        rw [← this]; exact inv
      exact inv'.dropEx (by rw [hbb]; exact hfr) (hbw x0)
    · rintro n a1 w1 ⟨x1, rfl, hi1, hso1, inv1⟩
      have hr1 := hround x1 w1 hi1
      obtain ⟨l', ⟨hr1, rfl⟩, _, _⟩ := junkK_spec ts 0 wr _ (junkK_eq ts 0 wr _ hr1)
      replace hr1 := setsK_spec _ _ _ _ hr1
      replace hr1 := setBoxesK_spec _ _ _ _ hr1
      refine wp_mono (ih hl.1 _ _ _ a1 w1 w1 hr1 inv1) fun e a2 w2 hq => ?_
      cases e with
      | normal =>
        obtain ⟨⟨ts', bx', W', inv2, h2⟩, hso2⟩ := hq
        obtain ⟨x2, h2⟩ := h2 w2 inv2.sync
        obtain ⟨h2, hset2⟩ := eqSl_spec _ _ _ _ h2 inv2.frame
        replace h2 := setBoxesK_spec _ _ _ _ h2
        obtain ⟨⟨hinv2, hlt⟩, ex2, hex2⟩ := eqBx_spec _ _ _ h2
        have hso := hso1.trans hso2
        refine ⟨l.μ x2, hlt, x2, rfl, hinv2, hso, ?_⟩
        have hj := hjunk a2 (hso.mono hsub) _ (hround x0 w hinv0)
        have hfr := hset2 (blks bx) _ (hwfv x2) hj
        have inv' : Inv ts' (hb x2 ++ ex2) a2 w2 W' := by
          have : bx' = hb x2 ++ ex2 := hex2
          rw [← this]; exact inv2
        exact inv'.dropEx (by rw [hbb]; exact hfr) (hbw x2)
      | exit i => exact ⟨hq.1, hso1.trans hq.2⟩
      | ret => exact ⟨hq.1, hso1.trans hq.2⟩
      | _ => exact hq.elim
  | _ => intro _ Q ts bx a w W h inv; exact h.elim
end Go.Vc
