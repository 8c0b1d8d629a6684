import Derived.Test.YtnldhkhnfodplaaVcJ
namespace Go.Vc
open Go

/-! ### Guards; regions in the order of the text -/
def nthDst : List Oper → Nat → Option Nat
  | [], _ => none
  | o :: _, 0 => o.dst
  | _ :: os, n + 1 => nthDst os n
theorem nthDst_eq (ops : List Oper) (j : Nat) : nthDst ops j = (ops[j]?).bind (·.dst) := by
  induction ops generalizing j with
  | nil => rfl
  | cons o ops ih => cases j <;> simp [nthDst, ih]

def guardK (ops : List Oper) (ts : List XV) (j : Nat) (want : Bool) (yes no : List XV → Prop) : Prop :=
  match nthDst ops j with
  | none => False
  | some d => getK ts d fun x => match x with
    | .lit true => match want with | true => yes ts | false => no ts
    | .lit false => match want with | true => no ts | false => yes ts
    | .bool b => match want with
      | true => (b = true → setK ts d (.lit true) yes) ∧ (b = false → setK ts d (.lit false) no)
      | false => (b = false → setK ts d (.lit false) yes) ∧ (b = true → setK ts d (.lit true) no)
    | .und => no ts
    | _ => False

theorem guardK_spec {ops : Array Oper} {ts : List XV} {bs : List Nat} {tmps : Array Value} {j : Nat} {want : Bool} {yes no : List XV → Prop} (h : guardK ops.toList ts j want yes no) (hr : Rel bs ts tmps.toList) :
    ∃ ts', Rel bs ts' tmps.toList ∧ ((yielded ops tmps j = some want ∧ yes ts') ∨ (yielded ops tmps j ≠ some want ∧ no ts')) := by
  unfold guardK at h
  rw [nthDst_eq] at h
  have hy : ∀ d, (ops[j]?).bind (·.dst) = some d → yielded ops tmps j = match tmps[d]? with | some (.bool b) => some b | _ => none := by
    intro d hd
    unfold yielded
    rw [hd]; rfl
  split at h
  · exact h.elim
  · rename_i d hd
    have hy := hy d (by simpa using hd)
    obtain ⟨x, h, hxw, hx⟩ := getK_spec h hr
    have hx' : (tmps[d]?).getD undef = x.den := by simpa using hx
    have keep : ∀ c : Bool, x.den = .bool c → Rel bs (ts.set d (.lit c)) tmps.toList := by
      intro c hc
      have h1 := hr.set d (x := .lit c) (by simp [XV.wf])
      have : tmps.toList.set d (XV.lit c).den = tmps.toList := by
        have hlt : d < tmps.size := by
          rcases Nat.lt_or_ge d tmps.size with h' | h'
          · exact h'
          · rw [hc] at hx'; simp [Array.getElem?_eq_none h', undef] at hx'
        apply List.ext_getElem?
        intro i
        rw [List.getElem?_set]
        split
        · rename_i hdi
          subst hdi
          rw [hc] at hx'
          simp [hlt] at hx' ⊢
          rw [hx']; rfl
        · rfl
      rwa [this] at h1
    have get : ∀ c : Bool, x.den = .bool c → yielded ops tmps j = some c := by
      intro c hc
      rw [hy]
      rw [hc] at hx'
      cases hq : tmps[d]? with
      | none => rw [hq] at hx'; simp [undef] at hx'
      | some v => rw [hq] at hx'; simp at hx'; subst hx'; rfl
    split at h
    · have hg := get true rfl
      cases want
      · exact ⟨ts, hr, .inr ⟨by rw [hg]; simp, h⟩⟩
      · exact ⟨ts, hr, .inl ⟨hg, h⟩⟩
    · have hg := get false rfl
      cases want
      · exact ⟨ts, hr, .inl ⟨hg, h⟩⟩
      · exact ⟨ts, hr, .inr ⟨by rw [hg]; simp, h⟩⟩
    · rename_i b
      have hg := get b rfl
      cases want <;> simp only [setK_iff] at h
      · cases b
        · exact ⟨_, keep false rfl, .inl ⟨hg, h.1 rfl⟩⟩
        · exact ⟨_, keep true rfl, .inr ⟨by rw [hg]; simp, h.2 rfl⟩⟩
      · cases b
        · exact ⟨_, keep false rfl, .inr ⟨by rw [hg]; simp, h.2 rfl⟩⟩
        · exact ⟨_, keep true rfl, .inl ⟨hg, h.1 rfl⟩⟩
    · refine ⟨ts, hr, .inr ⟨?_, h⟩⟩
      rw [hy]
      simp only [XV.den] at hx'
      cases hq : tmps[d]? with
      | none => simp
      | some v => rw [hq] at hx'; simp [undef] at hx'; subst hx'; simp
    · exact h.elim

def vcList (P : Program) (T : List TI) (ops : List Oper) : List Oper → List XV → List Box → World → KT → Prop
  | [], ts, bx, W, K => K ts bx W
  | o :: rest, ts, bx, W, K => match o.guard with
    | none => vcOp P T o ts bx W fun ts bx W => vcList P T ops rest ts bx W K
    | some (j, want) => guardK ops ts j want
      (fun ts => vcOp P T o ts bx W fun ts bx W => vcList P T ops rest ts bx W K)
      (fun ts => retX o.dst .und ts bx W fun ts bx W => vcList P T ops rest ts bx W K)

/-- slots that are not written -/
def SameOut (wr : List Nat) (a a' : Act) : Prop := a'.tmps.size = a.tmps.size ∧ ∀ i, i ∉ wr → a'.tmps[i]? = a.tmps[i]?
theorem SameOut.refl (wr : List Nat) (a : Act) : SameOut wr a a := ⟨rfl, fun _ _ => rfl⟩
theorem SameOut.trans {wr : List Nat} {a b c : Act} (h : SameOut wr a b) (k : SameOut wr b c) : SameOut wr a c := ⟨k.1.trans h.1, fun i hi => (k.2 i hi).trans (h.2 i hi)⟩
theorem SameOut.mono {wr wr' : List Nat} {a b : Act} (h : SameOut wr a b) (hs : ∀ i ∈ wr, i ∈ wr') : SameOut wr' a b := ⟨h.1, fun i hi => h.2 i fun hm => hi (hs i hm)⟩

def dstL (o : Oper) : List Nat := match o.dst with | some d => [d] | none => []
theorem SameOut.put (a : Act) (o : Oper) (v : Value) : SameOut (dstL o) a (a.put o.dst v) := by
  unfold dstL
  cases o.dst with
  | none => exact SameOut.refl _ _
  | some d => exact ⟨by simp [Act.put], fun i hi => by simp only [List.mem_singleton] at hi; simp [Act.put, Array.getElem?_setIfInBounds_ne (Ne.symm hi)]⟩

/-- an operation writes its own slot alone -/
theorem wp_out {P : Program} {o : Oper} {a : Act} {w : World} {N : Act → World → Prop} {Q : Exit → Act → World → Prop} (hd : o.wp P a w N Q) : o.wp P a w (fun a' w' => N a' w' ∧ SameOut (dstL o) a a') Q := by
  unfold Oper.wp at *
  generalize (execOp a.eval o).run P w = r at *
  cases r with
  | ok n w' =>
    cases n <;> simp only [Oper.upon] at hd ⊢
    case value v => exact ⟨hd, SameOut.put a o v⟩
    case skip => exact ⟨hd, SameOut.put a o _⟩
    case defer d => exact ⟨hd, SameOut.put { a with defers := d :: a.defers } o undef⟩
    case enter f args =>
      refine hd.mono fun e w'' he => ?_
      cases e with
      | returned v => exact ⟨he, SameOut.put a o v⟩
      | panicked c => exact he
      | outgrown => exact he
    case row row args => exact Rows.mono hd fun v w'' he => ⟨he, SameOut.put a o v⟩
  | halt x w' =>
    cases x <;> simp only [Oper.upon] at hd ⊢
    case panic u => exact hd

theorem wp_mono' {P : Program} {o : Oper} {a : Act} {w : World} {N N' : Act → World → Prop} {Q : Exit → Act → World → Prop} (hd : o.wp P a w N Q) (h : ∀ a w, N a w → N' a w) : o.wp P a w N' Q := Oper.wp_mono h hd

def dsts : List Oper → List Nat
  | [] => []
  | o :: os => dstL o ++ dsts os

theorem vcList_sound {P : Program} {T : List TI} (hT : TableOk P T) {ops : Array Oper} {K : KT} {Q : Exit → Act → World → Prop} : ∀ (l : List Oper) (ts : List XV) (bx : List Box) (a : Act) (w W : World),
    vcList P T ops.toList l ts bx W K → Inv ts bx a w W → (∀ a' w', Post K a' w' → SameOut (dsts l) a a' → Q .normal a' w') → wpList P ops Q l a w
  | [], ts, bx, a, w, W, h, inv, hQ => wpList_nil (hQ a w ⟨ts, bx, W, inv, h⟩ (SameOut.refl _ _))
  | o :: rest, ts, bx, a, w, W, h, inv, hQ => by
    have go : ∀ ts, Rel (blks bx) ts a.tmps.toList → (vcOp P T o ts bx W fun ts bx W => vcList P T ops.toList rest ts bx W K) → o.wp P a w (wpList P ops Q rest) Q := by
      intro ts hr h
      have inv' : Inv ts bx a w W := ⟨inv.defers, hr, inv.wf, inv.nodup, inv.sync⟩
      have h1 := wp_out (vc_rest (Q := Q) hT h inv')
      refine wp_mono' h1 fun a' w' ⟨⟨ts', bx', W', inv'', h2⟩, hso⟩ => ?_
      refine vcList_sound hT rest ts' bx' a' w' W' h2 inv'' fun a'' w'' hp hso' => hQ a'' w'' hp ?_
      exact (hso.mono (by intro i hi; simp [dsts, hi])).trans (hso'.mono (by intro i hi; simp [dsts, hi]))
    unfold vcList at h
    split at h
    · rename_i hg
      unfold wpList
      rw [if_pos (by simp [Region.wanted, hg])]
      exact .inl (go ts inv.frame h)
    · rename_i j want hg
      obtain ⟨ts', hr, hc⟩ := guardK_spec h inv.frame
      unfold wpList
      have hw : Region.wanted o (yielded ops a.tmps) = (yielded ops a.tmps j == some want) := by simp [Region.wanted, hg]
      rcases hc with ⟨hy, hc⟩ | ⟨hy, hc⟩
      · rw [if_pos (by rw [hw, hy]; simp)]
        exact .inl (go ts' hr hc)
      · rw [if_neg (by rw [hw]; simpa using hy)]
        have inv' : Inv ts' bx a w W := ⟨inv.defers, hr, inv.wf, inv.nodup, inv.sync⟩
        obtain ⟨ts'', bx', W', inv'', h2⟩ := retX_spec hc inv' (x := .und) (by simp [XV.wf])
        refine vcList_sound hT rest ts'' bx' _ w W' h2 inv'' fun a'' w'' hp hso' => hQ a'' w'' hp ?_
        exact ((SameOut.put a o undef).mono (by intro i hi; simp [dsts, hi])).trans (hso'.mono (by intro i hi; simp [dsts, hi]))

/-! ### Code -/
abbrev QX := Exit → KT

structure LoopAnn where
  X : Type
  slots : List Nat
  vals : X → List XV
  boxes : List Nat
  cells : X → List (List XV)
  inv : X → World → Prop
  μ : X → Nat

/-- annotations: the loop's key (the number of its first region), the slots that it writes, in order -/
abbrev Anns := List (Nat × List Nat × LoopAnn)

def annK : Anns → Nat → (List Nat → LoopAnn → Prop) → Prop
  | [], _, _ => False
  | (k, wr, l) :: as, n, K => match Nat.beq k n with | true => K wr l | false => annK as n K
theorem annK_spec {as : Anns} {n : Nat} {K : List Nat → LoopAnn → Prop} (h : annK as n K) : ∃ wr l, (n, wr, l) ∈ as ∧ K wr l := by
  induction as with
  | nil => exact h.elim
  | cons x as ih =>
    obtain ⟨k, wr, l⟩ := x
    simp only [annK] at h
    split at h
    · rename_i hk; exact ⟨wr, l, by rw [Nat.eq_of_beq_eq_true hk]; simp, h⟩
    · obtain ⟨wr', l', h1, h2⟩ := ih h; exact ⟨wr', l', by simp [h1], h2⟩

/-- the slots that are written are unknown -/
def junkK : List XV → Nat → List Nat → (List XV → Prop) → Prop
  | [], _, [], K => K []
  | [], _, _ :: _, _ => False
  | x :: xs, i, [], K => junkK xs i [] fun l => K (x :: l)
  | x :: xs, i, j :: js, K => match Nat.beq i j with
    | true => junkK xs (i + 1) js fun l => K (.junk :: l)
    | false => junkK xs (i + 1) (j :: js) fun l => K (x :: l)

def setsK : List XV → List Nat → List XV → (List XV → Prop) → Prop
  | ts, [], [], K => K ts
  | ts, s :: ss, v :: vs, K => setK ts s v fun ts => setsK ts ss vs K
  | _, _, _, _ => False

def setBoxesK : List Box → List Nat → List (List XV) → (List Box → Prop) → Prop
  | bx, [], [], K => K bx
  | bx, i :: is, c :: cs, K => setBoxK bx i c fun bx => setBoxesK bx is cs K
  | _, _, _, _ => False

/-- the slots hold these values -/
def eqSl (ts : List XV) : List Nat → List XV → Prop → Prop
  | [], [], K => K
  | s :: ss, v :: vs, K => getK ts s fun x => x = v ∧ eqSl ts ss vs K
  | _, _, _ => False

/-- the boxes are, up to further ones, these -/
def eqBx : List Box → List Box → Prop → Prop
  | _, [], K => K
  | x :: xs, y :: ys, K => x = y ∧ eqBx xs ys K
  | [], _ :: _, _ => False

def codeKey : Code → Nat
  | .region id _ _ => id
  | .seq a _ => codeKey a
  | .block _ b => codeKey b
  | .loop b => codeKey b
  | .scope b => codeKey b
  | _ => 0

def writes : Code → List Nat
  | .region _ ops _ => dsts ops.toList
  | .seq a b => writes a ++ writes b
  | .cond _ a b => writes a ++ writes b
  | .block _ b => writes b
  | .loop b => writes b
  | .scope b => writes b
  | _ => []

/-- the loop's annotation says of each slot that it writes that it does -/
def subB (xs ys : List Nat) : Bool := xs.all fun x => ys.contains x
def loopsOk (A : Anns) : Code → Bool
  | .seq a b => loopsOk A a && loopsOk A b
  | .cond _ a b => loopsOk A a && loopsOk A b
  | .block _ b => loopsOk A b
  | .scope b => loopsOk A b
  | .loop b => loopsOk A b && A.all fun x => !(x.1 == codeKey b) || (subB (writes b) x.2.1)
  | _ => true
end Go.Vc
