import Derived.Test.YtnldhkhnfodplaaVcM
import Derived.OrdersHeld
namespace Go.Vc
open Go

/-! ### Regions that draw their order: readers first, the rest in a chain -/
def rdOp (T : List TI) (o : Oper) (ts : List XV) (bx : List Box) (W : World) (ret : Ret) : Prop :=
  match o.op with
  | .load t a => opK ts a fun A => loadX T t A bx W ret
  | op => pureK T op ts ret

/-- what lay at the region's start lies still -/
structure Ext (bx0 : List Box) (W0 : World) (bx : List Box) (W : World) : Prop where
  sync : ∀ w, Sync bx W w → Sync bx0 W0 w
  pre : ∃ l, blks bx = blks bx0 ++ l

def nthOp : List Oper → Nat → (Oper → Prop) → Prop
  | [], _, _ => False
  | o :: _, 0, K => K o
  | _ :: os, n + 1, K => nthOp os n K
theorem nthOp_spec {ops : List Oper} {n : Nat} {K : Oper → Prop} (h : nthOp ops n K) : ∃ o, ops[n]? = some o ∧ K o := by
  induction ops generalizing n with
  | nil => exact h.elim
  | cons o os ih => cases n with
    | zero => exact ⟨o, by simp, h⟩
    | succ n => obtain ⟨o', h1, h2⟩ := ih h; exact ⟨o', by simpa using h1, h2⟩

def stepX (rd : Bool) (x y : Prop) : Prop := match rd with | true => x | false => y

def vcOrd (P : Program) (T : List TI) (ops : List Oper) (bx0 : List Box) (W0 : World) : List (Nat × Bool) → List XV → List Box → World → KT → Prop
  | [], ts, bx, W, K => K ts bx W
  | (i, rd) :: rest, ts, bx, W, K => nthOp ops i fun o => match o.guard with
    | none => stepX rd
      (rdOp T o ts bx0 W0 fun x => retX o.dst x ts bx W fun ts bx W => vcOrd P T ops bx0 W0 rest ts bx W K)
      (vcOp P T o ts bx W fun ts bx W => Ext bx0 W0 bx W ∧ vcOrd P T ops bx0 W0 rest ts bx W K)
    | some (j, want) => guardK ops ts j want
      (fun ts => stepX rd
        (rdOp T o ts bx0 W0 fun x => retX o.dst x ts bx W fun ts bx W => vcOrd P T ops bx0 W0 rest ts bx W K)
        (vcOp P T o ts bx W fun ts bx W => Ext bx0 W0 bx W ∧ vcOrd P T ops bx0 W0 rest ts bx W K))
      (fun ts => retX o.dst .und ts bx W fun ts bx W => vcOrd P T ops bx0 W0 rest ts bx W K)

/-- the order is one that may be taken for all -/
def okDraw (ops : Array Oper) : List (Nat × Bool) → Array Bool → Bool
  | [], L => (Region.ready .any ops L).isEmpty
  | (i, true) :: rest, L => Region.free .any ops L i && (Region.ready .any ops L).contains i && okDraw ops rest (L.setIfInBounds i true)
  | (i, false) :: rest, L => (Region.ready .any ops L == [i]) && okDraw ops rest (L.setIfInBounds i true)

abbrev Ords := List (Nat × List (Nat × Bool))
def ordK : Ords → Nat → (List (Nat × Bool) → Prop) → Prop
  | [], _, _ => False
  | (k, o) :: os, n, K => match Nat.beq k n with | true => K o | false => ordK os n K
theorem ordK_spec {os : Ords} {n : Nat} {K : List (Nat × Bool) → Prop} (h : ordK os n K) : ∃ o, K o := by
  induction os with
  | nil => exact h.elim
  | cons x os ih =>
    obtain ⟨k, o⟩ := x
    simp only [ordK] at h
    split at h
    · exact ⟨o, h⟩
    · exact ih h

def drawX (P : Program) (T : List TI) (O : Ords) : DrawK := fun id ops ts bx W K => ordK O id fun ord =>
  (Region.noSelect ops && okDraw ops ord (Array.replicate ops.size false) && (ord.length == ops.size)) = true ∧ vcOrd P T ops.toList bx W ord ts bx W K

theorem wf_app {bs : List Nat} {x : XV} (h : x.wf bs) (l : List Nat) : x.wf (bs ++ l) := by
  induction l generalizing bs with
  | nil => simpa using h
  | cons b l ih =>
    have := ih (XV.wf_mono bs b x h)
    simpa using this

theorem loadX_any {P : Program} {T : List TI} {t : TypeId} {A : XV} {ret : XV → Prop} {ts : List XV} {bx : List Box} {a : Act} {w W : World} {l : List Nat} (hT : TableOk P T) (h : loadX T t A bx W ret) (inv : Inv ts bx a w W) (hA : A.wf (blks bx ++ l)) :
    ∃ r : XV, ret r ∧ r.wf (blks bx ++ l) ∧ ∀ w', Sync bx W w' → (Instr.loadAt t A.den).run P w' = .ok r.den w' := by
  have hA : A.wf (blks bx) := by
    cases A with
    | own i b off =>
      unfold loadX at h
      obtain ⟨ti, hf, h⟩ := tiK_facts hT h
      obtain ⟨z, hz, h⟩ := boxK_spec h
      simp only [XV.wf] at hA ⊢
      have hi : i < (blks bx).length := by simpa [blks] using (List.getElem?_eq_some_iff.1 hz).1
      rwa [List.getElem?_append_left hi] at hA
    | ptr ad => simp [XV.wf]
    | _ => unfold loadX at h; obtain ⟨ti, hf, h⟩ := tiK_facts hT h; exact h.elim
  obtain ⟨r, h1, h2, h3, h4⟩ := loadX_spec (P := P) hT h inv hA
  refine ⟨r, h1, wf_app h2 l, fun w' hs => h4 w' ?_⟩
  rcases h3 with ⟨i, b, off, rfl⟩ | ⟨ad, rfl, hn, hlt⟩
  · simp only [XV.wf] at hA
    simp only [blks, List.getElem?_map] at hA
    obtain ⟨z, hz, hzb⟩ := Option.map_eq_some_iff.1 hA
    have hm := List.mem_of_getElem? hz
    simp only [loadBlk]
    rw [← hzb, hs.own z hm, inv.sync.own z hm]
  · simp only [loadBlk]
    rw [hs.same _ hlt hn, inv.sync.same _ hlt hn]

theorem rdOp_spec {P : Program} {T : List TI} {o : Oper} {ret : XV → Prop} {ts ts0 : List XV} {bx0 : List Box} {a a00 : Act} {w0 W0 : World} {l : List Nat} (hT : TableOk P T) (h : rdOp T o ts bx0 W0 ret) (inv0 : Inv ts0 bx0 a00 w0 W0) (hr : Rel (blks bx0 ++ l) ts a.tmps.toList) :
    ∃ r : XV, ret r ∧ r.wf (blks bx0 ++ l) ∧ ∀ w', Sync bx0 W0 w' → (execOp a.eval o).run P w' = .ok (.value r.den) w' := by
  unfold rdOp at h
  split at h
  · rename_i t x ho
    obtain ⟨A, h, hw, hA⟩ := opK_spec h hr
    obtain ⟨r, h1, h2, h3⟩ := loadX_any (P := P) hT h inv0 hw
    exact ⟨r, h1, h2, fun w' hs => by rw [load_run ho, hA, h3 w' hs]; rfl⟩
  · obtain ⟨r, h1, h2, h3⟩ := pure_spec (P := P) hT h hr
    exact ⟨r, h1, h2, fun w' _ => h3 w'⟩

theorem dstL_mem {ops : List Oper} {i : Nat} {o : Oper} (h : ops[i]? = some o) : ∀ d ∈ dstL o, d ∈ dsts ops := by
  induction ops generalizing i with
  | nil => simp at h
  | cons p ops ih =>
    intro d hd
    simp only [dsts, List.mem_append]
    cases i with
    | zero => simp at h; subst h; exact .inl hd
    | succ i => exact .inr (ih (by simpa using h) d hd)

theorem retX_same {dst : Option Tmp} {x : XV} {ts : List XV} {bx : List Box} {a : Act} {w W : World} {K : KT} (h : retX dst x ts bx W K) (inv : Inv ts bx a w W) (hw : x.wf (blks bx)) :
    ∃ ts', Inv ts' bx (a.put dst x.den) w W ∧ K ts' bx W := by
  cases dst with
  | none => exact ⟨ts, inv, h⟩
  | some d =>
    simp only [retX, setK_iff] at h
    exact ⟨_, ⟨inv.defers, by simpa [Act.put] using inv.frame.set d hw, inv.wf, inv.nodup, inv.sync⟩, h⟩

def QD (K : KT) (ops : Array Oper) (a0 : Act) : Exit → Act → World → Prop := fun e a' w' => match e with
  | .normal => Post K a' w' ∧ SameOut (dsts ops.toList) a0 a'
  | _ => False

theorem Ext.refl (bx : List Box) (W : World) : Ext bx W bx W := ⟨fun _ h => h, [], by simp⟩

theorem vcOrd_sound {P : Program} {T : List TI} (hT : TableOk P T) {ops : Array Oper} {K : KT} {bx0 : List Box} {W0 w0 : World} {ts0 : List XV} {a00 a0 : Act} (inv0 : Inv ts0 bx0 a00 w0 W0) (hns : Region.noSelect ops = true) :
    ∀ (ord : List (Nat × Bool)) (L : Array Bool) (ts : List XV) (bx : List Box) (a : Act) (w W : World), okDraw ops ord L = true → vcOrd P T ops.toList bx0 W0 ord ts bx W K → Inv ts bx a w W → Ext bx0 W0 bx W →
      SameOut (dsts ops.toList) a0 a → wpAnyH P .any ops (QD K ops a0) (Sync bx0 W0) ord.length L a w
  | [], L, ts, bx, a, w, W, hok, h, inv, ext, hso => by
    simp only [okDraw, List.isEmpty_iff] at hok
    exact wpAnyH_done hok ⟨⟨ts, bx, W, inv, h⟩, hso⟩ _
  | (i, rd) :: rest, L, ts, bx, a, w, W, hok, h, inv, ext, hso => by
    unfold vcOrd at h
    obtain ⟨o, hi, h⟩ := nthOp_spec h
    have hi : ops[i]? = some o := by simpa using hi
    have hmem := dstL_mem (ops := ops.toList) (by simpa using hi)
    obtain ⟨l, hl⟩ := ext.pre
    -- what is carried out
    have go : ∀ ts, Rel (blks bx) ts a.tmps.toList → Region.wanted o (yielded ops a.tmps) = true → stepX rd
        (rdOp T o ts bx0 W0 fun x => retX o.dst x ts bx W fun ts bx W => vcOrd P T ops.toList bx0 W0 rest ts bx W K)
        (vcOp P T o ts bx W fun ts bx W => Ext bx0 W0 bx W ∧ vcOrd P T ops.toList bx0 W0 rest ts bx W K) → wpAnyH P .any ops (QD K ops a0) (Sync bx0 W0) (rest.length + 1) L a w := by
      intro ts hr hwt h
      have inv' : Inv ts bx a w W := ⟨inv.defers, hr, inv.wf, inv.nodup, inv.sync⟩
      cases rd with
      | true =>
        simp only [okDraw, Bool.and_eq_true] at hok
        obtain ⟨r, h1, h2, h3⟩ := rdOp_spec (P := P) hT h inv0 (l := l) (by rw [← hl]; exact hr)
        obtain ⟨ts', inv'', h4⟩ := retX_same h1 inv' (by rw [hl]; exact h2)
        refine wpAnyH_take hi hns hok.1.1 hok.1.2 (fun c a w hq => hq) (.inl ⟨hwt, fun w' hs => h3 w' hs⟩) (ext.sync w inv.sync) ?_
        exact vcOrd_sound hT inv0 hns rest _ ts' bx _ w W hok.2 h4 inv'' ext (hso.trans ((SameOut.put a o r.den).mono hmem))
      | false =>
        simp only [okDraw, Bool.and_eq_true, beq_iff_eq] at hok
        refine wpAnyH_all hok.1 (by simp) fun j hj => ?_
        rw [List.mem_singleton.1 hj]
        unfold Go.wpOp
        simp only [hi, hwt, if_true]
        have h1 := wp_out (vc_rest (Q := QD K ops a0) hT h inv')
        refine .inl (wp_mono' h1 fun a' w' ⟨⟨ts', bx', W', inv'', hext, h2⟩, hso'⟩ => ⟨hext.sync w' inv''.sync, ?_⟩)
        exact vcOrd_sound hT inv0 hns rest _ ts' bx' a' w' W' hok.2 h2 inv'' hext (hso.trans (hso'.mono hmem))
    -- what is left out
    have skip : ∀ ts, Rel (blks bx) ts a.tmps.toList → Region.wanted o (yielded ops a.tmps) = false → (retX o.dst .und ts bx W fun ts bx W => vcOrd P T ops.toList bx0 W0 rest ts bx W K) → wpAnyH P .any ops (QD K ops a0) (Sync bx0 W0) (rest.length + 1) L a w := by
      intro ts hr hwt h
      have inv' : Inv ts bx a w W := ⟨inv.defers, hr, inv.wf, inv.nodup, inv.sync⟩
      obtain ⟨ts', inv'', h4⟩ := retX_same h inv' (by simp [XV.wf])
      have hu : XV.den .und = undef := by simp [XV.den]
      rw [hu] at inv''
      have hso' := hso.trans ((SameOut.put a o undef).mono hmem)
      cases rd with
      | true =>
        simp only [okDraw, Bool.and_eq_true] at hok
        exact wpAnyH_take hi hns hok.1.1 hok.1.2 (fun c a w hq => hq) (.inr ⟨hwt, rfl⟩) (ext.sync w inv.sync) (vcOrd_sound hT inv0 hns rest _ ts' bx _ w W hok.2 h4 inv'' ext hso')
      | false =>
        simp only [okDraw, Bool.and_eq_true, beq_iff_eq] at hok
        refine wpAnyH_all hok.1 (by simp) fun j hj => ?_
        rw [List.mem_singleton.1 hj]
        unfold Go.wpOp
        simp only [hi, hwt, Bool.false_eq_true, if_false]
        exact ⟨ext.sync w inv.sync, vcOrd_sound hT inv0 hns rest _ ts' bx _ w W hok.2 h4 inv'' ext hso'⟩
    split at h
    · rename_i hg
      exact go ts inv.frame (by simp [Region.wanted, hg]) h
    · rename_i j want hg
      obtain ⟨ts', hr, hc⟩ := guardK_spec h inv.frame
      have hw : Region.wanted o (yielded ops a.tmps) = (yielded ops a.tmps j == some want) := by simp [Region.wanted, hg]
      rcases hc with ⟨hy, hc⟩ | ⟨hy, hc⟩
      · exact go ts' hr (by rw [hw, hy]; simp) hc
      · exact skip ts' hr (by rw [hw]; simpa using hy) hc

theorem drawX_ok {P : Program} {T : List TI} (hT : TableOk P T) (hm : P.follows .mixedOrders = true) (O : Ords) : DrawOk P (drawX P T O) := by
  intro id ops ts bx a w W K h inv
  obtain ⟨ord, hok, h⟩ := ordK_spec h
  simp only [Bool.and_eq_true, beq_iff_eq] at hok
  have inv' : Inv ts bx a { w with drawn := w.drawn + 1 } W := ⟨inv.defers, inv.frame, inv.wf, inv.nodup, ⟨inv.sync.os, inv.sync.tape, inv.sync.output, inv.sync.size, inv.sync.same, inv.sync.own⟩⟩
  have := vcOrd_sound hT inv' hok.1.1 ord _ ts bx a _ W hok.1.2 h inv' (Ext.refl bx W) (SameOut.refl _ a)
  rw [hok.2] at this
  exact wp_mono (wp_region_held hm this) fun e a' w' hq => by
    cases e <;> first | exact hq | exact hq.elim

theorem Ext.onCall {bx0 bx : List Box} {W0 W W1 W2 : World} (e : Ext bx0 W0 bx W) (hs : Sync bx W W1) (hb : RowKit.Below W1.heap.size W1 W2) : Ext bx0 W0 bx W2 :=
  ⟨fun w h => e.sync w ⟨h.os.trans (hb.os.trans hs.os), h.tape.trans (hb.tape.trans hs.tape), h.output.trans (hb.output.trans hs.output), Nat.le_trans hs.size (Nat.le_trans hb.size h.size),
    fun b hlt hn => by
      have h1 := Nat.lt_of_lt_of_le hlt hs.size
      rw [h.same b (Nat.lt_of_lt_of_le h1 hb.size) hn, hb.block b h1, hs.same b hlt hn], h.own⟩, e.pre⟩

/-- a call in a drawn region, whose contract names its answer -/
theorem onCallD {P : Program} {f : FuncId} {args : Array Value} {v : Value} {bx0 bx : List Box} {B : Nat} {W0 V W W1 : World} {ids : List Nat} {K : Value → World → Prop} (hs : Sync bx W W1) (e : Ext bx0 W0 bx W) (hV : RowKit.Below B V W) (hB : B ≤ V.heap.size) (hb : geB B bx)
    (hc : CallsX P f args W1 fun u w' => u = v ∧ RowKit.Below W1.heap.size W1 w') (k : ∀ W2, RowKit.Below B V W2 → Ext bx0 W0 bx W2 → K v W2) : CallsX P f args W1 fun u w' => Kept (keptB ids 0 bx) W1 w' ∧ K u w' :=
  hc.mono fun _ W2 ⟨eq, h2⟩ => eq ▸ ⟨Kept.of_below' _ hs h2, k W2 (below_on (hs.on hV hB hb) hB h2) (e.onCall hs h2)⟩
end Go.Vc
