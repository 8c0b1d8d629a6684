import Derived.Test.YtnldhkhnfodplaaVcL
namespace Go.Vc
open Go

/-! ### A function's results -/
def resK (T : List TI) : List ResultVar → List XV → List Box → World → (List XV → Prop) → Prop
  | [], _, _, _, K => K []
  | .tmp t :: rs, ts, bx, W, K => getK ts t fun x => resK T rs ts bx W fun xs => K (x :: xs)
  | .cell c t :: rs, ts, bx, W, K => getK ts c fun A => loadX T t A bx W fun x => resK T rs ts bx W fun xs => K (x :: xs)

def oneRes (xs : List XV) : XV := match xs with | [x] => x | xs => .tup xs

def retQ (T : List TI) (rs : List ResultVar) (R : Value → World → Prop) : QX := fun e ts bx W =>
  match e with
  | .normal => resK T rs ts bx W fun xs => ∀ w, Sync bx W w → R (oneRes xs).den w
  | .ret => resK T rs ts bx W fun xs => ∀ w, Sync bx W w → R (oneRes xs).den w
  | _ => False

def resOne (tmps : Array Value) : ResultVar → Sem Value
  | .tmp t => pure (tmps.getD t undef)
  | .cell c t => do loadVar t (← asAddr (tmps.getD c undef))

theorem resK_spec {P : Program} {T : List TI} (hT : TableOk P T) {ts : List XV} {bx : List Box} {a : Act} {w W : World} (inv : Inv ts bx a w W) : ∀ (rs : List ResultVar) (K : List XV → Prop), resK T rs ts bx W K →
    ∃ xs, K xs ∧ (rs.mapM (resOne a.tmps)).run P w = .ok (denL xs) w
  | [], K, h => ⟨[], h, by simp [denL]⟩
  | .tmp t :: rs, K, h => by
    obtain ⟨x, h1, hw, hx⟩ := getK_spec h inv.frame
    obtain ⟨xs, h2, h3⟩ := resK_spec hT inv rs _ h1
    refine ⟨x :: xs, h2, ?_⟩
    have : a.tmps.getD t undef = x.den := by rw [← hx]; simp
    simp only [List.mapM_cons, resOne, Sem.run_bind, Sem.run_pure, Result.andThen_ok, h3, denL, this]
  | .cell c t :: rs, K, h => by
    obtain ⟨A, h1, hw, hA⟩ := getK_spec h inv.frame
    obtain ⟨x, h1, hxw, hcase, hrun⟩ := loadX_spec (P := P) hT h1 inv hw
    obtain ⟨xs, h2, h3⟩ := resK_spec hT inv rs _ h1
    refine ⟨x :: xs, h2, ?_⟩
    have hA' : a.tmps.getD c undef = A.den := by rw [← hA]; simp
    have hr := hrun w rfl
    obtain ⟨ad, had⟩ : ∃ ad, A.den = .pointer (some ad) := by
      rcases hcase with ⟨i, b, off, rfl⟩ | ⟨ad, rfl, _⟩
      · exact ⟨_, rfl⟩
      · exact ⟨_, rfl⟩
    rw [had] at hr hA'
    simp only [Instr.loadAt, Instr.sureAddr, Sem.run_bind, Sem.run_pure, Result.andThen_ok] at hr
    simp only [List.mapM_cons, resOne, Sem.run_bind, hA', asAddr, Sem.run_pure, Result.andThen_ok, hr, h3, denL]

theorem results_run {P : Program} {T : List TI} (hT : TableOk P T) {fn : Func} {ts : List XV} {bx : List Box} {a : Act} {w W : World} (inv : Inv ts bx a w W) {K : List XV → Prop} (h : resK T fn.results.toList ts bx W K) :
    ∃ xs, K xs ∧ (results fn a.tmps).run P w = .ok (oneRes xs).den w := by
  obtain ⟨xs, h1, h2⟩ := resK_spec hT inv _ _ h
  refine ⟨xs, h1, ?_⟩
  unfold results
  rw [Sem.run_bind, Array.mapM_eq_mapM_toList, Sem.run_map]
  have e : ∀ f : ResultVar → Sem Value, f = resOne a.tmps → (fn.results.toList.mapM f).run P w = (fn.results.toList.mapM (resOne a.tmps)).run P w := fun f h => by rw [h]
  rw [e _ (by funext x; cases x <;> rfl), h2]
  simp only [Result.andThen_ok]
  match xs with
  | [] => simp [denL, oneRes, XV.den]
  | [x] => simp [denL, oneRes]
  | x :: y :: zs => simp [denL, oneRes, XV.den]

/-- the slots as the function begins -/
def initL : Nat → List XV
  | 0 => []
  | n + 1 => .und :: initL n
theorem initL_eq (n : Nat) : initL n = List.replicate n .und := by induction n <;> simp [initL, List.replicate_succ, *]

def initK : List XV → Nat → (List XV → Prop) → Prop
  | [], n, K => K (initL n)
  | x :: xs, n + 1, K => initK xs n fun l => K (x :: l)
  | _ :: _, 0, _ => False
theorem initK_spec : ∀ (xs : List XV) (n : Nat) (K : List XV → Prop), initK xs n K → K (xs ++ List.replicate (n - xs.length) .und) ∧ xs.length ≤ n
  | [], n, K, h => ⟨by simpa [initK, initL_eq] using h, by simp⟩
  | x :: xs, n + 1, K, h => by
    have := initK_spec xs n _ h
    simpa using this
  | _ :: _, 0, _, h => h.elim

theorem Rel_denL {bs : List Nat} : ∀ (xs : List XV), wfL bs xs → Rel bs xs (denL xs)
  | [], _ => by simp [Rel, denL]
  | x :: xs, h => ⟨.inr ⟨rfl, h.1⟩, Rel_denL xs h.2⟩

/-- A FUNCTION's CONTRACT, FROM ITS CONDITION. -/
theorem callsX_of_vc {P : Program} {T : List TI} {A : Anns} {D : DrawK} (hT : TableOk P T) (hD : DrawOk P D) {f : FuncId} {fn : Func} {c : Code} {args : Array Value} {w : World} {R : Value → World → Prop}
    (hf : P.funcs[f]? = some fn) (hb : fn.body = some c) (hn : (fn.name == "runtime.NumGoroutine") = false) (hl : loopsOk A c = true) (xs : List XV) (hargs : args = (denL xs).toArray) (hw : wfL [] xs)
    (h : initK xs fn.ntmps fun ts => vc P T A D c (retQ T fn.results.toList R) ts [] w) : CallsX P f args w R := by
  refine ⟨⟨fn, hf, hn, by simp [hb]⟩, ?_⟩
  subst hargs
  obtain ⟨h, hlen⟩ := initK_spec _ _ _ h
  have inv : Inv (xs ++ List.replicate (fn.ntmps - xs.length) .und) [] { tmps := (denL xs).toArray ++ Array.replicate (fn.ntmps - (denL xs).toArray.size) undef, defers := [] } w w := by
    refine ⟨rfl, ?_, by simp, by simp [blks], ⟨rfl, rfl, rfl, Nat.le_refl _, fun _ _ _ => rfl, by simp⟩⟩
    have e : (denL xs).toArray ++ Array.replicate (fn.ntmps - (denL xs).toArray.size) undef = (denL (xs ++ List.replicate (fn.ntmps - xs.length) .und)).toArray := by
      apply Array.ext'
      have hu : XV.den .und = undef := by simp [XV.den]
      simp [denL_append, denL_length, denL_map, hu]
    simp only [e]
    exact Rel_denL _ (wfL_append hw (by rw [wfL_iff]; intro x hx; rw [List.eq_of_mem_replicate hx]; simp [XV.wf]))
  refine calls_of_wp hf hb (wp_mono (vc_sound hT hD c hl _ _ _ _ _ _ h inv) fun e a' w' hq => ?_)
  cases e with
  | normal =>
    obtain ⟨⟨ts', bx', W', inv', h'⟩, _⟩ := hq
    obtain ⟨ys, h1, h2⟩ := results_run (fn := fn) hT inv' h'
    exact ⟨inv'.defers, _, h2, _, rfl, h1 w' inv'.sync⟩
  | ret =>
    obtain ⟨⟨ts', bx', W', inv', h'⟩, _⟩ := hq
    obtain ⟨ys, h1, h2⟩ := results_run (fn := fn) hT inv' h'
    exact ⟨inv'.defers, _, h2, _, rfl, h1 w' inv'.sync⟩
  | exit i => exact (by obtain ⟨⟨ts', bx', W', inv', h'⟩, _⟩ := hq; exact h'.elim)
  | _ => exact hq.elim

/-- what is below a block number is as it was -/
theorem Sync.below {bx : List Box} {W w : World} {B : Nat} (h : Sync bx W w) (hB : B ≤ W.heap.size) (hb : ∀ x ∈ bx, B ≤ x.blk) : RowKit.Below B W w :=
  ⟨h.os, h.tape, h.output, h.size, fun k hk => h.same k (by omega) (by
    intro hm
    simp only [blks, List.mem_map] at hm
    obtain ⟨x, hx, rfl⟩ := hm
    have := hb x hx
    omega)⟩

/-- every box's number is at least B -/
def geB (B : Nat) : List Box → Prop
  | [] => True
  | x :: xs => B ≤ x.blk ∧ geB B xs
theorem geB_mem {B : Nat} {bx : List Box} (h : geB B bx) : ∀ x ∈ bx, B ≤ x.blk := by
  induction bx with
  | nil => simp
  | cons x bx ih =>
    intro y hy
    rcases List.mem_cons.1 hy with rfl | hy
    · exact h.1
    · exact ih h.2 y hy
theorem notBox_of_ge {B b : Nat} {bx : List Box} (h : geB B bx) (hb : b < B) : notBox bx b := by
  induction bx with
  | nil => trivial
  | cons x bx ih => exact ⟨Nat.ne_of_lt (Nat.lt_of_lt_of_le hb h.1), ih h.2⟩
/-- one step further: what the call's own boxes, and what it makes, are -/
theorem Sync.on {bx : List Box} {V W w : World} {B : Nat} (h : Sync bx W w) (hV : RowKit.Below B V W) (hB : B ≤ V.heap.size) (hb : geB B bx) : RowKit.Below B V w :=
  hV.trans (h.below (Nat.le_trans hB hV.size) (geB_mem hb))
theorem below_on {V W w : World} {B : Nat} (hV : RowKit.Below B V W) (hB : B ≤ V.heap.size) (h : RowKit.Below W.heap.size W w) : RowKit.Below B V w :=
  hV.trans (h.mono (Nat.le_trans hB hV.size))

/-- a call whose contract names its answer -/
theorem onCall {P : Program} {f : FuncId} {args : Array Value} {v : Value} {bx : List Box} {B : Nat} {V W W1 : World} {ids : List Nat} {K : Value → World → Prop} (hs : Sync bx W W1) (hV : RowKit.Below B V W) (hB : B ≤ V.heap.size) (hb : geB B bx)
    (hc : CallsX P f args W1 fun u w' => u = v ∧ RowKit.Below W1.heap.size W1 w') (k : ∀ W2, RowKit.Below B V W2 → K v W2) : CallsX P f args W1 fun u w' => Kept (keptB ids 0 bx) W1 w' ∧ K u w' :=
  hc.mono fun _ W2 ⟨e, h2⟩ => e ▸ ⟨Kept.of_below' _ hs h2, k W2 (below_on (hs.on hV hB hb) hB h2)⟩

/-- a slice of numbers that came in, as far as it is read -/
def RowI (k : IntKind) (w : World) (a : Option Addr) (n : Nat) (zs : List Int) : Prop :=
  ∀ i, i < n → ∃ x, a = some x ∧ w.cell? (x.add i) = some (.int k (zs.getD i 0)) ∧ x.block < w.heap.size
theorem addLt (x : Addr) (j B : Nat) (h : x.block < B) : (x.add j).block < B := by
  have e : (x.add j).block = x.block := by unfold Addr.add; split <;> rfl
  omega

def noDraw : DrawK := fun _ _ _ _ _ _ => False
theorem noDraw_ok (P : Program) : DrawOk P noDraw := fun _ _ _ _ _ _ _ _ h _ => h.elim
end Go.Vc
