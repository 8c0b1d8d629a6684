import Derived.Test.YtllkmncnmlmefaaGreatB3
import Derived.Laws.Bits64
import Derived.Laws.Bits64b
namespace Go.Vc
open Go Go.RowKit
/-! ### What a function leaves -/
theorem bkM_len : ∀ (l : List BK) (r : DT) (z : (bkT l r).den) (rw : List DR), (bkM l r z rw).1.length = l.length
  | [], _, _, _ => rfl
  | Bk :: l, r, z, rw => by simp only [bkM, List.length_cons]; rw [bkM_len l r]
section
variable {V : World} {U0 L : Nat → Prop} {B : Nat → Nat} {A : Asg} {pb : DBs} {rw : List DR} {w : World}
theorem lend_blk {σ : Nat → Option Nat} {rs : List (Option Nat)} {pb0 : DBs} {rw0 : List DR} (hb : ∀ (k : Nat) (b0 : DB), pb0[k]? = some (some b0) → ∃ i b, σ k = some i ∧ pb[i]? = some (some b) ∧ b0.ty = b.ty ∧ b0.w = true)
    (hr : ∀ (n : Nat) (r : DR), rw0[n]? = some r → (∃ j e t l, rs[n]? = some (some j) ∧ rw[j]? = some r ∧ r = .own e t l) ∨ (rs[n]? = some none ∧ ∃ e t, r = .own e t [])) :
    (∀ n b, blk (lB B σ) (lA A rs) pb0 rw0 true n b → ∃ j, rs[n]? = some (some j) ∧ blk B A pb rw true j b) ∧ (∀ k b, blk (lB B σ) (lA A rs) pb0 rw0 false k b → ∃ i, σ k = some i ∧ blk B A pb rw false i b) := by
  constructor
  · rintro n b ⟨r, ad, g1, g2, g3, g4⟩
    rcases hr n r g1 with ⟨j, e, t, l, k1, k2, k3⟩ | ⟨k1, _⟩
    · refine ⟨j, k1, r, ad, k2, g2, ?_, g4⟩
      simpa only [lA, k1] using g3
    · simp only [lA, k1] at g3; cases g3
  · rintro k b ⟨⟨b0, g1⟩, g2⟩
    obtain ⟨i, b1, k1, k2, _⟩ := hb k b0 g1
    exact ⟨i, k1, ⟨b1, k2⟩, by simpa only [lB, k1, Option.getD_some] using g2⟩
theorem Mem.leave (m : Mem V U0 L B A pb rw w) {σ : Nat → Option Nat} {rs : List (Option Nat)} {pb0 : DBs} {rw0 : List DR}
    (hb : ∀ (k : Nat) (b0 : DB), pb0[k]? = some (some b0) → ∃ i b, σ k = some i ∧ pb[i]? = some (some b) ∧ b0.ty = b.ty ∧ b0.w = true)
    (hc : ∀ (k : Nat) (b0 : DB) (i : Nat) (b : DB), pb0[k]? = some (some b0) → σ k = some i → pb[i]? = some (some b) → ∀ vs, hL (env U0 B A pb rw w) b.cells vs → hL (env U0 (lB B σ) (lA A rs) pb0 rw0 w) b0.cells vs)
    (hσ : ∀ (k k' i : Nat), σ k = some i → σ k' = some i → k = k')
    (hr : ∀ (n : Nat) (r : DR), rw0[n]? = some r → (∃ j e t l, rs[n]? = some (some j) ∧ rw[j]? = some r ∧ r = .own e t l) ∨ (rs[n]? = some none ∧ ∃ e t, r = .own e t []))
    (hρ : ∀ (n n' j : Nat), rs[n]? = some (some j) → rs[n']? = some (some j) → n = n') : Mem V U0 L (lB B σ) (lA A rs) pb0 rw0 w := by
  obtain ⟨h1, h2⟩ := lend_blk (B := B) (A := A) hb hr
  have h3 : ∀ k i b, blk (lB B σ) (lA A rs) pb0 rw0 k i b → ∃ i', blk B A pb rw k i' b := by
    intro k i b h
    cases k with
    | true => obtain ⟨j, _, h⟩ := h1 i b h; exact ⟨j, h⟩
    | false => obtain ⟨j, _, h⟩ := h2 i b h; exact ⟨j, h⟩
  have hU : ∀ b, Us U0 (lB B σ) (lA A rs) pb0 rw0 b → Us U0 B A pb rw b := by
    rintro b (h | ⟨k, i, h⟩)
    · exact .inl h
    · obtain ⟨i', h⟩ := h3 k i b h; exact .inr ⟨k, i', h⟩
  refine ⟨m.os, m.tape, m.output, m.size, m.same, m.u0, fun k i b h => ?_, fun k i k' i' b h h' => ?_, fun k b0 h => ?_, fun n e t l h => ?_, fun n d h => ?_⟩
  · obtain ⟨i', g⟩ := h3 k i b h; exact m.low k i' b g
  · cases k with
    | true =>
      obtain ⟨j, g1, g2⟩ := h1 i b h
      cases k' with
      | true => obtain ⟨j', g3, g4⟩ := h1 i' b h'; have := (m.inj _ _ _ _ _ g2 g4).2; subst this; exact ⟨rfl, hρ _ _ _ g1 g3⟩
      | false => obtain ⟨j', g3, g4⟩ := h2 i' b h'; have := (m.inj _ _ _ _ _ g2 g4).1; cases this
    | false =>
      obtain ⟨j, g1, g2⟩ := h2 i b h
      cases k' with
      | true => obtain ⟨j', g3, g4⟩ := h1 i' b h'; have := (m.inj _ _ _ _ _ g2 g4).1; cases this
      | false => obtain ⟨j', g3, g4⟩ := h2 i' b h'; have := (m.inj _ _ _ _ _ g2 g4).2; subst this; exact ⟨rfl, hσ _ _ _ g1 g3⟩
  · obtain ⟨i, b, g1, g2, g3, g4⟩ := hb k b0 h
    obtain ⟨cs, k1, k2, _⟩ := m.box i b g2
    exact ⟨cs, by simp only [lB, g1, Option.getD_some, g3]; exact k1, hc k b0 i b h g1 g2 cs k2, fun hw => by rw [g4] at hw; cases hw⟩
  · rcases hr n _ h with ⟨j, e', t', l', k1, k2, k3⟩ | ⟨k1, e', t', k3⟩
    · obtain ⟨xs, g1, g2⟩ := m.row j e t l k2
      refine ⟨xs, by simp only [lA, k1]; exact g1, DT.hs_mono ⟨fun _ _ _ => rfl, Nat.le_refl _, fun b _ h => hU b h⟩ g2⟩
    · simp only [DR.own.injEq] at k3
      obtain ⟨rfl, rfl, k3⟩ := k3
      cases k3
      exact ⟨[], by simp only [lA, k1]; exact World.ownsRow_nil w 0 e t.size, DT.hs_nil⟩
  · rcases hr n _ h with ⟨j, e', t', l', k1, k2, k3⟩ | ⟨k1, e', t', k3⟩ <;> cases k3
/-- THE END -/
theorem fin_ok (m : Mem V U0 L B A pb rw w) {El : List BK} {Q : QT} {am : List (Nat × Nat)} {e : (bkT El .unit).den} {y : Q.den} {p : DV} {v : Value} {ms ms' : MS} (hp : p.h (env U0 B A pb rw w) v)
    (hnd : nodupN (sndN am) = true) (hkl : keysLt am El.length = true) (hX : bkX am pb El 0 .unit ⟨[], rw⟩ (fun m => some ((), m)) = some (e, ms)) (hQ : Q.x am p ms = some (y, ms')) :
    ∃ A', Mem V U0 L (lB B (lkA am)) A' (bkM El .unit e []).1 (Q.mk y (bkM El .unit e []).2.2).2 w ∧ (Q.mk y (bkM El .unit e []).2.2).1.h (env U0 (lB B (lkA am)) A' (bkM El .unit e []).1 (Q.mk y (bkM El .unit e []).2.2).2 w) v ∧
      (bkM El .unit e []).1.length = El.length ∧ ∀ k, k < El.length → live (bkM El .unit e []).1 k := by
  obtain ⟨z0, m1, rw1, g1, g2, g3, ⟨a1, g4⟩, ⟨b1, g5⟩, g6, g7, g8⟩ := bkX_s (am := am) (E := env U0 B A pb rw w) El 0 .unit ⟨[], rw⟩ _ [] e ms hX (MI.nil (env U0 B A pb rw w))
  simp only [Option.some.injEq, Prod.mk.injEq] at g1
  obtain ⟨_, rfl⟩ := g1
  obtain ⟨k1, ⟨a2, k2⟩, k3⟩ := QT.x_s (am := am) (E := env U0 B A pb rw w) Q p m1 rw1 y ms' hQ g3
  have e1 : (bkM El .unit e []).2.2 = rw1 := by rw [g2]
  rw [e1]
  generalize hpb0 : (bkM El .unit e []).1 = pb0 at g6 g7 g8
  generalize hrw2 : (Q.mk y rw1).2 = rw2 at k1
  have hbw : ∀ (k : Nat) (b0 : DB), pb0[k]? = some (some b0) → ∃ i b, lkA am k = some i ∧ pb[i]? = some (some b) ∧ b0.ty = b.ty ∧ b0.w = true := fun k b0 h => by
    obtain ⟨i, b, h1, h2, h3, h4, _⟩ := g7 k b0 h
    rw [Nat.zero_add] at h1
    exact ⟨i, b, h1, h2, h3, h4⟩
  have hr := k1.row
  obtain ⟨h1, h2⟩ := lend_blk (B := B) (A := A) hbw hr
  have tri : TrI am ms'.rs (env U0 B A pb rw w) (env U0 (lB B (lkA am)) (lA A ms'.rs) pb0 rw2 w) := by
    refine ⟨⟨fun _ _ _ => rfl, Nat.le_refl _, fun b _ hu => ?_⟩, fun k i hk hl => ?_, fun n j e t l hn hj => ?_, fun n hn => ?_⟩
    · rcases hu with hu | ⟨k, i, hu⟩
      · exact .inl hu
      · cases k with
        | true => obtain ⟨j, _, h⟩ := h1 i b hu; exact .inr ⟨_, j, h⟩
        | false => obtain ⟨j, _, h⟩ := h2 i b hu; exact .inr ⟨_, j, h⟩
    · obtain ⟨b0, hb0⟩ := g8 k (keysLt_s hkl hk)
      refine ⟨⟨b0, hb0⟩, ?_⟩
      show lB B (lkA am) k = B i
      simp only [lB, hk, Option.getD_some]
    · obtain ⟨n', hn'⟩ : ∃ r, rw2[n]? = some r := ⟨_, List.getElem?_eq_getElem (by rw [← k1.len]; exact (List.getElem?_eq_some_iff.1 hn).1)⟩
      rcases hr n n' hn' with ⟨j', e', t', l', c1, c2, c3⟩ | ⟨c1, _⟩
      · rw [hn] at c1; simp only [Option.some.injEq] at c1; subst c1
        rw [hj] at c2; simp only [Option.some.injEq] at c2
        refine ⟨by rw [c2]; exact hn', ?_⟩
        show lA A ms'.rs n = A j
        simp only [lA, hn]
      · rw [hn] at c1; cases c1
    · obtain ⟨n', hn'⟩ : ∃ r, rw2[n]? = some r := ⟨_, List.getElem?_eq_getElem (by rw [← k1.len]; exact (List.getElem?_eq_some_iff.1 hn).1)⟩
      rcases hr n n' hn' with ⟨j', e', t', l', c1, c2, c3⟩ | ⟨_, e, t, c1⟩
      · rw [hn] at c1; cases c1
      · refine ⟨⟨e, t, by rw [← c1]; exact hn'⟩, ?_⟩
        show lA A ms'.rs n = (none, 0)
        simp only [lA, hn]
  refine ⟨lA A ms'.rs, m.leave hbw (fun k b0 i b c1 c2 c3 us hu => ?_) (fun k k' i h h' => lkA_inj hnd h h') hr k1.inj, k3 _ v ms'.rs ⟨[], by simp⟩ tri hp, g6, g8⟩
  obtain ⟨i', b', d1, d2, _, _, d5⟩ := g7 k b0 c1
  rw [Nat.zero_add, c2] at d1; simp only [Option.some.injEq] at d1; subst d1
  have d2 : pb[i]? = some (some b') := d2
  rw [c3] at d2; simp only [Option.some.injEq] at d2; subst d2
  have pre : ∀ (n : Nat) (x : Option Nat), m1.rs[n]? = some x → ms'.rs[n]? = some x := fun n x hn => by
    rw [k2, List.getElem?_append_left (List.getElem?_eq_some_iff.1 hn).1]; exact hn
  exact d5 _ ⟨[], by simp⟩ ⟨tri.sl, tri.bx, fun n j e t l hn hj => tri.row n j e t l (pre n _ hn) hj, fun n hn => tri.nil n (pre n _ hn)⟩ us hu
end
/-! ### Results, and the first slots -/
section
variable {P : Program} {T : List TI} {V : World} {U0 L : Nat → Prop} {B : Nat → Nat} {A : Asg} {ts : List DV} {pb : DBs} {rw : List DR} {a : Act} {w : World} {β : Type} {q : β} {C : ESs} {O : DTs} {JC JL : List (Nat × DJ)}
def resOne (tmps : Array Value) : ResultVar → Sem Value
  | .tmp t => pure (tmps.getD t undef)
  | .cell c t => do loadVar t (← asAddr (tmps.getD c undef))
theorem resE_s (hT : TableOk P T) (m : Mem V U0 L B A pb rw w) (hts : hL (env U0 B A pb rw w) ts a.tmps.toList) : ∀ (rs : List ResultVar) {K : List DV → Option β}, resE stdW T rs ts pb rw K = some q →
    ∃ xs vs, K xs = some q ∧ hL (env U0 B A pb rw w) xs vs ∧ (rs.mapM (resOne a.tmps)).run P w = .ok vs w
  | [], K, h => ⟨[], [], h, by simp [hL], by simp⟩
  | .tmp t :: rs, K, h => by
    simp only [resE] at h
    split at h
    · rename_i x hx
      obtain ⟨xs, vs, h1, h2, h3⟩ := resE_s hT m hts rs h
      have hv := gtV_h hx hts
      refine ⟨x :: xs, ((a.tmps.toList[t]?).getD undef) :: vs, h1, ?_, ?_⟩
      · simp only [hL]; exact ⟨_, _, rfl, hv, h2⟩
      · have e : a.tmps.getD t undef = (a.tmps.toList[t]?).getD undef := by simp
        simp only [List.mapM_cons, resOne, Sem.run_bind, Sem.run_pure, Result.andThen_ok, h3, e]
    · cases h
  | .cell c t :: rs, K, h => by
    simp only [resE] at h
    split at h
    · rename_i x hx
      have hv := gtV_h hx hts
      obtain ⟨r, u, ad, e1, g1, g2, g3, _⟩ := loadE_ok (P := P) hT m h hv
      obtain ⟨xs, vs, h1, h2, h3⟩ := resE_s hT m hts rs g1
      refine ⟨r :: xs, u :: vs, h1, ?_, ?_⟩
      · simp only [hL]; exact ⟨_, _, rfl, g2, h2⟩
      · have hr := g3 w rfl
        have e : a.tmps.getD c undef = .pointer (some ad) := by rw [← e1]; simp
        rw [e1] at hr
        simp only [Instr.loadAt, Instr.sureAddr, Sem.run_bind, Sem.run_pure, Result.andThen_ok] at hr
        simp only [List.mapM_cons, resOne, Sem.run_bind, e, asAddr, Sem.run_pure, Result.andThen_ok, hr, h3]
    · cases h
def oneW (vs : List Value) : Value := match vs with | [v] => v | vs => .tuple vs.toArray
theorem results_s (hT : TableOk P T) (m : Mem V U0 L B A pb rw w) (hts : hL (env U0 B A pb rw w) ts a.tmps.toList) {fn : Func} {K : List DV → Option β} (h : resE stdW T fn.results.toList ts pb rw K = some q) :
    ∃ xs v, K xs = some q ∧ (oneV xs).h (env U0 B A pb rw w) v ∧ (results fn a.tmps).run P w = .ok v w := by
  obtain ⟨xs, vs, h1, h2, h3⟩ := resE_s hT m hts _ h
  refine ⟨xs, oneW vs, h1, ?_, ?_⟩
  · cases xs with
    | nil => simp only [hL] at h2; subst h2; simp only [oneV, DV.h]; exact ⟨#[], rfl, by simp [hL]⟩
    | cons x xs =>
      cases xs with
      | nil =>
        simp only [hL] at h2
        obtain ⟨v, vs', rfl, h4, rfl⟩ := h2
        exact h4
      | cons y xs =>
        have h4 := h2
        simp only [hL] at h4
        obtain ⟨v, vs', rfl, _, v2, vs2, rfl, _⟩ := h4
        simp only [oneV, DV.h]
        exact ⟨_, rfl, h2⟩
  · unfold results
    rw [Sem.run_bind, Array.mapM_eq_mapM_toList, Sem.run_map]
    have e : ∀ f : ResultVar → Sem Value, f = resOne a.tmps → (fn.results.toList.mapM f).run P w = (fn.results.toList.mapM (resOne a.tmps)).run P w := fun f h => by rw [h]
    rw [e _ (by funext x; cases x <;> rfl), h3]
    simp only [Result.andThen_ok]
    match vs with
    | [] => simp [oneW]
    | [x] => simp [oneW]
    | x :: y :: zs => simp [oneW]
theorem initE_s : ∀ (xs : List DV) (n : Nat) {K : List DV → Option β}, initE xs n K = some q → K (xs ++ List.replicate (n - xs.length) .und) = some q ∧ xs.length ≤ n
  | [], n, K, h => ⟨by simpa [initE] using h, by simp⟩
  | x :: xs, n + 1, K, h => by
    have := initE_s xs n h
    simpa using this
  | _ :: _, 0, _, h => by simp [initE] at h
theorem hL_und {E : Env} : ∀ n, hL E (List.replicate n .und) (List.replicate n undef)
  | 0 => by simp [hL]
  | n + 1 => by simp only [List.replicate_succ, hL, DV.h]; exact ⟨_, _, rfl, rfl, hL_und n⟩
/-- WHAT THE EVALUATOR FINDS IS WHAT THE FUNCTION DOES -/
theorem body_ok [EqB β] (hT : TableOk P T) (hC : CsOk P C) (hm : P.follows .mixedOrders = true) {f : FuncId} {fn : Func} {c : Code} (hf : P.funcs[f]? = some fn) (hb : fn.body = some c) (hn : (fn.name == "runtime.NumGoroutine") = false)
    {args : List DV} {R : Exit → DK β} {G : Value → World → Prop} {vs : List Value} (h : initE args fn.ntmps (fun ts => ev stdW T C O JC JL c R ts pb rw) = some q) (m : Mem V U0 L B A pb rw w) (hargs : hL (env U0 B A pb rw w) args vs)
    (hR : ∀ (e : Exit), ¬ (e = .normal ∨ e = .ret) → ∀ ts pb rw, R e ts pb rw ≠ some q)
    (hG : ∀ (e : Exit), (e = .normal ∨ e = .ret) → ∀ (B' : Nat → Nat) (A' : Asg) (ts' : List DV) (pb' : DBs) (rw' : List DR) (a' : Act) (w' : World), Mem V U0 L B' A' pb' rw' w' → hL (env U0 B' A' pb' rw' w') ts' a'.tmps.toList → (∀ i, live pb i → live pb' i ∧ B' i = B i) → R e ts' pb' rw' = some q →
      ∃ v, (results fn a'.tmps).run P w' = .ok v w' ∧ G v w') : CallsX P f vs.toArray w G := by
  refine ⟨.inl ⟨⟨fn, hf, hn, by simp [hb]⟩, ?_⟩⟩
  obtain ⟨h, hlen⟩ := initE_s _ _ h
  have e : ({ tmps := vs.toArray ++ Array.replicate (fn.ntmps - vs.toArray.size) undef, defers := [] } : Act).tmps.toList = vs ++ List.replicate (fn.ntmps - args.length) undef := by
    simp [hL_len hargs]
  have hts : hL (env U0 B A pb rw w) (args ++ List.replicate (fn.ntmps - args.length) .und) ({ tmps := vs.toArray ++ Array.replicate (fn.ntmps - vs.toArray.size) undef, defers := [] } : Act).tmps.toList := by
    rw [e]; exact hL_app hargs (hL_und _)
  refine calls_of_wp hf hb (wp_mono (ev_ok hT hC hm c h m hts) fun e a' w' hq => ?_)
  obtain ⟨he, ⟨B', A', ts', pb', rw', m', h1, h2, h3, h4⟩, _⟩ := hq
  cases e with
  | normal =>
    obtain ⟨v, k1, k2⟩ := hG _ (.inl rfl) _ _ _ _ _ _ _ m' h1 h4 h2
    exact ⟨h3, v, k1, v, rfl, k2⟩
  | ret =>
    obtain ⟨v, k1, k2⟩ := hG _ (.inr rfl) _ _ _ _ _ _ _ m' h1 h4 h2
    exact ⟨h3, v, k1, v, rfl, k2⟩
  | exit i => exact absurd h2 (hR _ (by simp) _ _ _)
  | _ => exact he.elim
theorem evFL_ok (hT : TableOk P T) (hC : CsOk P C) (hm : P.follows .mixedOrders = true) {f : FuncId} {fn : Func} {c : Code} (hf : P.funcs[f]? = some fn) (hb : fn.body = some c) (hn : (fn.name == "runtime.NumGoroutine") = false) {s : LS}
    (h : ∀ z o, s.fn z = some o → evFL stdW T C O JC JL fn s z = some o) : LSok P f s := by
  intro z o hz U0 B A vs w m hargs
  have h := h z o hz
  unfold evFL at h
  rw [hb] at h
  have hlen : (bkM s.B (pkT s.P .unit) z []).1.length = s.B.length := bkM_len _ _ _ _
  generalize bkM s.B (pkT s.P .unit) z [] = bm at h m hargs hlen ⊢
  obtain ⟨pb, y, rw0⟩ := bm
  dsimp only at h m hargs hlen ⊢
  generalize pkM s.P .unit y rw0 = pm at h m hargs ⊢
  obtain ⟨args, u, rw⟩ := pm
  dsimp only at h m hargs ⊢
  have hB : ∀ i, live pb i → i < s.B.length := fun i hi => by rw [← hlen]; exact live_lt hi
  letI := s.Q.eqb
  letI := (bkT s.E .unit).eqb
  have h : initE args fn.ntmps (fun ts => ev stdW T C O JC JL c (retL stdW T fn.results.toList s) ts pb rw) = some o := h
  refine body_ok hT hC hm hf hb hn h m hargs (fun e he ts pb rw hh => ?_) fun e he B' A' ts' pb' rw' a' w' m' hts hl hh => ?_
  · cases e <;> first | exact he (.inl rfl) | exact he (.inr rfl) | (simp only [retL] at hh; cases hh)
  · have hh : resE stdW T fn.results.toList ts' pb' rw' (fun xs => finL s ts' pb' rw' (oneV xs)) = some o := by
      rcases he with rfl | rfl <;> exact hh
    obtain ⟨xs, v, h1, h2, h3⟩ := results_s (P := P) hT m' hts hh
    refine ⟨v, h3, ?_⟩
    unfold finL at h1
    generalize idsB s.E 0 pb' (s.Q.ids (oneV xs) (idA s.B.length)) = am at h1
    dsimp only at h1
    obtain ⟨ts2, pb2, rw2, ps, h4, m2, _, h5, e2, _⟩ := frzE_s (al := fun _ => true) _ h1 m' hts (ps := [oneV xs]) (us := [v]) (by simp only [hL]; exact ⟨_, _, rfl, h2, rfl⟩)
    split at h4
    · rename_i p
      simp only [hL] at h5
      obtain ⟨v', vs', e5, h5, rfl⟩ := h5
      simp only [List.cons.injEq, and_true] at e5; subst e5
      split at h4
      · rename_i ee ms hck hX
        simp only [Bool.and_eq_true] at hck
        split at h4
        · rename_i y2 ms' hQ
          simp only [Option.some.injEq] at h4; subst h4
          obtain ⟨A3, m3, k1, k2, k3⟩ := fin_ok m2 h5 hck.1.1 hck.1.2 hX hQ
          refine ⟨_, A3, _, _, _, m3, k1, fun i hi => ?_, rfl, rfl⟩
          have hi2 := hB i hi
          have hlk := selfA_s hck.2 hi2
          refine ⟨k3 i (keysLt_s hck.1.2 hlk), ?_⟩
          simp only [lB, hlk, Option.getD_some]
          exact (hl i hi).2
        · cases h4
      · cases h4
    · cases h4
theorem evF_ok (hT : TableOk P T) (hC : CsOk P C) (hm : P.follows .mixedOrders = true) {f : FuncId} {fn : Func} {c : Code} (hf : P.funcs[f]? = some fn) (hb : fn.body = some c) (hn : (fn.name == "runtime.NumGoroutine") = false) {s : ES}
    (h : ∀ x q, s.fn x = some q → evF stdW T C O JC JL fn s.P s.Q x = some q) : ESok P f s := by
  intro x o hx U0 B A vs w m hargs
  have h := h x o hx
  unfold evF at h
  rw [hb] at h
  letI := s.Q.eqb
  have h : initE (argVs s.P x) fn.ntmps (fun ts => ev stdW T C O JC JL c (retD stdW T fn.results.toList s.Q) ts [] []) = some o := h
  refine body_ok hT hC hm hf hb hn h m hargs (fun e he ts pb rw hh => ?_) fun e he B' A' ts' pb' rw' a' w' m' hts hl hh => ?_
  · cases e <;> first | exact he (.inl rfl) | exact he (.inr rfl) | (simp only [retD] at hh; cases hh)
  · have hh : resE stdW T fn.results.toList ts' pb' rw' (fun xs => finD s.Q ts' pb' rw' (oneV xs)) = some o := by
      rcases he with rfl | rfl <;> exact hh
    obtain ⟨xs, v, h1, h2, h3⟩ := results_s (P := P) hT m' hts hh
    refine ⟨v, h3, ?_⟩
    unfold finD at h1
    obtain ⟨ts2, pb2, rw2, ps, h4, m2, _, h5, e2, _⟩ := frzE_s (al := fun _ => true) _ h1 m' hts (ps := [oneV xs]) (us := [v]) (by simp only [hL]; exact ⟨_, _, rfl, h2, rfl⟩)
    split at h4
    · rename_i p
      simp only [hL] at h5
      obtain ⟨v', vs', e5, h5, rfl⟩ := h5
      simp only [List.cons.injEq, and_true] at e5; subst e5
      split at h4
      · rename_i y2 ms' hQ
        simp only [Option.some.injEq] at h4; subst h4
        obtain ⟨A3, m3, k1, k2, k3⟩ := fin_ok (El := []) (am := []) (e := ()) m2 h5 rfl rfl rfl hQ
        exact ⟨_, A3, _, _, _, m3, k1, fun i hi => (by obtain ⟨b, hb⟩ := hi; simp at hb), rfl, rfl⟩
      · cases h4
    · cases h4
end
end Go.Vc

namespace Go.Vc
open Go Go.RowKit
/-! ### Contracts of a program's functions, each with its proof -/
/-- a tree without forks: true = a reader -/
def ofL : List (Nat × Bool) → OT
  | [] => .nil
  | (i, true) :: l => .rd i (ofL l)
  | (i, false) :: l => .op i (ofL l)
abbrev DS.i : DS := .t (.int .i64)
abbrev DS.b : DS := .t .bool
abbrev PK.i : PK := .v (.int .i64)
abbrev PK.b : PK := .v .bool
abbrev QT.i : QT := .v (.int .i64)
abbrev QT.b : QT := .v .bool
abbrev DT.p1 (a : DT) : DT := .pair a .unit
abbrev DT.p2 (a b : DT) : DT := .pair a (.pair b .unit)
abbrev QT.p1 (a : QT) : QT := .pair a .unit
abbrev QT.p2 (a b : QT) : QT := .pair a (.pair b .unit)
structure KC (P : Program) where
  n : Nat
  c : Wd → EC
  ok : ECok P n (c stdW)
def kcs {P : Program} : List (KC P) → Wd → ESs
  | [], _ => []
  | k :: l, W => (k.n, k.c W) :: kcs l W
theorem kcs_ok {P : Program} : ∀ l : List (KC P), CsOk P (kcs l stdW)
  | [] => trivial
  | k :: l => ⟨k.ok, kcs_ok l⟩
/-- what is asked of a program, once -/
structure KProg (P : Program) (T : List TI) : Prop where
  tab : TableOk P T
  mixed : P.follows .mixedOrders = true
def kes {P : Program} {T : List TI} (kp : KProg P T) (n : Nat) (A : DT) (Q : QT) (F : Wd → A.den → Option Q.den) (l : List (KC P)) (O : DTs) (JC JL : List (Nat × DJ)) {fn : Func} {c : Code} (hf : P.funcs[n]? = some fn) (hb : fn.body = some c) (hn : (fn.name == "runtime.NumGoroutine") = false := by decide +kernel)
    (h : ∀ W x, evF W T (kcs l W) O JC JL fn A Q x = F W x) : KC P :=
  ⟨n, fun W => .es ⟨A, Q, F W⟩, evF_ok kp.tab (kcs_ok l) kp.mixed hf hb hn fun x q hx => (h stdW x).trans hx⟩
def kls {P : Program} {T : List TI} (kp : KProg P T) (n : Nat) (B : List BK) (A : List PK) (E : List BK) (Q : QT) (F : Wd → (bkT B (pkT A .unit)).den → Option (Q.den × (bkT E .unit).den)) (l : List (KC P)) (O : DTs) (JC JL : List (Nat × DJ)) {fn : Func} {c : Code} (hf : P.funcs[n]? = some fn) (hb : fn.body = some c) (hn : (fn.name == "runtime.NumGoroutine") = false := by decide +kernel)
    (h : ∀ W z, evFL W T (kcs l W) O JC JL fn ⟨B, A, E, Q, F W⟩ z = F W z) : KC P :=
  ⟨n, fun W => .ls ⟨B, A, E, Q, F W⟩, evFL_ok kp.tab (kcs_ok l) kp.mixed hf hb hn fun z o hz => (h stdW z).trans hz⟩
end Go.Vc
namespace Go.Vc
open Go Go.RowKit
variable {β : Type} {r : β}

/-! ### The words, in plain laws -/
/-- a loop does what g says, if each round does, whatever smaller rounds do -/
theorem loop_ok {X : Type} {f : X → (X → Option β) → Option β} (μ : X → Nat) (R : X → Prop) (g : X → Option β)
    (h : ∀ z, R z → ∀ again : X → Option β, (∀ z', R z' → μ z' < μ z → again z' = g z') → f z again = g z) : ∀ (n : Nat) (z : X), R z → μ z < n → loopF n f z = g z
  | 0, z, _, hm => by omega
  | n + 1, z, hz, hm => h z hz _ fun z' hz' hm' => loop_ok μ R g h n z' hz' (by omega)
theorem loop_std {X : Type} {f : X → (X → Option β) → Option β} (μ : X → Nat) (R : X → Prop) (g : X → Option β) {z : X} (hz : R z) (hm : μ z < 18446744073709551616)
    (h : ∀ z, R z → ∀ again : X → Option β, (∀ z', R z' → μ z' < μ z → again z' = g z') → f z again = g z) : stdW.loop f z = g z :=
  loop_ok μ R g h FU z hz (by rw [FU_eq]; exact hm)
theorem both_eq [EqB β] (a : Option β) : bothF a a = a := by
  unfold bothF
  cases a with
  | none => rfl
  | some x => show (bif EqB.eq x x then some x else none) = some x; rw [(EqB.iff x x).2 rfl]; rfl
theorem idx_eq {α : Type} {l : List α} {i : Nat} (h : i < l.length) (K : α → Option β) : idxF l (i : Int) K = K l[i] := by
  unfold idxF
  rw [Int.toNat_natCast, List.getElem?_eq_getElem h]
  simp
theorem nz_eq {b : Int} (h : b ≠ 0) (K : Option β) : nzF b K = K := by unfold nzF; simp [h]
theorem nn_eq {b : Int} (h : 0 ≤ b) (K : Option β) : nnF b K = K := by unfold nnF; simp [h]
theorem room_eq {n b : Nat} (h : n ≤ 281474976710656) (h2 : n * b ≤ 140737488355328) (K : Option β) : roomF n b K = K := by unfold roomF; simp [h, h2]
theorem bnd_eq {i : Int} {n : Nat} (h : 0 ≤ i) (h2 : i ≤ n) (K : Nat → Option β) : bndF i n K = K i.toNat := by unfold bndF; simp [h, h2]
theorem nilF_eq [EqB β] {e : Bool} {f : Bool → Option β} {b : Option β} (h0 : f false = b) (h1 : e = true → f true = b) : nilF e f = b := by
  unfold nilF
  cases e
  · exact h0
  · simp only [cond_true]; rw [h0, h1 rfl, both_eq]
end Go.Vc

namespace Go.Vc
open Go Go.RowKit
abbrev BigT := Bool × List Int × Unit
theorem drop_cons' {α : Type} (l : List α) (i : Nat) (h : i < l.length) : l.drop i = l[i] :: l.drop (i + 1) := List.drop_eq_getElem_cons h
/-! ### bits, the lowest first (plain) -/
def bitsOf (n : Nat) : List Int := if h : n = 0 then [] else ((n % 2 : Nat) : Int) :: bitsOf (n / 2)
termination_by n
decreasing_by omega
theorem bits0 : bitsOf 0 = [] := by rw [bitsOf]; rfl
theorem bitsS {n : Nat} (h : n ≠ 0) : bitsOf n = ((n % 2 : Nat) : Int) :: bitsOf (n / 2) := by rw [bitsOf]; simp [h]
def valB : List Int → Nat
  | [] => 0
  | x :: l => x.toNat + 2 * valB l
def bitL (l : List Int) : Prop := ∀ x ∈ l, x = 0 ∨ x = 1
def Nrm (l : List Int) : Prop := bitsOf (valB l) = l
theorem bitL_bits (n : Nat) : bitL (bitsOf n) := by
  induction n using Nat.strongRecOn with
  | ind n ih =>
    by_cases h : n = 0
    · subst h; rw [bits0]; intro x hx; cases hx
    · rw [bitsS h]; intro x hx
      rcases List.mem_cons.1 hx with rfl | hx
      · omega
      · exact ih (n / 2) (by omega) x hx
theorem Nrm.bits {l : List Int} (h : Nrm l) : bitL l := h ▸ bitL_bits _
def bv (x : BigT) : Int := if x.1 then -(valB x.2.1 : Int) else valB x.2.1
theorem i64_pred (i : Nat) (h : 0 < i) (h2 : i ≤ maxLen) : IntKind.i64.wrap (((i : Int)) - (1)) = ((i - 1 : Nat) : Int) := by
  rw [maxLen_eq] at h2; rw [IntWalk.i64_in _ (by omega)]; omega
def cmpI (x y : BigT) : Int := if bv x - bv y = 0 then 0 else if bv x - bv y < 0 then -1 else 1
theorem u64_id (z : Int) (h : 0 ≤ z ∧ z < 18446744073709551616) : IntKind.u64.wrap z = z := by simp only [IntKind.wrap, IntKind.signed, IntKind.bits]; simp; omega
theorem i64_succ (i : Nat) (h : i < 9223372036854775807) : IntKind.i64.wrap ((i : Int) + 1) = ((i + 1 : Nat) : Int) := by rw [IntWalk.i64_in _ (by omega)]; omega
end Go.Vc
namespace Go.Vc
open Go Go.RowKit
variable {β : Type}
/-! ### loops over a list -/
theorem loop_list {α S : Type} {l : List α} (hl : l.length ≤ 9223372036854775807) {f : Int × S → (Int × S → Option β) → Option β} (Inv : Nat → S → Prop) (g : List α → S → Option β) {s0 : S} (h0 : Inv 0 s0)
    (hend : ∀ s (again : Int × S → Option β), Inv l.length s → f ((l.length : Int), s) again = g [] s)
    (hstep : ∀ i (h : i < l.length) s, Inv i s → ∀ again : Int × S → Option β, (∀ s', Inv (i + 1) s' → again (((i + 1 : Nat) : Int), s') = g (l.drop (i + 1)) s') → f ((i : Int), s) again = g (l[i] :: l.drop (i + 1)) s) :
    stdW.loop f (0, s0) = g l s0 := by
  refine (loop_std (fun z => (l.length + 1) - z.1.toNat) (fun z => ∃ i : Nat, z.1 = (i : Int) ∧ i ≤ l.length ∧ Inv i z.2) (fun z => g (l.drop z.1.toNat) z.2) ⟨0, rfl, by omega, h0⟩ (by show l.length + 1 - 0 < _; omega) ?_).trans ?_
  · rintro ⟨z, s⟩ ⟨i, hi, hle, hs⟩ again ha
    dsimp only at hi hs
    subst hi
    simp only [Int.toNat_natCast]
    by_cases h : i < l.length
    · rw [drop_cons' l i h]
      refine hstep i h s hs again fun s' hs' => ?_
      have := ha (((i + 1 : Nat) : Int), s') ⟨i + 1, rfl, by omega, hs'⟩ (by simp only [Int.toNat_natCast]; omega)
      simpa only [Int.toNat_natCast] using this
    · obtain rfl : i = l.length := by omega
      rw [List.drop_length]
      exact hend s again hs
  · simp
theorem cnd_lt {i n : Nat} (h : i < n) (a b : Option β) : stdW.cnd (decide ((i : Int) < (n : Int))) a b = a := by rw [decide_eq_true (by omega)]; rfl
theorem cnd_end {n : Nat} (a b : Option β) : stdW.cnd (decide ((n : Int) < (n : Int))) a b = b := by rw [decide_eq_false (by omega)]; rfl
theorem cnd_y {c : Bool} (h : c = true) (a b : Option β) : stdW.cnd c a b = a := by subst h; rfl
theorem cnd_n {c : Bool} (h : c = false) (a b : Option β) : stdW.cnd c a b = b := by subst h; rfl
theorem idx_w {α : Type} {l : List α} {i : Nat} (h : i < l.length) (K : α → Option β) : stdW.idx l (i : Int) K = K l[i] := idx_eq h K
theorem nth_w {α : Type} {l : List α} {i : Nat} (h : i < l.length) (K : α → Option β) : stdW.nth l (Int.toNat (i : Int)) K = K l[i] := by
  show idxR l _ K = _
  unfold idxR
  rw [Int.toNat_natCast, List.getElem?_eq_getElem h]
theorem room_w {n b : Nat} (h : n ≤ 281474976710656) (h2 : n * b ≤ 140737488355328) (K : Option β) : stdW.room n b K = K := room_eq h h2 K
theorem nn_w {b : Int} (h : 0 ≤ b) (K : Option β) : stdW.nn b K = K := nn_eq h K
theorem both_w [EqB β] (a : Option β) : stdW.both a a = a := both_eq a
theorem two_w [EqB β] (a : Option β) : stdW.two a = a := both_eq a
theorem join_w {X : Type} (k : X → Option β) (f : (X → Option β) → Option β) : stdW.join k f = f k := rfl
theorem bnd_w {i : Int} {n : Nat} (h : 0 ≤ i) (h2 : i ≤ n) (K : Nat → Option β) : stdW.bnd i n K = K i.toNat := bnd_eq h h2 K
theorem i64_s (i : Nat) (h : i < 9223372036854775807) : IntKind.i64.wrap ((i : Int) + 1) = ((i + 1 : Nat) : Int) := i64_succ i h
end Go.Vc
namespace Go.Vc
variable {β : Type}
/-- a loop that counts up to N -/
theorem loop_n {S : Type} {N : Nat} (hN : N < 9223372036854775807) {f : Int × S → (Int × S → Option β) → Option β} (Inv : Nat → S → Prop) (r : Option β) {s0 : S} (h0 : Inv 0 s0)
    (hend : ∀ s (again : Int × S → Option β), Inv N s → f (((N : Nat) : Int), s) again = r)
    (hstep : ∀ i, i < N → ∀ s, Inv i s → ∀ again : Int × S → Option β, (∀ s', Inv (i + 1) s' → again (((i + 1 : Nat) : Int), s') = r) → f ((i : Int), s) again = r) :
    stdW.loop f (0, s0) = r := by
  refine (loop_std (fun z => (N + 1) - z.1.toNat) (fun z => ∃ i : Nat, z.1 = (i : Int) ∧ i ≤ N ∧ Inv i z.2) (fun _ => r) ⟨0, rfl, by omega, h0⟩ (by show N + 1 - 0 < _; omega) ?_)
  rintro ⟨z, s⟩ ⟨i, hi, hle, hs⟩ again ha
  dsimp only at hi hs
  subst hi
  by_cases h : i < N
  · refine hstep i h s hs again fun s' hs' => ?_
    exact ha (((i + 1 : Nat) : Int), s') ⟨i + 1, rfl, by omega, hs'⟩ (by simp only [Int.toNat_natCast]; omega)
  · obtain rfl : i = N := by omega
    exact hend s again hs
/-! ### sums -/
def sumBy {α : Type} (f : α → Int) (l : List α) : Int := (l.map f).sum
theorem sumBy_app {α : Type} (f : α → Int) (a b : List α) : sumBy f (a ++ b) = sumBy f a + sumBy f b := by simp [sumBy]
theorem call_w {α β : Type} {o : Option α} {a : α} (h : o = some a) (K : α → Option β) : stdW.call o K = K a := by subst h; rfl
end Go.Vc

namespace Go.Proofs.YtllkmncnmlmefaaGreat
open Go Go.Vc Go.RowKit Go.Lib
/-! ### A number's bytes (plain) -/
theorem i64c (z : Int) (h : -9223372036854775808 ≤ z ∧ z < 9223372036854775808) : IntKind.i64.wrap z = z := IntWalk.i64_in z (by omega)
def encU (u : Nat) : List Int := if h : u < 128 then [(u : Int)] else ((u % 128 + 128 : Nat) : Int) :: encU (u / 128)
termination_by u
decreasing_by omega
theorem encU_lt {u : Nat} (h : u < 128) : encU u = [(u : Int)] := by rw [encU, dif_pos h]
theorem encU_ge {u : Nat} (h : 128 ≤ u) : encU u = ((u % 128 + 128 : Nat) : Int) :: encU (u / 128) := by rw [encU, dif_neg (by omega)]
theorem encU_len : ∀ (k u : Nat), u < 128 ^ (k + 1) → (encU u).length ≤ k + 1
  | k, u, h => by
    rcases Nat.lt_or_ge u 128 with hu | hu
    · rw [encU_lt hu]; simp
    · rw [encU_ge hu]
      cases k with
      | zero => simp at h; omega
      | succ k =>
        have := encU_len k (u / 128) (by rw [Nat.pow_succ] at h; omega)
        simp; omega
theorem encU_len10 {u : Nat} (h : u < 18446744073709551616) : (encU u).length ≤ 10 := encU_len 9 u (by omega)

theorem u64c (z : Int) (h : 0 ≤ z ∧ z < 18446744073709551616) : IntKind.u64.wrap z = z := IntWalk.u64_in z (by omega)
theorem u8c (z : Int) (h : 0 ≤ z ∧ z < 256) : IntKind.u8.wrap z = z := IntWalk.u8_in z (by omega)
theorem tmodN (u : Nat) : (u : Int).tmod 128 = ((u % 128 : Nat) : Int) := by rw [Int.tmod_eq_emod_of_nonneg (by omega)]; omega
theorem tdivN (u : Nat) : (u : Int).tdiv 128 = ((u / 128 : Nat) : Int) := by rw [Int.tdiv_eq_ediv_of_nonneg (by omega)]; omega

/-- what a number folds to -/
def fold (n : Int) : Nat := if 0 ≤ n then 2 * n.toNat else 2 * (-(n + 1)).toNat + 1

theorem fold_lt (n : Int) (hn : -9223372036854775808 ≤ n ∧ n ≤ 9223372036854775807) : fold n < 18446744073709551616 := by unfold fold; split <;> omega

def encs (l : List Int) : List Int := l.flatMap fun n => encU (fold n)
theorem encU_pos (u : Nat) : 0 < (encU u).length := by
  rcases Nat.lt_or_ge u 128 with h | h
  · rw [encU_lt h]; simp
  · rw [encU_ge h]; simp
def Is64 (n : Int) : Prop := -9223372036854775808 ≤ n ∧ n ≤ 9223372036854775807

def uNext (sh u : Nat) (b : Int) : Nat := u ||| (b.toNat % 128 * 2 ^ sh % 18446744073709551616)
theorem uNext_lt {sh u : Nat} {b : Int} (hu : u < 18446744073709551616) : uNext sh u b < 18446744073709551616 := by
  have h1 : b.toNat % 128 * 2 ^ sh % 18446744073709551616 < 2 ^ 64 := by omega
  have := Nat.or_lt_two_pow (show u < 2 ^ 64 by omega) h1
  unfold uNext; omega
theorem uNext_bits {sh u : Nat} {b : Int} (hu : u < 18446744073709551616) (hs : sh ≤ 63) (hb : 0 ≤ b ∧ b < 256) :
    bits BinOp.or IntKind.u64 (u : Int) (IntKind.u64.wrap (IntKind.u64.wrap (bits BinOp.and IntKind.u8 b 127) * 2 ^ min (Int.toNat (sh : Int)) IntKind.u64.bits)) = (uNext sh u b : Int) := by
  have h : ∀ n : Fin 256, bits BinOp.and IntKind.u8 ((n.val : Nat) : Int) 127 = ((n.val % 128 : Nat) : Int) := by decide +kernel
  have h1 := h ⟨b.toNat, by omega⟩
  have hbn : ((b.toNat : Nat) : Int) = b := by omega
  dsimp only at h1
  rw [hbn] at h1
  have hm : min (Int.toNat (sh : Int)) IntKind.u64.bits = sh := by
    have : IntKind.u64.bits = 64 := by decide +kernel
    rw [this, Int.toNat_natCast]
    exact Nat.min_eq_left (by omega)
  rw [h1, hm, u64c ((b.toNat % 128 : Nat) : Int) (by omega), IntKind.wrap_u64]
  have e : (((b.toNat % 128 : Nat) : Int) * 2 ^ sh % 18446744073709551616) = ((b.toNat % 128 * 2 ^ sh % 18446744073709551616 : Nat) : Int) := by
    have e0 : ((2 ^ sh : Nat) : Int) = (2 : Int) ^ sh := by rw [Int.natCast_pow]; rfl
    rw [← e0, ← Int.natCast_mul]; omega
  rw [e, bits_or_u64_nat _ _ hu (by omega)]
  rfl

/-- a number's groups -/
def numS : Nat → Nat → List Int → Option Nat × List Int × Int
  | _, _, [] => (none, [], 4)
  | sh, u, b :: r => if 63 < sh ∨ (sh = 63 ∧ 1 < b) ∨ (b = 0 ∧ 0 < sh) then (none, [], 3) else if b < 128 then (some (uNext sh u b), r, 0) else numS (sh + 7) (uNext sh u b) r

def unf (u : Nat) : Int := if u % 2 = 0 then ((u / 2 : Nat) : Int) else -((u / 2 : Nat) : Int) - 1
theorem xor_i64_0 (a : Nat) (h : a < 9223372036854775808) : bits .xor .i64 (a : Int) 0 = (a : Int) := by
  have h1 : (BitVec.ofInt 64 (a : Int)).toNat = a := by
    rw [BitVec.ofInt_natCast, BitVec.toNat_ofNat]; exact Nat.mod_eq_of_lt (by omega)
  show IntKind.i64.wrap ((BitVec.ofInt 64 (a : Int) ^^^ BitVec.ofInt 64 0).toNat : Int) = _
  have h2 : BitVec.ofInt 64 0 = 0#64 := by decide
  rw [h2, BitVec.xor_zero, h1, i64c _ (by omega)]
theorem xor_i64_1 (a : Nat) (h : a < 9223372036854775808) : bits .xor .i64 (a : Int) (-1) = -(a : Int) - 1 := by
  have h1 : (BitVec.ofInt 64 (a : Int)).toNat = a := by
    rw [BitVec.ofInt_natCast, BitVec.toNat_ofNat]; exact Nat.mod_eq_of_lt (by omega)
  show IntKind.i64.wrap ((BitVec.ofInt 64 (a : Int) ^^^ BitVec.ofInt 64 (-1)).toNat : Int) = _
  have h2 : BitVec.ofInt 64 (-1) = BitVec.allOnes 64 := by decide
  rw [h2, BitVec.xor_allOnes, BitVec.toNat_not, h1, IntKind.wrap_i64]
  omega
theorem unf_bits (u : Nat) (hu : u < 18446744073709551616) : bits BinOp.xor IntKind.i64 (IntKind.i64.wrap ((u : Int).fdiv (2 ^ min (Int.toNat 1) IntKind.u64.bits))) (IntKind.i64.wrap (0 - IntKind.i64.wrap (bits BinOp.and IntKind.u64 (u : Int) 1))) = unf u := by
  have e : (2 : Int) ^ min (Int.toNat 1) IntKind.u64.bits = 2 := by decide +kernel
  have e1 : bits BinOp.and IntKind.u64 (u : Int) 1 = ((u % 2 : Nat) : Int) := by
    have := bits_and_u64_nat u 1 hu (by decide)
    rw [Nat.and_one_is_mod] at this
    exact this
  rw [e, e1, Int.fdiv_eq_ediv_of_nonneg _ (by omega), show (u : Int) / 2 = ((u / 2 : Nat) : Int) by omega, i64c ((u / 2 : Nat) : Int) (by omega), i64c ((u % 2 : Nat) : Int) (by omega), i64c _ (by omega)]
  unfold unf
  by_cases h : u % 2 = 0
  · rw [if_pos h, h]; exact xor_i64_0 _ (by omega)
  · have h1 : u % 2 = 1 := by omega
    rw [if_neg h, h1]; exact xor_i64_1 _ (by omega)
/-- what a reading of a number answers, and what is left, and the error -/
def rdInt (bs : List Int) (e lo hi : Int) : Int × List Int × Int :=
  if e ≠ 0 then (0, bs, e) else
  match numS 0 0 bs with
  | (none, r, e') => (0, r, e')
  | (some u, r, e') => if unf u < lo ∨ hi < unf u then (0, [], 7) else (unf u, r, e')
theorem numS_lt : ∀ (bs : List Int) (sh u : Nat), u < 18446744073709551616 → ∀ x, (numS sh u bs).1 = some x → x < 18446744073709551616
  | [], sh, u, hu, x, h => by simp [numS] at h
  | b :: r, sh, u, hu, x, h => by
    unfold numS at h
    split at h
    · simp at h
    · split at h
      · simp at h; rw [← h]; exact uNext_lt hu
      · exact numS_lt r _ _ (uNext_lt hu) x h

theorem or_add (acc x k : Nat) (h : acc < 2 ^ k) : acc ||| (x * 2 ^ k) = acc + x * 2 ^ k := by
  rw [Nat.mul_comm, Nat.or_comm, ← Nat.two_pow_add_eq_or_of_lt h, Nat.add_comm]
theorem uNext_add {sh acc b : Nat} (ha : acc < 2 ^ sh) (hx : b % 128 * 2 ^ sh < 18446744073709551616) : uNext sh acc (b : Int) = acc + b % 128 * 2 ^ sh := by
  unfold uNext
  rw [Int.toNat_natCast, Nat.mod_eq_of_lt hx, or_add _ _ _ ha]
theorem pow_split (sh : Nat) (h : sh ≤ 64) : 2 ^ (64 - sh) * 2 ^ sh = 18446744073709551616 := by
  rw [← Nat.pow_add, Nat.sub_add_cancel h]

theorem groups (v P acc : Nat) : acc + v % 128 * P + v / 128 * (128 * P) = acc + v * P := by
  have h : v * P = (128 * (v / 128) + v % 128) * P := by congr 1; omega
  have h2 : v / 128 * (128 * P) = 128 * (v / 128) * P := by rw [← Nat.mul_assoc, Nat.mul_comm (v / 128) 128]
  rw [h, h2, Nat.add_mul]; omega
/-- what was written is read -/
theorem numS_enc : ∀ (k v acc : Nat) (r : List Int), k ≤ 9 → acc < 2 ^ (7 * k) → v < 2 ^ (64 - 7 * k) → (0 < k → 0 < v) → numS (7 * k) acc (encU v ++ r) = (some (acc + v * 2 ^ (7 * k)), r, 0) := by
  intro k
  have main : ∀ m k, 9 - k = m → ∀ (v acc : Nat) (r : List Int), k ≤ 9 → acc < 2 ^ (7 * k) → v < 2 ^ (64 - 7 * k) → (0 < k → 0 < v) → numS (7 * k) acc (encU v ++ r) = (some (acc + v * 2 ^ (7 * k)), r, 0) := by
    intro m
    induction m with
    | zero =>
      intro k hk v acc r h9 ha hv hp
      have : k = 9 := by omega
      subst this
      have hv' : v < 2 := hv
      have h1 : v = 1 := by have := hp (by omega); omega
      subst h1
      rw [encU_lt (by omega)]
      have e := uNext_add (sh := 63) (acc := acc) (b := 1) ha (by decide)
      simp only [List.cons_append, List.nil_append]
      unfold numS
      rw [if_neg (by omega), if_pos (by omega)]
      rw [show ((1 : Nat) : Int) = 1 from rfl] at e ⊢
      rw [e]
    | succ m ih =>
      intro k hk v acc r h9 ha hv hp
      have hk9 : k < 9 := by omega
      rcases Nat.lt_or_ge v 128 with h | h
      · rw [encU_lt h]
        simp only [List.cons_append, List.nil_append]
        unfold numS
        rw [if_neg (by omega), if_pos (by omega)]
        have hb : v % 128 * 2 ^ (7 * k) < 18446744073709551616 := by
          rw [← pow_split (7 * k) (by omega)]
          exact Nat.mul_lt_mul_of_pos_right (by rw [Nat.mod_eq_of_lt h]; exact hv) (Nat.pow_pos (by decide))
        rw [uNext_add ha hb, Nat.mod_eq_of_lt h]
      · rw [encU_ge h]
        simp only [List.cons_append]
        unfold numS
        rw [if_neg (by omega), if_neg (by omega)]
        have hmod : (v % 128 + 128) % 128 = v % 128 := by omega
        have hvd : v % 128 * 2 ^ (7 * k) < 18446744073709551616 := by
          rw [← pow_split (7 * k) (by omega)]
          exact Nat.mul_lt_mul_of_pos_right (Nat.lt_of_le_of_lt (Nat.mod_le _ _) hv) (Nat.pow_pos (by decide))
        have e := uNext_add (sh := 7 * k) (acc := acc) (b := v % 128 + 128) ha (by rw [hmod]; exact hvd)
        rw [e, hmod]
        have hpow : 2 ^ (7 * (k + 1)) = 128 * 2 ^ (7 * k) := by rw [show 7 * (k + 1) = 7 + 7 * k by omega, Nat.pow_add]
        have hacc : acc + v % 128 * 2 ^ (7 * k) < 2 ^ (7 * (k + 1)) := by
          rw [hpow]
          have : v % 128 * 2 ^ (7 * k) ≤ 127 * 2 ^ (7 * k) := Nat.mul_le_mul_right _ (by omega)
          omega
        have hv2 : v / 128 < 2 ^ (64 - 7 * (k + 1)) := by
          rw [Nat.div_lt_iff_lt_mul (by decide)]
          have : 2 ^ (64 - 7 * (k + 1)) * 128 = 2 ^ (64 - 7 * k) := by rw [show 64 - 7 * k = (64 - 7 * (k + 1)) + 7 by omega, Nat.pow_add]
          omega
        have := ih (k + 1) (by omega) (v / 128) _ r (by omega) hacc hv2 (by omega)
        rw [show 7 * k + 7 = 7 * (k + 1) by omega, this, hpow]
        rw [groups v (2 ^ (7 * k)) acc]
  exact main _ k rfl

/-- bytes that are read are those of the number -/
theorem numS_canon : ∀ (bs : List Int) (k acc u : Nat) (r : List Int) (e : Int), (∀ b ∈ bs, 0 ≤ b ∧ b < 256) → k ≤ 10 → acc < 2 ^ (7 * k) → numS (7 * k) acc bs = (some u, r, e) →
    ∃ v, bs = encU v ++ r ∧ u = acc + v * 2 ^ (7 * k) ∧ (0 < k → 0 < v) ∧ k ≤ 9 ∧ v < 2 ^ (64 - 7 * k) ∧ e = 0
  | [], _, _, _, _, _, _, _, _, h => by simp [numS] at h
  | b :: bs, k, acc, u, r, e, hb, hk, ha, h => by
    have hb0 := hb b (by simp)
    obtain ⟨n, rfl⟩ := Int.eq_ofNat_of_zero_le hb0.1
    unfold numS at h
    split at h
    · simp at h
    · rename_i hc
      have hk9 : k ≤ 9 := by omega
      have hbound : n % 128 * 2 ^ (7 * k) < 18446744073709551616 := by
        rcases Nat.lt_or_ge k 9 with h9 | h9
        · have h1 : n % 128 * 2 ^ (7 * k) ≤ 127 * 2 ^ (7 * k) := Nat.mul_le_mul_right _ (by omega)
          have h2 : 2 ^ (7 * k) ≤ 2 ^ 56 := Nat.pow_le_pow_right (by decide) (by omega)
          have h3 : (2 : Nat) ^ 56 = 72057594037927936 := by decide
          omega
        · have : k = 9 := by omega
          subst this
          have hn1 : n ≤ 1 := by omega
          have h3 : (2 : Nat) ^ (7 * 9) = 9223372036854775808 := by decide
          rw [h3]; omega
      rw [uNext_add ha hbound] at h
      split at h
      · rename_i hlt
        simp only [Prod.mk.injEq, Option.some.injEq] at h
        obtain ⟨rfl, rfl, rfl⟩ := h
        have hn : n < 128 := by omega
        refine ⟨n, by rw [encU_lt hn]; rfl, by rw [Nat.mod_eq_of_lt hn], by omega, hk9, ?_, rfl⟩
        rw [Nat.mod_eq_of_lt hn, ← pow_split (7 * k) (by omega)] at hbound
        exact Nat.lt_of_mul_lt_mul_right hbound
      · rename_i hge
        have hn : 128 ≤ n ∧ n < 256 := by omega
        have hpow : 2 ^ (7 * (k + 1)) = 128 * 2 ^ (7 * k) := by rw [show 7 * (k + 1) = 7 + 7 * k by omega, Nat.pow_add]
        have hacc : acc + n % 128 * 2 ^ (7 * k) < 2 ^ (7 * (k + 1)) := by
          rw [hpow]
          have : n % 128 * 2 ^ (7 * k) ≤ 127 * 2 ^ (7 * k) := Nat.mul_le_mul_right _ (by omega)
          omega
        rw [show 7 * k + 7 = 7 * (k + 1) by omega] at h
        obtain ⟨v, h1, h2, h3, h4, h5, h6⟩ := numS_canon bs (k + 1) _ u r e (fun b hb' => hb b (by simp [hb'])) (by omega) hacc h
        have hv0 := h3 (by omega)
        refine ⟨128 * v + (n - 128), ?_, ?_, fun _ => by omega, hk9, ?_, h6⟩
        · rw [encU_ge (by omega), h1]
          have e1 : (128 * v + (n - 128)) % 128 + 128 = n := by omega
          have e2 : (128 * v + (n - 128)) / 128 = v := by omega
          rw [e1, e2]; rfl
        · rw [h2, hpow]
          have e1 : n % 128 = (128 * v + (n - 128)) % 128 := by omega
          have e2 : v = (128 * v + (n - 128)) / 128 := by omega
          have := groups (128 * v + (n - 128)) (2 ^ (7 * k)) acc
          rw [← e1, ← e2] at this
          exact this
        · have h7 : 2 ^ (64 - 7 * k) = 128 * 2 ^ (64 - 7 * (k + 1)) := by rw [show 64 - 7 * k = 7 + (64 - 7 * (k + 1)) by omega, Nat.pow_add]
          rw [h7]; omega

theorem unf_fold (n : Int) : unf (fold n) = n := by unfold unf fold; split <;> split <;> omega
theorem fold_unf (u : Nat) : fold (unf u) = u := by unfold unf fold; split <;> split <;> omega
theorem unf_is (u : Nat) (h : u < 18446744073709551616) : Is64 (unf u) := by unfold unf Is64; split <;> omega

theorem rdInt_enc (n : Int) (hn : Is64 n) (lo hi : Int) (r : List Int) (h : lo ≤ n ∧ n ≤ hi) : rdInt (encU (fold n) ++ r) 0 lo hi = (n, r, 0) := by
  have := numS_enc 0 (fold n) 0 r (by omega) (by decide) (by simpa using fold_lt n hn) (by omega)
  simp only [Nat.mul_zero, Nat.pow_zero, Nat.mul_one, Nat.zero_add] at this
  unfold rdInt
  rw [if_neg (by simp), this]
  simp only [unf_fold]
  rw [if_neg (by omega)]
theorem numS_none : ∀ (bs : List Int) (sh u : Nat) (r : List Int), numS sh u bs = (none, r, 0) → False
  | [], sh, u, r, h => by simp [numS] at h
  | b :: bs, sh, u, r, h => by
    unfold numS at h
    split at h
    · simp at h
    · split at h
      · simp at h
      · exact numS_none bs _ _ r h
/-- a reading of any number: what is left, and the bytes that it took -/
theorem rdInt_canon (bs : List Int) (hb : ∀ b ∈ bs, 0 ≤ b ∧ b < 256) (n : Int) (r : List Int) (lo hi : Int) (h : rdInt bs 0 lo hi = (n, r, 0)) : bs = encU (fold n) ++ r ∧ Is64 n := by
  unfold rdInt at h
  rw [if_neg (by simp)] at h
  cases hN : numS 0 0 bs with
  | mk o p =>
    obtain ⟨r', e'⟩ := p
    rw [hN] at h
    cases o with
    | none =>
      simp only [Prod.mk.injEq] at h
      obtain ⟨_, rfl, rfl⟩ := h
      exfalso
      exact numS_none bs 0 0 _ hN
    | some u =>
      simp only at h
      split at h
      · simp at h
      · simp only [Prod.mk.injEq] at h
        obtain ⟨rfl, rfl, rfl⟩ := h
        obtain ⟨v, h1, h2, _, _, h5, _⟩ := numS_canon bs 0 0 u r' 0 hb (by omega) (by decide) hN
        simp only [Nat.mul_zero, Nat.pow_zero, Nat.mul_one, Nat.zero_add] at h2
        subst h2
        exact ⟨by rw [fold_unf]; exact h1, unf_is _ (by simpa using h5)⟩
theorem rdInt_canon' (bs : List Int) (e lo hi : Int) (hb : ∀ b ∈ bs, 0 ≤ b ∧ b < 256) (he : e = 0) (h : (rdInt bs e lo hi).2.2 = 0) : bs = encU (fold (rdInt bs e lo hi).1) ++ (rdInt bs e lo hi).2.1 ∧ Is64 (rdInt bs e lo hi).1 := by
  subst he
  refine rdInt_canon bs hb _ _ lo hi ?_
  exact Prod.ext rfl (Prod.ext rfl h)
theorem numS_sub : ∀ (bs : List Int) (sh u : Nat), ∀ z ∈ (numS sh u bs).2.1, z ∈ bs
  | [], sh, u, z, h => by simp [numS] at h
  | b :: bs, sh, u, z, h => by
    unfold numS at h
    split at h
    · simp at h
    · split at h
      · exact List.mem_cons.2 (.inr h)
      · exact List.mem_cons.2 (.inr (numS_sub bs _ _ z h))
theorem rdInt_bytes (bs : List Int) (e lo hi : Int) (hb : ∀ z ∈ bs, 0 ≤ z ∧ z < 256) : ∀ z ∈ (rdInt bs e lo hi).2.1, 0 ≤ z ∧ z < 256 := by
  intro z hz
  refine hb z ?_
  have hs := numS_sub bs 0 0 z
  unfold rdInt at hz
  split at hz
  · exact hz
  · cases hN : numS 0 0 bs with
    | mk o p =>
      rw [hN] at hz hs
      cases o with
      | none => exact hs hz
      | some u =>
        simp only at hz
        split at hz
        · simp at hz
        · exact hs hz
theorem rdInt_err (bs : List Int) (e lo hi : Int) (h : (rdInt bs e lo hi).2.2 = 0) : e = 0 := by
  unfold rdInt at h
  split at h
  · exact h
  · omega
theorem xor_ones (x : Nat) (h : x < 18446744073709551616) : x ^^^ 18446744073709551615 = 18446744073709551615 - x := by
  have h1 : (BitVec.ofNat 64 x ^^^ BitVec.allOnes 64).toNat = x ^^^ 18446744073709551615 := by
    rw [BitVec.toNat_xor, BitVec.toNat_ofNat, BitVec.toNat_allOnes, Nat.mod_eq_of_lt (by simpa using h)]
  have h2 : BitVec.ofNat 64 x ^^^ BitVec.allOnes 64 = ~~~ BitVec.ofNat 64 x := by rw [BitVec.xor_allOnes]
  rw [← h1, h2, BitVec.toNat_not, BitVec.toNat_ofNat, Nat.mod_eq_of_lt (by simpa using h)]
theorem fold_bits (n : Int) (hn : Is64 n) : bits BinOp.xor IntKind.u64 (IntKind.u64.wrap (IntKind.i64.wrap (n * 2 ^ min (Int.toNat 1) IntKind.i64.bits))) (IntKind.u64.wrap (n.fdiv (2 ^ min (Int.toNat 63) IntKind.i64.bits))) = (fold n : Int) := by
  have e1 : (2 : Int) ^ min (Int.toNat 1) IntKind.i64.bits = 2 := by decide +kernel
  have e2 : (2 : Int) ^ min (Int.toNat 63) IntKind.i64.bits = 9223372036854775808 := by decide +kernel
  unfold Is64 at hn
  rw [e1, e2, IntKind.wrap_i64, IntKind.wrap_u64, IntKind.wrap_u64, Int.fdiv_eq_ediv_of_nonneg _ (by omega)]
  unfold fold
  by_cases h : 0 ≤ n
  · rw [if_pos h]
    have a1 : n / 9223372036854775808 % 18446744073709551616 = ((0 : Nat) : Int) := by omega
    rw [a1, show ((n * 2 + 9223372036854775808) % 18446744073709551616 - 9223372036854775808) % 18446744073709551616 = ((2 * n.toNat : Nat) : Int) by omega, bits_xor_u64_nat _ _ (by omega) (by omega), Nat.xor_zero]
  · rw [if_neg h]
    have a1 : n / 9223372036854775808 % 18446744073709551616 = ((18446744073709551615 : Nat) : Int) := by omega
    rw [a1, show ((n * 2 + 9223372036854775808) % 18446744073709551616 - 9223372036854775808) % 18446744073709551616 = (((n * 2 + 18446744073709551616).toNat : Nat) : Int) by omega, bits_xor_u64_nat _ _ (by omega) (by omega), xor_ones _ (by omega)]
    omega
theorem or128 (u : Nat) : bits BinOp.or IntKind.u8 (IntKind.u8.wrap (u : Int)) 128 = ((u % 128 + 128 : Nat) : Int) := by
  have h : ∀ n : Fin 256, bits BinOp.or IntKind.u8 ((n.val : Nat) : Int) 128 = ((n.val % 128 + 128 : Nat) : Int) := by decide +kernel
  have h1 := h ⟨u % 256, by omega⟩
  rw [IntKind.wrap_u8, show (u : Int) % 256 = ((u % 256 : Nat) : Int) by omega, h1]
  dsimp only
  omega
end Go.Proofs.YtllkmncnmlmefaaGreat
namespace Go.Proofs.YtllkmncnmlmefaaGreat
open Go Go.Vc Go.RowKit
/-! what functions with contracts by hand compute (the kernel can run it) -/
abbrev U0' := Int × Int × Unit
namespace Lot
end Lot
end Go.Proofs.YtllkmncnmlmefaaGreat

namespace Go.Proofs.YtllkmncnmlmefaaGreat
open Go Go.Vc Go.RowKit
/-! ### quotas put in order: who has more left, then who comes first -/
abbrev KQ3 := Int × Int × Int × Unit
def leQ (x y : KQ3) : Bool := decide (y.2.2.1 < x.2.2.1) || (x.2.2.1 == y.2.2.1 && decide (x.1 ≤ y.1))
def insQ (x : KQ3) : List KQ3 → List KQ3
  | [] => [x]
  | y :: l => bif leQ x y then x :: y :: l else y :: insQ x l
def srtQ : List KQ3 → List KQ3
  | [] => []
  | x :: l => insQ x (srtQ l)
theorem insQ_perm (x : KQ3) : ∀ l, (insQ x l).Perm (x :: l)
  | [] => .refl _
  | y :: l => by
    unfold insQ
    cases leQ x y with
    | true => exact .refl _
    | false => exact ((insQ_perm x l).cons y).trans (.swap x y l)
theorem srtQ_perm : ∀ l, (srtQ l).Perm l
  | [] => .refl _
  | x :: l => (insQ_perm x _).trans ((srtQ_perm l).cons x)
end Go.Proofs.YtllkmncnmlmefaaGreat
namespace Go.Proofs.YtllkmncnmlmefaaGreat
open Go Go.Vc Go.RowKit
open Lot
set_option maxRecDepth 100000
set_option synthInstance.maxSize 100000
set_option synthInstance.maxHeartbeats 0
set_option maxHeartbeats 8000000
@[reducible] def tAUnit : DT := (.pair (.int .i64) (.pair (.int .i64) .unit))
abbrev AUnit' := Int × Int × Unit
@[reducible] def tAPos : DT := (.pair tAUnit (.pair (.slc tAUnit) .unit))
abbrev APos' := AUnit' × (List AUnit') × Unit
@[reducible] def tALot : DT := (.pair (.int .i64) (.pair (.int .i64) (.pair (.int .i64) .unit)))
abbrev ALot' := Int × Int × Int × Unit
abbrev AAsset' := ALot'
@[reducible] def tAFlow : DT := (.pair tAUnit (.pair (.int .i64) .unit))
abbrev AFlow' := AUnit' × Int × Unit
@[reducible] def tAMember : DT := (.pair (.int .i64) (.pair (.int .i64) (.pair (.int .i64) (.pair (.int .i64) .unit))))
abbrev AMember' := Int × Int × Int × Int × Unit
@[reducible] def tAInst : DT := (.pair (.int .i64) (.pair (.int .i64) (.pair (.int .i64) (.pair (.int .i64) (.pair (.slc (.int .i64)) .unit)))))
abbrev AInst' := Int × Int × Int × Int × (List Int) × Unit
@[reducible] def tAAccount : DT := (.pair (.int .i64) (.pair (.int .i64) (.pair (.int .i64) (.pair (.slc (.int .i64)) .unit))))
abbrev AAccount' := Int × Int × Int × (List Int) × Unit
@[reducible] def tAChoice : DT := (.pair tAUnit (.pair tAUnit (.pair .bool .unit)))
abbrev AChoice' := AUnit' × AUnit' × Bool × Unit
@[reducible] def tAGroup : DT := (.pair (.int .i64) (.pair tAUnit (.pair (.int .i64) (.pair (.int .i64) (.pair (.int .i64) .unit)))))
abbrev AGroup' := Int × AUnit' × Int × Int × Int × Unit
@[reducible] def tAGive : DT := (.pair (.int .i64) (.pair tAUnit (.pair tAUnit (.pair tAUnit (.pair (.int .i64) (.pair (.int .i64) (.pair (.int .i64) (.pair (.int .i64) .unit))))))))
abbrev AGive' := Int × AUnit' × AUnit' × AUnit' × Int × Int × Int × Int × Unit
@[reducible] def tAHold : DT := (.pair tAUnit (.pair (.slc tALot) .unit))
abbrev AHold' := AUnit' × (List ALot') × Unit
@[reducible] def tAState : DT := (.pair (.int .i64) (.pair (.slc tAMember) (.pair (.slc tAInst) (.pair (.slc tALot) (.pair (.slc tAAccount) (.pair (.slc tAChoice) (.pair (.slc tAGroup) (.pair (.slc tAGive) (.pair (.slc tAPos) (.pair (.slc tAPos) (.pair (.slc tAFlow) (.pair (.slc tAHold) .unit))))))))))))
abbrev AState' := Int × (List AMember') × (List AInst') × (List ALot') × (List AAccount') × (List AChoice') × (List AGroup') × (List AGive') × (List APos') × (List APos') × (List AFlow') × (List AHold') × Unit
@[reducible] def tNovationref01Big : DT := (.pair .bool (.pair (.slc (.int .u8)) .unit))
abbrev Novationref01Big' := Bool × (List Int) × Unit
abbrev S8 := Int × List (Int) × Unit
abbrev S15 := Int × List AUnit' × Unit
abbrev S19 := Int × List AHold' × Unit
abbrev S23 := List (Int) × Unit
abbrev S26 := Int × Int × List (Int) × Unit
abbrev S27 := List AHold' × Unit
def law25_ShortW (W : Wd) (a : AAccount') : Option AAccount' := 
 W.join (fun (z1 : Int × Int × Int × List (Int) × Unit) => some z1)
  fun k2 => 
  W.cnd (decide (20 < (a.2.2.2.1.length : Int))) (W.bnd 20 a.2.2.2.1.length fun h3 => (k2 (U3 a ((a.2.2.2.1.take h3), ()))))
   ((k2 a))
abbrev law25_Short := law25_ShortW stdW
def ref12_IsW (W : Wd) (a : ALot') : Option Bool := 
 W.cnd (decide (0 < a.1)) (
  W.cnd (decide (a.1 < 5)) (
   W.cnd (decide (0 ≤ a.2.1)) (
    W.cnd (decide (a.2.1 < 2147483648)) (
     W.cnd (decide (0 ≤ a.2.2.1)) (some (decide (a.2.2.1 < 10001)))
      (some false))
     (some false))
    (some false))
   (some false))
  (some false)
abbrev ref12_Is := ref12_IsW stdW
def ref12_FindW (W : Wd) (l : List ALot') (id : Int) : Option (ALot' × Bool × Unit) := 
 W.loop (fun (z1 : Int × Unit) again2 => 
  W.cnd (decide (z1.1 < (l.length : Int))) (W.idx l z1.1 fun x3 => 
   W.cnd (x3.1 == id) (W.idx l z1.1 fun x4 => some (x4, (true, ())))
    ((again2 ((IntKind.i64.wrap (z1.1 + 1)), ()))))
   (some ((0, (0, (0, ()))), (false, ()))))
  (0, ())
abbrev ref12_Find := ref12_FindW stdW
def ref15_IsW (W : Wd) (a : AAccount') : Option Bool := 
 W.join (fun (z1 : Bool × Unit) => 
  W.cnd z1.1 (some false)
   (
   W.join (fun (z2 : Bool × Unit) => 
    W.cnd z2.1 (some false)
     (
     W.loop (fun (z3 : Int × Unit) again4 => 
      W.cnd (decide (z3.1 < (a.2.2.2.1.length : Int))) (
       W.join (fun (z5 : Bool × Unit) => 
        W.cnd z5.1 (some false)
         ((again4 ((IntKind.i64.wrap (z3.1 + 1)), ()))))
        fun k6 => W.idx a.2.2.2.1 z3.1 fun x7 => 
        W.cnd (decide (x7 < 1)) ((k6 (true, ())))
         (W.idx a.2.2.2.1 z3.1 fun x8 => 
         W.cnd (decide (16 < x8)) ((k6 (true, ())))
          (
          W.cnd (decide (0 < z3.1)) (W.idx a.2.2.2.1 z3.1 fun x9 => W.idx a.2.2.2.1 (IntKind.i64.wrap (z3.1 - 1)) fun x10 => (k6 ((decide (x9 ≤ x10)), ())))
           ((k6 (false, ()))))))
       (some true))
      (0, ())))
    fun k11 => 
    W.cnd (a.2.2.1 == 1) (
     W.cnd (decide (0 < (a.2.2.2.1.length : Int))) ((k11 (true, ())))
      (
      W.cnd (a.2.2.1 == 4) ((k11 ((decide (1 < (a.2.2.2.1.length : Int))), ())))
       ((k11 (false, ())))))
     (
     W.cnd (a.2.2.1 == 4) ((k11 ((decide (1 < (a.2.2.2.1.length : Int))), ())))
      ((k11 (false, ()))))))
  fun k12 => 
  W.cnd (decide (a.1 < 1)) ((k12 (true, ())))
   (
   W.cnd (decide (16 < a.1)) ((k12 (true, ())))
    (
    W.cnd (decide (a.2.1 < 1)) ((k12 (true, ())))
     (
     W.cnd (decide (8 < a.2.1)) ((k12 (true, ())))
      (
      W.cnd (decide (a.2.2.1 < 1)) ((k12 (true, ())))
       ((k12 ((decide (4 < a.2.2.1)), ())))))))
abbrev ref15_Is := ref15_IsW stdW
def law17_FewW (W : Wd) (l : List AFlow') : Option (List AFlow') := 
 W.cnd (decide (20 < (l.length : Int))) (W.bnd 20 l.length fun h1 => some (l.take h1))
  (some l)
abbrev law17_Few := law17_FewW stdW
def law18_FewW (W : Wd) (l : List ALot') : Option (List ALot') := 
 W.cnd (decide (20 < (l.length : Int))) (W.bnd 20 l.length fun h1 => some (l.take h1))
  (some l)
abbrev law18_Few := law18_FewW stdW
def law26_FewW (W : Wd) (l : List AHold') : Option (List AHold') := 
 W.join (fun (z1 : S27) => some z1.1)
  fun k2 => 
  W.loop (fun (z3 : S19) again4 => 
   W.cnd (decide (z3.1 < (l.length : Int))) (
    W.cnd (decide (z3.1 < 10)) (W.idx l z3.1 fun x5 => W.idx l z3.1 fun x6 => W.call (law18_FewW W x6.2.1) fun v7 => W.room (z3.2.1.length + ((x5.1, (v7, ())) :: []).length) 40 ((again4 ((IntKind.i64.wrap (z3.1 + 1)), ((z3.2.1 ++ ((x5.1, (v7, ())) :: [])), ())))))
     ((k2 z3.2)))
    ((k2 z3.2)))
   (0, ([], ()))
abbrev law26_Few := law26_FewW stdW
def lots_rightW (W : Wd) (x : ALot') : Option Bool := 
 W.cnd (decide (1 ≤ x.1)) (
  W.cnd (decide (x.1 ≤ 4)) (
   W.cnd (decide (0 ≤ x.2.1)) (
    W.cnd (decide (x.2.1 ≤ 255)) (some (decide (0 < x.2.2.1)))
     (some false))
    (some false))
   (some false))
  (some false)
abbrev lots_right := lots_rightW stdW
def cmp_isNaNW (W : Wd) (x : Int) : Option Bool := some (x != x)
abbrev cmp_isNaN := cmp_isNaNW stdW
def cmp_CompareW (W : Wd) (x : Int) (y : Int) : Option Int := W.call (cmp_isNaNW W x) fun v1 => W.call (cmp_isNaNW W y) fun v2 => 
 W.cnd v1 (
  W.cnd v2 (some 0)
   (some (-1)))
  (
  W.cnd v2 (some 1)
   (
   W.cnd (decide (x < y)) (some (-1))
    (
    W.cnd (decide (y < x)) (some 1)
     (some 0))))
abbrev cmp_Compare := cmp_CompareW stdW
def cmp_OrW (W : Wd) (vals : List Int) : Option Int := 
 W.loop (fun (z1 : Int × Unit) again2 => 
  W.cnd (decide (z1.1 < (vals.length : Int))) (W.idx vals z1.1 fun x3 => 
   W.cnd (x3 != 0) (some x3)
    ((again2 ((IntKind.i64.wrap (z1.1 + 1)), ()))))
   (some 0))
  (0, ())
abbrev cmp_Or := cmp_OrW stdW
def lots_orderW (W : Wd) (a : ALot') (b : ALot') : Option Int := W.call (cmp_CompareW W a.1 b.1) fun v1 => W.call (cmp_CompareW W a.2.1 b.2.1) fun v2 => W.call (cmp_OrW W (v1 :: (v2 :: []))) fun v3 => some v3
abbrev lots_order := lots_orderW stdW
def lots_IsW (W : Wd) (l : List ALot') : Option Bool := 
 W.loop (fun (z1 : Int × Unit) again2 => 
  W.cnd (decide (z1.1 < (l.length : Int))) (W.idx l z1.1 fun x3 => 
   W.join (fun (z4 : Bool × Unit) => 
    W.cnd z4.1 (some false)
     ((again2 ((IntKind.i64.wrap (z1.1 + 1)), ()))))
    fun k5 => W.call (lots_rightW W x3) fun v6 => 
    W.cnd (!v6) (W.two ((k5 (true, ()))))
     (
     W.cnd (decide (0 < z1.1)) (W.idx l (IntKind.i64.wrap (z1.1 - 1)) fun x7 => W.two (W.call (lots_orderW W x7 x3) fun v8 => (k5 ((decide (0 ≤ v8)), ()))))
      (W.two ((k5 (false, ()))))))
   (some (decide ((l.length : Int) ≤ 16))))
  (0, ())
abbrev lots_Is := lots_IsW stdW
def asset_FindW (W : Wd) (l : List ALot') (id : Int) : Option (ALot' × Bool × Unit) := 
 W.loop (fun (z1 : Int × Unit) again2 => 
  W.cnd (decide (z1.1 < (l.length : Int))) (W.idx l z1.1 fun x3 => 
   W.cnd (x3.1 == id) (some (x3, (true, ())))
    ((again2 ((IntKind.i64.wrap (z1.1 + 1)), ()))))
   (some ((0, (0, (0, ()))), (false, ()))))
  (0, ())
abbrev asset_Find := asset_FindW stdW
def asset_pricedW (W : Wd) (p : Int) : Option Bool := 
 W.cnd (decide (0 ≤ p)) (some (decide (p ≤ 2147483647)))
  (some false)
abbrev asset_priced := asset_pricedW stdW
def asset_CheckW (W : Wd) (a : ALot') : Option Int := 
 W.join (fun (z1 : Bool × Unit) => 
  W.cnd z1.1 (some 2)
   (some 0))
  fun k2 => 
  W.cnd (decide (a.1 < 1)) ((k2 (true, ())))
   (
   W.cnd (decide (4 < a.1)) ((k2 (true, ())))
    (W.call (asset_pricedW W a.2.1) fun v3 => 
    W.cnd (!v3) ((k2 (true, ())))
     (
     W.cnd (decide (a.2.2.1 < 0)) ((k2 (true, ())))
      ((k2 ((decide (10000 < a.2.2.1)), ()))))))
abbrev asset_Check := asset_CheckW stdW
def ref18_oneW (W : Wd) (x : ALot') : Option Bool := 
 W.cnd (decide (0 < x.1)) (
  W.cnd (decide (x.1 < 5)) (
   W.cnd (decide (0 ≤ x.2.1)) (
    W.cnd (decide (x.2.1 < 256)) (some (decide (0 < x.2.2.1)))
     (some false))
    (some false))
   (some false))
  (some false)
abbrev ref18_one := ref18_oneW stdW
def ref18_lessW (W : Wd) (a : ALot') (b : ALot') : Option Bool := 
 W.cnd (decide (a.1 < b.1)) (some true)
  (
  W.cnd (a.1 == b.1) (some (decide (a.2.1 < b.2.1)))
   (some false))
abbrev ref18_less := ref18_lessW stdW
def ref18_IsW (W : Wd) (l : List ALot') : Option Bool := 
 W.loop (fun (z1 : Int × Unit) again2 => 
  W.cnd (decide (z1.1 < (l.length : Int))) (
   W.join (fun (z3 : Bool × Unit) => 
    W.cnd z3.1 (some false)
     ((again2 ((IntKind.i64.wrap (z1.1 + 1)), ()))))
    fun k4 => W.idx l z1.1 fun x5 => W.call (ref18_oneW W x5) fun v6 => 
    W.cnd (!v6) (W.two ((k4 (true, ()))))
     (
     W.cnd (decide (0 < z1.1)) (W.idx l (IntKind.i64.wrap (z1.1 - 1)) fun x7 => W.idx l z1.1 fun x8 => W.two (W.call (ref18_lessW W x7 x8) fun v9 => (k4 ((!v9), ()))))
      (W.two ((k4 (false, ()))))))
   (some (decide ((l.length : Int) ≤ 16))))
  (0, ())
abbrev ref18_Is := ref18_IsW stdW
def ref01_NatW (W : Wd) (u : Int) : Option Novationref01Big' := 
 W.loop (fun (z1 : S8) again2 => 
  W.cnd (decide (0 < z1.1)) (W.nz 2 (W.room (z1.2.1.length + ((IntKind.u8.wrap (Int.tmod z1.1 2)) :: []).length) 1 (W.nz 2 ((again2 ((IntKind.u64.wrap (Int.tdiv z1.1 2)), ((z1.2.1 ++ ((IntKind.u8.wrap (Int.tmod z1.1 2)) :: [])), ())))))))
   (some (false, z1.2)))
  (u, ([], ()))
abbrev ref01_Nat := ref01_NatW stdW
def ref01_plusW (W : Wd) (a : List Int) (b : List Int) : Option (List Int) := 
 W.loop (fun (z1 : S26) again2 => 
  W.join (fun (z3 : S23) => 
   W.join (fun (z4 : S8) => 
    W.join (fun (z5 : S8) => W.nz 2 (W.room (z5.2.1.length + ((Int.tmod z5.1 2) :: []).length) 1 (W.nz 2 ((again2 ((IntKind.u8.wrap (Int.tdiv z5.1 2)), ((IntKind.i64.wrap (z1.2.1 + 1)), ((z5.2.1 ++ ((Int.tmod z5.1 2) :: [])), ()))))))))
     fun k6 => 
     W.cnd (decide (z1.2.1 < (b.length : Int))) (W.idx b z1.2.1 fun x7 => (k6 ((IntKind.u8.wrap (z4.1 + x7)), z4.2)))
      ((k6 z4)))
    fun k8 => 
    W.cnd (decide (z1.2.1 < (a.length : Int))) (W.idx a z1.2.1 fun x9 => (k8 ((IntKind.u8.wrap (z1.1 + x9)), z3)))
     ((k8 (z1.1, z3))))
   fun k10 => 
   W.cnd (decide (z1.2.1 < (a.length : Int))) ((k10 z1.2.2))
    (
    W.cnd (decide (z1.2.1 < (b.length : Int))) ((k10 z1.2.2))
     (
     W.join (fun (z11 : S23) => some z11.1)
      fun k12 => 
      W.cnd (decide (0 < z1.1)) (W.room (z1.2.2.1.length + (z1.1 :: []).length) 1 ((k12 ((z1.2.2.1 ++ (z1.1 :: [])), ()))))
       ((k12 z1.2.2)))))
  (0, (0, ([], ())))
abbrev ref01_plus := ref01_plusW stdW
def ref01_OfW (W : Wd) (n : Int) : Option Novationref01Big' := 
 W.cnd (decide (0 ≤ n)) (W.call (ref01_NatW W (IntKind.u64.wrap n)) fun v1 => some v1)
  (W.call (ref01_NatW W (IntKind.u64.wrap (IntKind.i64.wrap (0 - (IntKind.i64.wrap (n + 1)))))) fun v2 => W.call (ref01_plusW W v2.2.1 (1 :: [])) fun v3 => some (true, (v3, ())))
abbrev ref01_Of := ref01_OfW stdW
def acct_LessW (W : Wd) (a : AUnit') (b : AUnit') : Option Bool := 
 W.cnd (a.1 != b.1) (some (decide (a.1 < b.1)))
  (some (decide (a.2.1 < b.2.1)))
abbrev acct_Less := acct_LessW stdW
def purse_IsW (W : Wd) (l : List AFlow') : Option Bool := 
 W.loop (fun (z1 : Int × Unit) again2 => 
  W.cnd (decide (z1.1 < (l.length : Int))) (W.idx l z1.1 fun x3 => 
   W.join (fun (z4 : Bool × Unit) => 
    W.cnd z4.1 (some false)
     ((again2 ((IntKind.i64.wrap (z1.1 + 1)), ()))))
    fun k5 => 
    W.cnd (x3.2.1 == 0) ((k5 (true, ())))
     (
     W.cnd (decide (0 < z1.1)) (W.idx l (IntKind.i64.wrap (z1.1 - 1)) fun x6 => W.call (acct_LessW W x6.1 x3.1) fun v7 => (k5 ((!v7), ())))
      ((k5 (false, ())))))
   (some true))
  (0, ())
abbrev purse_Is := purse_IsW stdW
def hold_IsW (W : Wd) (l : List AHold') : Option Bool := 
 W.loop (fun (z1 : Int × Unit) again2 => 
  W.cnd (decide (z1.1 < (l.length : Int))) (W.idx l z1.1 fun x3 => 
   W.join (fun (z4 : Bool × Unit) => 
    W.cnd z4.1 (some false)
     ((again2 ((IntKind.i64.wrap (z1.1 + 1)), ()))))
    fun k5 => 
    W.cnd ((x3.2.1.length : Int) == 0) (W.two ((k5 (true, ()))))
     (W.call (lots_IsW W x3.2.1) fun v6 => 
     W.cnd (!v6) (W.two ((k5 (true, ()))))
      (
      W.cnd (decide (0 < z1.1)) (W.idx l (IntKind.i64.wrap (z1.1 - 1)) fun x7 => W.two (W.call (acct_LessW W x7.1 x3.1) fun v8 => (k5 ((!v8), ()))))
       (W.two ((k5 (false, ())))))))
   (some true))
  (0, ())
abbrev hold_Is := hold_IsW stdW
def ref15_LessW (W : Wd) (a : AUnit') (b : AUnit') : Option Bool := 
 W.cnd (decide (a.1 < b.1)) (some true)
  (
  W.cnd (a.1 == b.1) (some (decide (a.2.1 < b.2.1)))
   (some false))
abbrev ref15_Less := ref15_LessW stdW
def ref17_IsW (W : Wd) (l : List AFlow') : Option Bool := 
 W.loop (fun (z1 : Int × Unit) again2 => 
  W.cnd (decide (z1.1 < (l.length : Int))) (
   W.join (fun (z3 : Bool × Unit) => 
    W.cnd z3.1 (some false)
     ((again2 ((IntKind.i64.wrap (z1.1 + 1)), ()))))
    fun k4 => W.idx l z1.1 fun x5 => 
    W.cnd (x5.2.1 == 0) ((k4 (true, ())))
     (
     W.cnd (decide (0 < z1.1)) (W.idx l (IntKind.i64.wrap (z1.1 - 1)) fun x6 => W.idx l z1.1 fun x7 => W.call (ref15_LessW W x6.1 x7.1) fun v8 => (k4 ((!v8), ())))
      ((k4 (false, ())))))
   (some true))
  (0, ())
abbrev ref17_Is := ref17_IsW stdW
def ref26_IsW (W : Wd) (l : List AHold') : Option Bool := 
 W.loop (fun (z1 : Int × Unit) again2 => 
  W.cnd (decide (z1.1 < (l.length : Int))) (
   W.join (fun (z3 : Bool × Unit) => 
    W.cnd z3.1 (some false)
     ((again2 ((IntKind.i64.wrap (z1.1 + 1)), ()))))
    fun k4 => W.idx l z1.1 fun x5 => 
    W.cnd ((x5.2.1.length : Int) == 0) (W.two ((k4 (true, ()))))
     (W.idx l z1.1 fun x6 => W.call (ref18_IsW W x6.2.1) fun v7 => 
     W.cnd (!v7) (W.two ((k4 (true, ()))))
      (
      W.cnd (decide (0 < z1.1)) (W.idx l (IntKind.i64.wrap (z1.1 - 1)) fun x8 => W.idx l z1.1 fun x9 => W.two (W.call (ref15_LessW W x8.1 x9.1) fun v10 => (k4 ((!v10), ()))))
       (W.two ((k4 (false, ())))))))
   (some true))
  (0, ())
abbrev ref26_Is := ref26_IsW stdW
def ref17_SameW (W : Wd) (a : List AFlow') (b : List AFlow') : Option Bool := 
 W.cnd ((a.length : Int) != (b.length : Int)) (some false)
  (
  W.loop (fun (z1 : Int × Unit) again2 => 
   W.cnd (decide (z1.1 < (a.length : Int))) (W.idx a z1.1 fun x3 => W.idx b z1.1 fun x4 => 
    W.cnd (Go.Vc.notIf true ((x3.1.1 == x4.1.1) && ((x3.1.2.1 == x4.1.2.1) && (x3.2.1 == x4.2.1)))) (some false)
     ((again2 ((IntKind.i64.wrap (z1.1 + 1)), ()))))
    (some true))
   (0, ()))
abbrev ref17_Same := ref17_SameW stdW
def ref18_SameW (W : Wd) (a : List ALot') (b : List ALot') : Option Bool := 
 W.cnd ((a.length : Int) != (b.length : Int)) (some false)
  (
  W.loop (fun (z1 : Int × Unit) again2 => 
   W.cnd (decide (z1.1 < (a.length : Int))) (W.idx a z1.1 fun x3 => W.idx b z1.1 fun x4 => 
    W.cnd (Go.Vc.notIf true ((x3.1 == x4.1) && ((x3.2.1 == x4.2.1) && (x3.2.2.1 == x4.2.2.1)))) (some false)
     ((again2 ((IntKind.i64.wrap (z1.1 + 1)), ()))))
    (some true))
   (0, ()))
abbrev ref18_Same := ref18_SameW stdW
def ref26_SameW (W : Wd) (a : List AHold') (b : List AHold') : Option Bool := 
 W.cnd ((a.length : Int) != (b.length : Int)) (some false)
  (
  W.loop (fun (z1 : Int × Unit) again2 => 
   W.cnd (decide (z1.1 < (a.length : Int))) (
    W.join (fun (z3 : Bool × Unit) => 
     W.cnd z3.1 (some false)
      ((again2 ((IntKind.i64.wrap (z1.1 + 1)), ()))))
     fun k4 => W.idx a z1.1 fun x5 => W.idx b z1.1 fun x6 => 
     W.cnd (Go.Vc.notIf true ((x5.1.1 == x6.1.1) && (x5.1.2.1 == x6.1.2.1))) ((k4 (true, ())))
      (W.idx a z1.1 fun x7 => W.idx b z1.1 fun x8 => W.call (ref18_SameW W x7.2.1 x8.2.1) fun v9 => (k4 ((!v9), ()))))
    (some true))
   (0, ()))
abbrev ref26_Same := ref26_SameW stdW
def acct_UnitsW (W : Wd) (a : AAccount') : Option (List AUnit') := 
 W.cnd (a.2.2.1 == 1) (some ((a.1, (0, ())) :: []))
  (
  W.loop (fun (z1 : S15) again2 => 
   W.cnd (decide (z1.1 < (a.2.2.2.1.length : Int))) (W.idx a.2.2.2.1 z1.1 fun x3 => W.room (z1.2.1.length + ((a.1, (x3, ())) :: []).length) 16 ((again2 ((IntKind.i64.wrap (z1.1 + 1)), ((z1.2.1 ++ ((a.1, (x3, ())) :: [])), ())))))
    (some z1.2.1))
   (0, ([], ())))
abbrev acct_Units := acct_UnitsW stdW
def ref15_UnitsW (W : Wd) (a : AAccount') : Option (List AUnit') := 
 W.cnd (a.2.2.1 == 1) (W.room ((a.1, (0, ())) :: []).length 16 (some ((a.1, (0, ())) :: [])))
  (
  W.loop (fun (z1 : S15) again2 => 
   W.cnd (decide (z1.1 < (a.2.2.2.1.length : Int))) (W.idx a.2.2.2.1 z1.1 fun x3 => W.room (z1.2.1.length + ((a.1, (x3, ())) :: []).length) 16 ((again2 ((IntKind.i64.wrap (z1.1 + 1)), ((z1.2.1 ++ ((a.1, (x3, ())) :: [])), ())))))
    (some z1.2.1))
   (0, ([], ())))
abbrev ref15_Units := ref15_UnitsW stdW
def ref15_HasW (W : Wd) (a : AAccount') (u : AUnit') : Option Bool := W.call (ref15_UnitsW W a) fun v1 => 
 W.loop (fun (z2 : S15) again3 => 
  W.cnd (decide (z2.1 < (z2.2.1.length : Int))) (W.idx z2.2.1 z2.1 fun x4 => W.nth z2.2.1 (Int.toNat z2.1) fun x5 => 
   W.cnd (Go.Vc.notIf false ((x5.1 == u.1) && (x5.2.1 == u.2.1))) (some true)
    ((again3 ((IntKind.i64.wrap (z2.1 + 1)), z2.2))))
   (some false))
  (0, (v1, ()))
abbrev ref15_Has := ref15_HasW stdW
end Go.Proofs.YtllkmncnmlmefaaGreat
