import Derived.Test.YtllkmncnmlmefaaGreatB2
namespace Go.Vc
open Go Go.RowKit
/-! ### Data out of what a caller has -/
/-- the rows that are handed over, in order (E: the caller; m: what is left) -/
structure MI (E : Env) (m : MS) (rw0 : List DR) : Prop where
  len : m.rs.length = rw0.length
  row : ∀ (n : Nat) (r : DR), rw0[n]? = some r → (∃ j e t l, m.rs[n]? = some (some j) ∧ E.rw[j]? = some r ∧ r = .own e t l) ∨ (m.rs[n]? = some none ∧ ∃ e t, r = .own e t [])
  inj : ∀ (n n' j : Nat), m.rs[n]? = some (some j) → m.rs[n']? = some (some j) → n = n'
  left : ∀ (j : Nat), (∀ n : Nat, m.rs[n]? ≠ some (some j)) → m.rw[j]? = E.rw[j]?
  gone : ∀ (n j : Nat), m.rs[n]? = some (some j) → m.rw[j]? = some .dead
theorem MI.nil (E : Env) : MI E ⟨[], E.rw⟩ [] := ⟨rfl, fun n r h => by simp at h, fun n n' j h => by simp at h, fun _ _ => rfl, fun n j h => by simp at h⟩
theorem snoc_get {α : Type} {l : List α} {x y : α} {n : Nat} (h : (l ++ [x])[n]? = some y) : (n < l.length ∧ l[n]? = some y) ∨ (n = l.length ∧ x = y) := by
  rcases Nat.lt_or_ge n l.length with hl | hl
  · rw [List.getElem?_append_left hl] at h; exact .inl ⟨hl, h⟩
  · have := (List.getElem?_eq_some_iff.1 h).1
    simp at this
    have : n = l.length := by omega
    subst this; simp at h; exact .inr ⟨rfl, h⟩
theorem MI.take {E : Env} {m : MS} {rw0 : List DR} (h : MI E m rw0) {j : Nat} {e : TypeId} {t : DT} {l : List t.den} (hj : m.rw[j]? = some (.own e t l)) : MI E ⟨m.rs ++ [some j], m.rw.set j .dead⟩ (rw0 ++ [.own e t l]) ∧ E.rw[j]? = some (.own e t l) := by
  have hn : ∀ n : Nat, m.rs[n]? ≠ some (some j) := fun n hn => by rw [h.gone n j hn] at hj; cases hj
  have hE := (h.left j hn).symm.trans hj
  have hl := (List.getElem?_eq_some_iff.1 hj).1
  refine ⟨⟨by simp [h.len], fun n r hr => ?_, fun n n' k h1 h2 => ?_, fun k hk => ?_, fun n k hk => ?_⟩, hE⟩
  · rcases snoc_get hr with ⟨hlt, hr⟩ | ⟨rfl, rfl⟩
    · have e1 : (m.rs ++ [some j])[n]? = m.rs[n]? := List.getElem?_append_left (by rw [h.len]; exact hlt)
      simp only [e1]; exact h.row n r hr
    · exact .inl ⟨j, e, t, l, by simp [← h.len], hE, rfl⟩
  · rcases snoc_get h1 with ⟨_, h1⟩ | ⟨e1, g1⟩
    · rcases snoc_get h2 with ⟨_, h2⟩ | ⟨_, g2⟩
      · exact h.inj n n' k h1 h2
      · simp only [Option.some.injEq] at g2; subst g2; exact absurd h1 (hn n)
    · simp only [Option.some.injEq] at g1; subst g1
      rcases snoc_get h2 with ⟨_, h2⟩ | ⟨e2, _⟩
      · exact absurd h2 (hn n')
      · rw [e1, e2]
  · have hkj : k ≠ j := by rintro rfl; exact hk m.rs.length (by simp)
    show (m.rw.set j .dead)[k]? = _
    rw [List.getElem?_set, if_neg (Ne.symm hkj)]
    refine h.left k fun n hn' => hk n ?_
    show (m.rs ++ [some j])[n]? = _
    rw [List.getElem?_append_left (List.getElem?_eq_some_iff.1 hn').1]; exact hn'
  · show (m.rw.set j .dead)[k]? = _
    by_cases hkj : k = j
    · subst hkj; rw [List.getElem?_set, if_pos rfl, if_pos hl]
    · rw [List.getElem?_set, if_neg (Ne.symm hkj)]
      rcases snoc_get hk with ⟨_, hk⟩ | ⟨_, gk⟩
      · exact h.gone n k hk
      · simp only [Option.some.injEq] at gk; exact absurd gk.symm hkj
theorem MI.emp {E : Env} {m : MS} {rw0 : List DR} (h : MI E m rw0) (e : TypeId) (t : DT) : MI E ⟨m.rs ++ [none], m.rw⟩ (rw0 ++ [.own e t []]) := by
  have hs : ∀ {n j : Nat}, (m.rs ++ [none])[n]? = some (some j) → m.rs[n]? = some (some j) := fun hk => by
    rcases snoc_get hk with ⟨_, hk⟩ | ⟨_, gk⟩
    · exact hk
    · cases gk
  refine ⟨by simp [h.len], fun n r hr => ?_, fun n n' k h1 h2 => h.inj n n' k (hs h1) (hs h2), fun k hk => ?_, fun n k hk => h.gone n k (hs hk)⟩
  · rcases snoc_get hr with ⟨hlt, hr⟩ | ⟨rfl, rfl⟩
    · have e1 : (m.rs ++ [Option.none])[n]? = m.rs[n]? := List.getElem?_append_left (by rw [h.len]; exact hlt)
      simp only [e1]; exact h.row n r hr
    · exact .inr ⟨by simp [← h.len], e, t, rfl⟩
  · refine h.left k fun n hn' => hk n ?_
    show (m.rs ++ [Option.none])[n]? = _
    rw [List.getElem?_append_left (List.getElem?_eq_some_iff.1 hn').1]; exact hn'
/-- how the callee's world is the caller's -/
structure TrI (am : List (Nat × Nat)) (rs : List (Option Nat)) (E E0 : Env) : Prop where
  sl : Later E.U E0.U E.w E0.w
  bx : ∀ k i, lkA am k = some i → live E.pb i → live E0.pb k ∧ E0.B k = E.B i
  row : ∀ (n j : Nat) e t l, rs[n]? = some (some j) → E.rw[j]? = some (.own e t l) → E0.rw[n]? = some (.own e t l) ∧ E0.A n = E.A j
  nil : ∀ (n : Nat), rs[n]? = some none → (∃ e t, E0.rw[n]? = some (.own e t [])) ∧ E0.A n = (none, 0)
theorem ofA_h {E E0 : Env} (l : Later E.U E0.U E.w E0.w) : ∀ {P : DT} {ps : List DV} {x : P.den} {vs : List Value}, ofA P ps = some x → hL E ps vs → hL E0 (argVs P x) vs
  | .unit, ps, x, vs, h, hv => by
    simp only [ofA] at h
    split at h
    · simp only [argVs, hL] at hv ⊢; exact hv
    · cases h
  | .pair a b, ps, x, vs, h, hv => by
    simp only [ofA] at h
    split at h
    · split at h
      · rename_i x1 x2 h1 h2
        simp only [Option.some.injEq] at h; subst h
        simp only [hL] at hv
        obtain ⟨v, vs', rfl, h3, h4⟩ := hv
        simp only [argVs, hL]
        exact ⟨v, vs', rfl, a.val_h (DT.hv_mono l (DT.ofV_h h1 h3)), ofA_h l h2 h4⟩
      · cases h
    · cases h
  | .int _, ps, x, vs, h, _ => by simp [ofA] at h
  | .bool, ps, x, vs, h, _ => by simp [ofA] at h
  | .str, ps, x, vs, h, _ => by simp [ofA] at h
  | .slc _, ps, x, vs, h, _ => by simp [ofA] at h
mutual
theorem PK.x_s {am : List (Nat × Nat)} {E : Env} : (p : PK) → (r : DT) → (u : DV) → (m : MS) → (k : MS → Option (r.den × MS)) → (rw0 : List DR) → (z : (p.T r).den) → (mF : MS) → p.x am r u m k = some (z, mF) → MI E m rw0 →
    ∃ z0 m1 rw1, k m1 = some (z0, mF) ∧ (p.mk r z rw0).2 = (z0, rw1) ∧ MI E m1 rw1 ∧ (∃ a, m1.rs = m.rs ++ a) ∧ (∃ b, rw1 = rw0 ++ b) ∧
      ∀ E0 v, (∃ a, mF.rs = m1.rs ++ a) → TrI am mF.rs E E0 → u.h E v → (p.mk r z rw0).1.h E0 v
  | .v t, r, u, m, k, rw0, z, mF, h, hm => by
    simp only [PK.x] at h
    split at h
    · rename_i x y m1 hx hk
      simp only [Option.some.injEq, Prod.mk.injEq] at h
      obtain ⟨rfl, rfl⟩ := h
      exact ⟨y, m, rw0, hk, rfl, hm, ⟨[], by simp⟩, ⟨[], by simp⟩, fun E0 v _ s hu => t.val_h (DT.hv_mono s.sl (DT.ofV_h hx hu))⟩
    · cases h
  | .row e t, r, u, m, k, rw0, z, mF, h, hm => by
    simp only [PK.x] at h
    split at h
    · rename_i j
      split at h
      · rename_i e' t' xs hj
        rw [drV_spec] at hj
        split at h
        · rename_i hh y m1 he hs hk
          simp only [Option.some.injEq, Prod.mk.injEq] at h
          obtain ⟨rfl, rfl⟩ := h
          have he := Nat.eq_of_beq_eq_true he
          subst he hh
          obtain ⟨hm', hE⟩ := hm.take hj
          refine ⟨y, _, rw0 ++ [.own e' t' xs], hk, rfl, hm', ⟨_, rfl⟩, ⟨_, rfl⟩, fun E0 v ⟨a, ha⟩ s hu => ?_⟩
          have hn : m1.rs[rw0.length]? = some (some j) := by rw [ha]; simp [← hm.len]
          obtain ⟨g1, g2⟩ := s.row _ _ _ _ _ hn hE
          simp only [DV.h] at hu
          obtain ⟨e2, t2, l2, hj2, rfl⟩ := hu
          rw [hE] at hj2; simp only [Option.some.injEq, DR.own.injEq] at hj2
          obtain ⟨rfl, rfl, hl2⟩ := hj2
          cases hl2
          simp only [PK.mk, DV.h]
          exact ⟨_, _, _, g1, by rw [g2]⟩
        · cases h
      · cases h
    · split at h
      · rename_i y m1 hk
        simp only [Option.some.injEq, Prod.mk.injEq] at h
        obtain ⟨rfl, rfl⟩ := h
        refine ⟨y, _, rw0 ++ [.own e t []], hk, rfl, hm.emp e t, ⟨_, rfl⟩, ⟨_, rfl⟩, fun E0 v ⟨a, ha⟩ s hu => ?_⟩
        have hn : m1.rs[rw0.length]? = some none := by rw [ha]; simp [← hm.len]
        obtain ⟨⟨e1, t1, g1⟩, g2⟩ := s.nil _ hn
        simp only [DV.h] at hu
        subst hu
        simp only [PK.mk, DV.h]
        exact ⟨_, _, _, g1, by rw [g2]; rfl⟩
      · cases h
    · cases h
  | .ptr n, r, u, m, k, rw0, z, mF, h, hm => by
    simp only [PK.x] at h
    split at h
    · rename_i i o
      split at h
      · rename_i i' hl
        split at h
        · rename_i hb
          have hb := Nat.eq_of_beq_eq_true hb
          subst hb
          refine ⟨z, m, rw0, h, rfl, hm, ⟨[], by simp⟩, ⟨[], by simp⟩, fun E0 v _ s hu => ?_⟩
          simp only [DV.h] at hu
          obtain ⟨g1, rfl⟩ := hu
          obtain ⟨g2, g3⟩ := s.bx _ _ hl g1
          simp only [PK.mk, DV.h]
          exact ⟨g2, by rw [g3]⟩
        · cases h
      · cases h
    · cases h
  | .fn g l, r, u, m, k, rw0, z, mF, h, hm => by
    simp only [PK.x] at h
    split at h
    · rename_i g' cs
      split at h
      · rename_i hg
        have hg := Nat.eq_of_beq_eq_true hg
        subst hg
        obtain ⟨z0, m1, rw1, h1, h2, h3, h4, h5, h6⟩ := pkX_s l r cs m k rw0 z mF h hm
        refine ⟨z0, m1, rw1, h1, by simp only [PK.mk]; exact h2, h3, h4, h5, fun E0 v ha s hu => ?_⟩
        simp only [DV.h] at hu
        obtain ⟨vs, rfl, hu⟩ := hu
        simp only [PK.mk, DV.h]
        exact ⟨vs, rfl, h6 E0 _ ha s hu⟩
      · cases h
    · cases h
  | .agg l, r, u, m, k, rw0, z, mF, h, hm => by
    simp only [PK.x] at h
    split at h
    · rename_i cs
      obtain ⟨z0, m1, rw1, h1, h2, h3, h4, h5, h6⟩ := pkX_s l r cs m k rw0 z mF h hm
      refine ⟨z0, m1, rw1, h1, by simp only [PK.mk]; exact h2, h3, h4, h5, fun E0 v ha s hu => ?_⟩
      simp only [DV.h] at hu
      obtain ⟨vs, rfl, hu⟩ := hu
      simp only [PK.mk, DV.h]
      exact ⟨vs, rfl, h6 E0 _ ha s hu⟩
    · cases h
theorem pkX_s {am : List (Nat × Nat)} {E : Env} : (l : List PK) → (r : DT) → (us : List DV) → (m : MS) → (k : MS → Option (r.den × MS)) → (rw0 : List DR) → (z : (pkT l r).den) → (mF : MS) → pkX am l r us m k = some (z, mF) → MI E m rw0 →
    ∃ z0 m1 rw1, k m1 = some (z0, mF) ∧ (pkM l r z rw0).2 = (z0, rw1) ∧ MI E m1 rw1 ∧ (∃ a, m1.rs = m.rs ++ a) ∧ (∃ b, rw1 = rw0 ++ b) ∧
      ∀ E0 vs, (∃ a, mF.rs = m1.rs ++ a) → TrI am mF.rs E E0 → hL E us vs → hL E0 (pkM l r z rw0).1 vs
  | [], r, us, m, k, rw0, z, mF, h, hm => by
    simp only [pkX] at h
    split at h
    · exact ⟨z, m, rw0, h, rfl, hm, ⟨[], by simp⟩, ⟨[], by simp⟩, fun E0 vs _ _ hu => by simpa only [pkM, hL] using hu⟩
    · cases h
  | p :: l, r, us, m, k, rw0, z, mF, h, hm => by
    simp only [pkX] at h
    split at h
    · rename_i u us
      obtain ⟨z0, m1, rw1, h1, h2, h3, ⟨a1, h4⟩, ⟨b1, h5⟩, h6⟩ := PK.x_s p (pkT l r) u m _ rw0 z mF h hm
      obtain ⟨z2, m2, rw2, g1, g2, g3, ⟨a2, g4⟩, ⟨b2, g5⟩, g6⟩ := pkX_s l r us m1 k rw1 z0 mF h1 h3
      have e1 : (p.mk (pkT l r) z rw0) = ((p.mk (pkT l r) z rw0).1, z0, rw1) := by rw [← h2]
      refine ⟨z2, m2, rw2, g1, ?_, g3, ⟨a1 ++ a2, by rw [g4, h4, List.append_assoc]⟩, ⟨b1 ++ b2, by rw [g5, h5, List.append_assoc]⟩, fun E0 vs ⟨a, ha⟩ s hu => ?_⟩
      · simp only [pkM]; rw [e1]; simp only [g2]
      · simp only [hL] at hu
        obtain ⟨v, vs', rfl, hu1, hu2⟩ := hu
        simp only [pkM]; rw [e1]; simp only [hL]
        exact ⟨v, vs', rfl, h6 E0 v ⟨a2 ++ a, by rw [ha, g4, List.append_assoc]⟩ s hu1, g6 E0 vs' ⟨a, ha⟩ s hu2⟩
    · cases h
end
theorem bkX_s {am : List (Nat × Nat)} {E : Env} : (l : List BK) → (n : Nat) → (r : DT) → (m : MS) → (k : MS → Option (r.den × MS)) → (rw0 : List DR) → (z : (bkT l r).den) → (mF : MS) → bkX am E.pb l n r m k = some (z, mF) → MI E m rw0 →
    ∃ z0 m1 rw1, k m1 = some (z0, mF) ∧ (bkM l r z rw0).2 = (z0, rw1) ∧ MI E m1 rw1 ∧ (∃ a, m1.rs = m.rs ++ a) ∧ (∃ b, rw1 = rw0 ++ b) ∧ (bkM l r z rw0).1.length = l.length ∧
      (∀ (q : Nat) (b0 : DB), (bkM l r z rw0).1[q]? = some (some b0) → ∃ i b, lkA am (n + q) = some i ∧ E.pb[i]? = some (some b) ∧ b0.ty = b.ty ∧ b0.w = true ∧
        ∀ E0, (∃ a, mF.rs = m1.rs ++ a) → TrI am mF.rs E E0 → ∀ vs, hL E b.cells vs → hL E0 b0.cells vs) ∧
      (∀ q : Nat, q < l.length → ∃ b0, (bkM l r z rw0).1[q]? = some (some b0))
  | [], n, r, m, k, rw0, z, mF, h, hm => ⟨z, m, rw0, h, rfl, hm, ⟨[], by simp⟩, ⟨[], by simp⟩, rfl, by simp [bkM], by simp⟩
  | Bk :: l, n, r, m, k, rw0, z, mF, h, hm => by
    simp only [bkX] at h
    split at h
    · rename_i i hi
      split at h
      · rename_i b hb
        rw [dbV_spec] at hb
        split at h
        · rename_i hty
          have hty := Nat.eq_of_beq_eq_true hty
          obtain ⟨z0, m1, rw1, h1, h2, h3, ⟨a1, h4⟩, ⟨b1, h5⟩, h6⟩ := pkX_s Bk.cells (bkT l r) b.cells m _ rw0 z mF h hm
          obtain ⟨z2, m2, rw2, g1, g2, g3, ⟨a2, g4⟩, ⟨b2, g5⟩, g6, g7, g8⟩ := bkX_s l (n + 1) r m1 k rw1 z0 mF h1 h3
          have e1 : (pkM Bk.cells (bkT l r) z rw0) = ((pkM Bk.cells (bkT l r) z rw0).1, z0, rw1) := by rw [← h2]
          have e2 : bkM (Bk :: l) r z rw0 = (some ⟨Bk.ty, (pkM Bk.cells (bkT l r) z rw0).1, true⟩ :: (bkM l r z0 rw1).1, z2, rw2) := by
            simp only [bkM]; rw [e1]; simp only [g2]
          rw [e2]
          refine ⟨z2, m2, rw2, g1, rfl, g3, ⟨a1 ++ a2, by rw [g4, h4, List.append_assoc]⟩, ⟨b1 ++ b2, by rw [g5, h5, List.append_assoc]⟩, by simp [g6], fun q b0 hq => ?_, fun q hq => ?_⟩
          · cases q with
            | zero =>
              simp only [List.getElem?_cons_zero, Option.some.injEq] at hq; subst hq
              exact ⟨i, b, hi, hb, hty.symm, rfl, fun E0 ⟨a, ha⟩ s vs hv => h6 E0 vs ⟨a2 ++ a, by rw [ha, g4, List.append_assoc]⟩ s hv⟩
            | succ q =>
              obtain ⟨i', b', k1, k2, k3, k4, k5⟩ := g7 q b0 (by simpa using hq)
              exact ⟨i', b', by rw [show n + (q + 1) = n + 1 + q by omega]; exact k1, k2, k3, k4, k5⟩
          · cases q with
            | zero => exact ⟨_, rfl⟩
            | succ q => simpa using g8 q (by simpa using hq)
        · cases h
      · cases h
    · cases h
end Go.Vc

namespace Go.Vc
open Go Go.RowKit
/-! ### What comes back -/
def Pre (a b : List Nat) : Prop := ∃ c, b = a ++ c
theorem Pre.refl (a : List Nat) : Pre a a := ⟨[], by simp⟩
theorem Pre.trans {a b c : List Nat} (h : Pre a b) (k : Pre b c) : Pre a c := by obtain ⟨x, rfl⟩ := h; obtain ⟨y, rfl⟩ := k; exact ⟨x ++ y, by simp⟩
theorem Pre.get {a b : List Nat} (h : Pre a b) {n j : Nat} (hn : a[n]? = some j) : b[n]? = some j := by
  obtain ⟨c, rfl⟩ := h
  rw [List.getElem?_append_left (List.getElem?_eq_some_iff.1 hn).1]; exact hn
/-- rows that came back (rwE, for the callee; js: where each stands for the caller) -/
structure RO (base rwE : List DR) (ρ : List (Option Nat)) (rwC : List DR) (js : List Nat) : Prop where
  len : js.length = rwE.length
  row : ∀ (n j : Nat) (r : DR), js[n]? = some j → rwE[n]? = some r → rwC[j]? = some r
  inj : ∀ (n n' j : Nat), js[n]? = some j → js[n']? = some j → n = n'
  sup : ∀ (a j : Nat), ρ[a]? = some (some j) → rwC[j]? = some .dead ∧ base[j]? = some .dead ∧ ∀ n : Nat, js[n]? ≠ some j
  supn : ∀ (a b j : Nat), ρ[a]? = some (some j) → ρ[b]? = some (some j) → a = b
  old : ∀ j : Nat, (∀ n : Nat, js[n]? ≠ some j) → rwC[j]? = base[j]?
  new : ∀ (n j : Nat), js[n]? = some j → base[j]? = some .dead ∨ base[j]? = none
  own : ∀ (n : Nat) (r : DR), rwE[n]? = some r → ∃ e t l, r = .own e t l
theorem RO.tail {base rwE : List DR} {x : Option Nat} {ρ : List (Option Nat)} {rwC : List DR} {js : List Nat} (h : RO base rwE (x :: ρ) rwC js) : RO base rwE ρ rwC js :=
  ⟨h.len, h.row, h.inj, fun a j ha => h.sup (a + 1) j (by simpa using ha), fun a b j ha hb => by have := h.supn (a + 1) (b + 1) j (by simpa using ha) (by simpa using hb); omega, h.old, h.new, h.own⟩
theorem RO.lt {base rwE : List DR} {ρ : List (Option Nat)} {rwC : List DR} {js : List Nat} (h : RO base rwE ρ rwC js) {n j : Nat} (hn : js[n]? = some j) : j < rwC.length := by
  have hl := (List.getElem?_eq_some_iff.1 hn).1
  rw [h.len] at hl
  exact (List.getElem?_eq_some_iff.1 (h.row n j _ hn (List.getElem?_eq_getElem hl))).1
theorem RO.put {base rwE : List DR} {ρ : List (Option Nat)} {rwC rwC' : List DR} {js : List Nat} (h : RO base rwE ρ rwC js) {j : Nat} {e : TypeId} {t : DT} {l : List t.den} (hn : ∀ n : Nat, js[n]? ≠ some j) (hj : rwC'[j]? = some (.own e t l)) (ho : ∀ k : Nat, k ≠ j → rwC'[k]? = rwC[k]?)
    (hb : base[j]? = some .dead ∨ base[j]? = none) (hs : ∀ a : Nat, ρ[a]? ≠ some (some j)) : RO base (rwE ++ [.own e t l]) ρ rwC' (js ++ [j]) := by
  have ne : ∀ {n k : Nat}, js[n]? = some k → k ≠ j := fun hk => by rintro rfl; exact hn _ hk
  refine ⟨by simp [h.len], fun n k r h1 h2 => ?_, fun n n' k h1 h2 => ?_, fun a k ha => ?_, h.supn, fun k hk => ?_, fun n k h1 => ?_, fun n r h1 => ?_⟩
  · rcases snoc_get h1 with ⟨g0, g1⟩ | ⟨g0, g1⟩
    · rcases snoc_get h2 with ⟨_, g2⟩ | ⟨g2, _⟩
      · rw [ho k (ne g1)]; exact h.row n k r g1 g2
      · have := h.len; omega
    · rcases snoc_get h2 with ⟨g2, _⟩ | ⟨_, g2⟩
      · have := h.len; omega
      · subst g1 g2; exact hj
  · rcases snoc_get h1 with ⟨_, g1⟩ | ⟨g0, g1⟩
    · rcases snoc_get h2 with ⟨_, g2⟩ | ⟨_, g2⟩
      · exact h.inj n n' k g1 g2
      · exact absurd g2.symm (ne g1)
    · rcases snoc_get h2 with ⟨_, g2⟩ | ⟨g3, _⟩
      · exact absurd g1.symm (ne g2)
      · omega
  · obtain ⟨g1, g2, g3⟩ := h.sup a k ha
    have hkj : k ≠ j := by rintro rfl; exact hs a ha
    refine ⟨by rw [ho k hkj]; exact g1, g2, fun n hk => ?_⟩
    rcases snoc_get hk with ⟨_, g⟩ | ⟨_, g⟩
    · exact g3 n g
    · exact hkj g.symm
  · have hkj : k ≠ j := by rintro rfl; exact hk js.length (by simp)
    rw [ho k hkj]
    refine h.old k fun n hk' => hk n ?_
    rw [List.getElem?_append_left (List.getElem?_eq_some_iff.1 hk').1]; exact hk'
  · rcases snoc_get h1 with ⟨_, g⟩ | ⟨_, g⟩
    · exact h.new n k g
    · subst g; exact hb
  · rcases snoc_get h1 with ⟨_, g⟩ | ⟨_, g⟩
    · exact h.own n r g
    · exact ⟨e, t, l, g.symm⟩
section
variable {β : Type} {q : β} {σ : Nat → Option Nat} {base : List DR}
theorem rowO_s {ρ : List (Option Nat)} {e : TypeId} {t : DT} {l : List t.den} {rwC rwE : List DR} {js : List Nat} {K : DV → List (Option Nat) → List DR → Option β} (h : rowO ρ e t l rwC K = some q) (ro : RO base rwE ρ rwC js) :
    ∃ j ρ' rwC', K (.row j) ρ' rwC' = some q ∧ RO base (rwE ++ [.own e t l]) ρ' rwC' (js ++ [j]) := by
  have push : ∀ ρ', RO base rwE ρ' rwC js → K (.row rwC.length) ρ' (rwC ++ [.own e t l]) = some q → ∃ j ρ' rwC', K (.row j) ρ' rwC' = some q ∧ RO base (rwE ++ [.own e t l]) ρ' rwC' (js ++ [j]) := fun ρ' ro h => by
    have hn : ∀ n : Nat, js[n]? ≠ some rwC.length := fun n hn => by have := ro.lt hn; omega
    refine ⟨_, ρ', _, h, ro.put hn (by simp) (fun k hk => ?_) (.inr ?_) fun a ha => ?_⟩
    · rcases Nat.lt_or_ge k rwC.length with hl | hl
      · rw [List.getElem?_append_left hl]
      · rw [List.getElem?_eq_none (by simp; omega), List.getElem?_eq_none hl]
    · rw [← ro.old _ hn, List.getElem?_eq_none (Nat.le_refl _)]
    · have := (ro.sup a _ ha).1; rw [List.getElem?_eq_none (Nat.le_refl _)] at this; cases this
  unfold rowO at h
  split at h
  · rename_i j ρ'
    rw [setE_eq] at h
    obtain ⟨g1, g2, g3⟩ := ro.sup 0 j rfl
    have hl := (List.getElem?_eq_some_iff.1 g1).1
    refine ⟨j, ρ', _, h, ro.tail.put g3 (by rw [List.getElem?_set, if_pos rfl, if_pos hl]) (fun k hk => by rw [List.getElem?_set, if_neg (Ne.symm hk)]) (.inl g2) fun a ha => ?_⟩
    have := ro.supn 0 (a + 1) j rfl (by simpa using ha)
    omega
  · rename_i ρ'
    rw [pushE_eq, litE_eq] at h
    exact push _ ro.tail h
  · rw [pushE_eq, litE_eq] at h
    exact push _ ro h
theorem cells_ren (js : List Nat) : (t : DT) → (x : t.den) → (r : List DV) → renL σ js (t.cells x r) = t.cells x (renL σ js r)
  | .int _, _, _ | .bool, _, _ | .str, _, _ | .slc _, _, _ | .set, _, _ | .unit, _, _ => rfl
  | .pair a b, x, r => by simp only [DT.cells]; rw [cells_ren js a, cells_ren js b]
theorem val_ren (js : List Nat) : (t : DT) → (x : t.den) → (t.val x).ren σ js = t.val x
  | .int _, _ | .bool, _ | .str, _ | .slc _, _ | .set, _ | .unit, _ => rfl
  | .pair a b, x => by simp only [DT.val, DV.ren]; rw [cells_ren js a, cells_ren js b]; rfl
theorem ren_row {js : List Nat} {n j : Nat} (h : js[n]? = some j) : (DV.row n).ren σ js = .row j := by simp only [DV.ren, h]
mutual
theorem PK.o_s : (p : PK) → (r : DT) → (z : (p.T r).den) → (ρ : List (Option Nat)) → (rwC : List DR) → (K : DV → r.den → List (Option Nat) → List DR → Option β) → (rwE : List DR) → (js : List Nat) → p.o σ r z ρ rwC K = some q → RO base rwE ρ rwC js →
    ∃ d ρ' rwC' js', K d (p.mk r z rwE).2.1 ρ' rwC' = some q ∧ RO base (p.mk r z rwE).2.2 ρ' rwC' js' ∧ Pre js js' ∧ ∀ jsF, Pre js' jsF → d = (p.mk r z rwE).1.ren σ jsF
  | .v t, r, z, ρ, rwC, K, rwE, js, h, ro => ⟨_, ρ, rwC, js, h, ro, Pre.refl _, fun jsF _ => (val_ren jsF t z.1).symm⟩
  | .row e t, r, z, ρ, rwC, K, rwE, js, h, ro => by
    simp only [PK.o] at h
    obtain ⟨j, ρ', rwC', h1, h2⟩ := rowO_s h ro
    exact ⟨_, ρ', rwC', _, h1, h2, ⟨[j], rfl⟩, fun jsF hp => (ren_row (hp.get (by rw [← ro.len]; simp))).symm⟩
  | .ptr k, r, z, ρ, rwC, K, rwE, js, h, ro => by
    simp only [PK.o] at h
    split at h
    · rename_i i hi
      exact ⟨_, ρ, rwC, js, h, ro, Pre.refl _, fun jsF _ => by simp only [PK.mk, DV.ren, hi]⟩
    · cases h
  | .fn g l, r, z, ρ, rwC, K, rwE, js, h, ro => by
    simp only [PK.o] at h
    obtain ⟨ds, ρ', rwC', js', h1, h2, h3, h4⟩ := pkO_s l r z ρ rwC _ rwE js h ro
    exact ⟨_, ρ', rwC', js', h1, h2, h3, fun jsF hp => by simp only [PK.mk, DV.ren]; rw [h4 jsF hp]⟩
  | .agg l, r, z, ρ, rwC, K, rwE, js, h, ro => by
    simp only [PK.o] at h
    obtain ⟨ds, ρ', rwC', js', h1, h2, h3, h4⟩ := pkO_s l r z ρ rwC _ rwE js h ro
    exact ⟨_, ρ', rwC', js', h1, h2, h3, fun jsF hp => by simp only [PK.mk, DV.ren]; rw [h4 jsF hp]⟩
theorem pkO_s : (l : List PK) → (r : DT) → (z : (pkT l r).den) → (ρ : List (Option Nat)) → (rwC : List DR) → (K : List DV → r.den → List (Option Nat) → List DR → Option β) → (rwE : List DR) → (js : List Nat) → pkO σ l r z ρ rwC K = some q → RO base rwE ρ rwC js →
    ∃ ds ρ' rwC' js', K ds (pkM l r z rwE).2.1 ρ' rwC' = some q ∧ RO base (pkM l r z rwE).2.2 ρ' rwC' js' ∧ Pre js js' ∧ ∀ jsF, Pre js' jsF → ds = renL σ jsF (pkM l r z rwE).1
  | [], r, z, ρ, rwC, K, rwE, js, h, ro => ⟨[], ρ, rwC, js, h, ro, Pre.refl _, fun _ _ => rfl⟩
  | p :: l, r, z, ρ, rwC, K, rwE, js, h, ro => by
    simp only [pkO] at h
    obtain ⟨d, ρ1, rwC1, js1, h1, h2, h3, h4⟩ := PK.o_s p (pkT l r) z ρ rwC _ rwE js h ro
    obtain ⟨ds, ρ2, rwC2, js2, g1, g2, g3, g4⟩ := pkO_s l r _ ρ1 rwC1 _ _ js1 h1 h2
    exact ⟨d :: ds, ρ2, rwC2, js2, g1, g2, h3.trans g3, fun jsF hp => by simp only [pkM, renL]; rw [← h4 jsF (g3.trans hp), ← g4 jsF hp]⟩
end
mutual
theorem QT.o_s : (Q : QT) → (x : Q.den) → (ρ : List (Option Nat)) → (rwC : List DR) → (K : DV → List (Option Nat) → List DR → Option β) → (rwE : List DR) → (js : List Nat) → Q.o σ x ρ rwC K = some q → RO base rwE ρ rwC js →
    ∃ d ρ' rwC' js', K d ρ' rwC' = some q ∧ RO base (Q.mk x rwE).2 ρ' rwC' js' ∧ Pre js js' ∧ ∀ jsF, Pre js' jsF → d = (Q.mk x rwE).1.ren σ jsF
  | .v t, x, ρ, rwC, K, rwE, js, h, ro => ⟨_, ρ, rwC, js, h, ro, Pre.refl _, fun jsF _ => (val_ren jsF t x).symm⟩
  | .own e t, x, ρ, rwC, K, rwE, js, h, ro => by
    simp only [QT.o] at h
    obtain ⟨j, ρ', rwC', h1, h2⟩ := rowO_s h ro
    exact ⟨_, ρ', rwC', _, h1, h2, ⟨[j], rfl⟩, fun jsF hp => (ren_row (hp.get (by rw [← ro.len]; simp))).symm⟩
  | .ptr k, x, ρ, rwC, K, rwE, js, h, ro => by
    simp only [QT.o] at h
    split at h
    · rename_i i hi
      exact ⟨_, ρ, rwC, js, h, ro, Pre.refl _, fun jsF _ => by simp only [QT.mk, DV.ren, hi]⟩
    · cases h
  | .unit, x, ρ, rwC, K, rwE, js, h, ro => ⟨_, ρ, rwC, js, h, ro, Pre.refl _, fun jsF _ => rfl⟩
  | .pair a b, x, ρ, rwC, K, rwE, js, h, ro => by
    simp only [QT.o] at h
    obtain ⟨d, ρ1, rwC1, js1, h1, h2, h3, h4⟩ := QT.o_s a x.1 ρ rwC _ rwE js h ro
    obtain ⟨ds, ρ2, rwC2, js2, g1, g2, g3, g4⟩ := QT.os_s b x.2 ρ1 rwC1 _ _ js1 h1 h2
    exact ⟨_, ρ2, rwC2, js2, g1, g2, h3.trans g3, fun jsF hp => by simp only [QT.mk, DV.ren, renL]; rw [← h4 jsF (g3.trans hp), ← g4 jsF hp]⟩
theorem QT.os_s : (Q : QT) → (x : Q.den) → (ρ : List (Option Nat)) → (rwC : List DR) → (K : List DV → List (Option Nat) → List DR → Option β) → (rwE : List DR) → (js : List Nat) → Q.os σ x ρ rwC K = some q → RO base rwE ρ rwC js →
    ∃ ds ρ' rwC' js', K ds ρ' rwC' = some q ∧ RO base (Q.mks x rwE).2 ρ' rwC' js' ∧ Pre js js' ∧ ∀ jsF, Pre js' jsF → ds = renL σ jsF (Q.mks x rwE).1
  | .v t, x, ρ, rwC, K, rwE, js, h, ro => ⟨_, ρ, rwC, js, h, ro, Pre.refl _, fun jsF _ => rfl⟩
  | .own e t, x, ρ, rwC, K, rwE, js, h, ro => ⟨_, ρ, rwC, js, h, ro, Pre.refl _, fun jsF _ => rfl⟩
  | .ptr k, x, ρ, rwC, K, rwE, js, h, ro => ⟨_, ρ, rwC, js, h, ro, Pre.refl _, fun jsF _ => rfl⟩
  | .unit, x, ρ, rwC, K, rwE, js, h, ro => ⟨_, ρ, rwC, js, h, ro, Pre.refl _, fun jsF _ => rfl⟩
  | .pair a b, x, ρ, rwC, K, rwE, js, h, ro => by
    simp only [QT.os] at h
    obtain ⟨d, ρ1, rwC1, js1, h1, h2, h3, h4⟩ := QT.o_s a x.1 ρ rwC _ rwE js h ro
    obtain ⟨ds, ρ2, rwC2, js2, g1, g2, g3, g4⟩ := QT.os_s b x.2 ρ1 rwC1 _ _ js1 h1 h2
    exact ⟨_, ρ2, rwC2, js2, g1, g2, h3.trans g3, fun jsF hp => by simp only [QT.mks, renL]; rw [← h4 jsF (g3.trans hp), ← g4 jsF hp]⟩
end
/-- boxes: where each stands for the caller -/
theorem bkO_s {m : Nat} (hσ : ∀ (k k' i : Nat), σ k = some i → σ k' = some i → k = k') : (l : List BK) → (n : Nat) → (r : DT) → (z : (bkT l r).den) → (ρ : List (Option Nat)) → (pb : DBs) → (rwC : List DR) → (K : r.den → List (Option Nat) → DBs → List DR → Option β) → (rwE : List DR) → (js : List Nat) →
    bkO σ m l n r z ρ pb rwC K = some q → RO base rwE ρ rwC js → (∀ k i, k < m → σ k = some i → i < pb.length) → (∀ k, m ≤ k → n ≤ k → σ k = some (pb.length + (k - max n m))) →
    ∃ ρ' pb' rwC' js', K (bkM l r z rwE).2.1 ρ' pb' rwC' = some q ∧ RO base (bkM l r z rwE).2.2 ρ' rwC' js' ∧ Pre js js' ∧
      (∀ i, i < pb.length → (∀ k, n ≤ k → k < m → σ k ≠ some i) → pb'[i]? = pb[i]?) ∧
      (∀ k b1 i, (bkM l r z rwE).1[k]? = some (some b1) → σ (n + k) = some i → ∀ jsF, Pre js' jsF → pb'[i]? = some (some ⟨b1.ty, renL σ jsF b1.cells, true⟩)) ∧
      (∀ i, i < pb'.length → i < pb.length ∨ ∃ k, k < l.length ∧ m ≤ n + k ∧ σ (n + k) = some i) ∧ (∀ i, i < pb.length → live pb i → live pb' i) ∧ (∀ k i, n ≤ k → k < n + l.length → k < m → σ k = some i → live pb' i)
  | [], n, r, z, ρ, pb, rwC, K, rwE, js, h, ro, h1, h2 => ⟨ρ, pb, rwC, js, h, ro, Pre.refl _, fun _ _ _ => rfl, fun k b1 i hk => by simp [bkM] at hk, fun i hi => .inl hi, fun _ _ h => h, fun k i a b => by simp at b; omega⟩
  | Bk :: l, n, r, z, ρ, pb, rwC, K, rwE, js, h, ro, h1, h2 => by
    simp only [bkO] at h
    obtain ⟨ds, ρ1, rwC1, js1, h3, h4, h5, h6⟩ := pkO_s Bk.cells (bkT l r) z ρ rwC _ rwE js h ro
    have e2 : bkM (Bk :: l) r z rwE = (some ⟨Bk.ty, (pkM Bk.cells (bkT l r) z rwE).1, true⟩ :: (bkM l r (pkM Bk.cells (bkT l r) z rwE).2.1 (pkM Bk.cells (bkT l r) z rwE).2.2).1, (bkM l r (pkM Bk.cells (bkT l r) z rwE).2.1 (pkM Bk.cells (bkT l r) z rwE).2.2).2.1, (bkM l r (pkM Bk.cells (bkT l r) z rwE).2.1 (pkM Bk.cells (bkT l r) z rwE).2.2).2.2) := rfl
    rw [e2]
    split at h3
    · rename_i hnm
      have hnm := Nat.le_of_ble_eq_true hnm
      split at h3
      · rename_i i hi
        rw [setE_eq] at h3
        have hil := h1 n i (by omega) hi
        obtain ⟨ρ2, pb2, rwC2, js2, g1, g2, g3, g4, g5, g6, g7, g8⟩ := bkO_s hσ l (n + 1) r _ ρ1 _ rwC1 K _ js1 h3 h4 (fun k i' hk hk' => by simpa using h1 k i' hk hk') (fun k hk hk' => by rw [h2 k hk (by omega)]; simp; omega)
        refine ⟨ρ2, pb2, rwC2, js2, g1, g2, h5.trans g3, fun i' hi' hno => ?_, fun k b1 i' hk hk' jsF hp => ?_, fun i' hi' => ?_, fun i' hi' hl => ?_, fun k i' ha hb hm hk => ?_⟩
        · rw [g4 i' (by simpa using hi') fun k hk hk' => hno k (by omega) hk', List.getElem?_set, if_neg]
          rintro rfl; exact hno n (Nat.le_refl _) (by omega) hi
        · cases k with
          | zero =>
            simp only [List.getElem?_cons_zero, Option.some.injEq] at hk; subst hk
            rw [Nat.add_zero, hi] at hk'; simp only [Option.some.injEq] at hk'; subst hk'
            rw [g4 i (by simpa using hil) fun k hk hk' hk2 => by have := hσ _ _ _ hk2 hi; omega, List.getElem?_set, if_pos rfl, if_pos hil, h6 jsF (g3.trans hp)]
          | succ k => exact g5 k b1 i' (by simpa using hk) (by rw [show n + 1 + k = n + (k + 1) by omega]; exact hk') jsF hp
        · rcases g6 i' hi' with h' | ⟨k, k1, k2, k3⟩
          · exact .inl (by simpa using h')
          · exact .inr ⟨k + 1, by simp; omega, by omega, by rw [show n + (k + 1) = n + 1 + k by omega]; exact k3⟩
        · refine g7 i' (by simpa using hi') ?_
          obtain ⟨b, hb⟩ := hl
          unfold live
          rw [List.getElem?_set]; split
          · rename_i e; subst e; exact ⟨_, rfl⟩
          · exact ⟨b, hb⟩
        · by_cases hkn : k = n
          · subst hkn
            rw [hi] at hk; simp only [Option.some.injEq] at hk; subst hk
            refine g7 i (by simpa using hil) ?_
            unfold live
            rw [List.getElem?_set, if_pos rfl, if_pos hil]; exact ⟨_, rfl⟩
          · exact g8 k i' (by omega) (by simp at hb; omega) hm hk
      · cases h3
    · rename_i hnm
      have hnm : m ≤ n := by
        rcases Nat.lt_or_ge n m with h' | h'
        · have := Nat.ble_eq_true_of_le h'; simp only [Nat.blt] at hnm; rw [this] at hnm; cases hnm
        · exact h'
      rw [pushE_eq] at h3
      have hsn : σ n = some pb.length := by have := h2 n hnm (Nat.le_refl _); rw [Nat.max_eq_left hnm] at this; simpa using this
      obtain ⟨ρ2, pb2, rwC2, js2, g1, g2, g3, g4, g5, g6, g7, g8⟩ := bkO_s hσ l (n + 1) r _ ρ1 _ rwC1 K _ js1 h3 h4 (fun k i' hk hk' => by have := h1 k i' hk hk'; simp; omega) (fun k hk hk' => by rw [h2 k hk (by omega)]; simp; omega)
      refine ⟨ρ2, pb2, rwC2, js2, g1, g2, h5.trans g3, fun i' hi' hno => ?_, fun k b1 i' hk hk' jsF hp => ?_, fun i' hi' => ?_, fun i' hi' hl => ?_, fun k i' ha hb hm hk => by omega⟩
      · rw [g4 i' (by simp; omega) fun k hk hk' => by omega, List.getElem?_append_left hi']
      · cases k with
        | zero =>
          simp only [List.getElem?_cons_zero, Option.some.injEq] at hk; subst hk
          rw [Nat.add_zero, hsn] at hk'; simp only [Option.some.injEq] at hk'; subst hk'
          rw [g4 pb.length (by simp) fun k hk hk' => by omega, h6 jsF (g3.trans hp)]; simp
        | succ k => exact g5 k b1 i' (by simpa using hk) (by rw [show n + 1 + k = n + (k + 1) by omega]; exact hk') jsF hp
      · rcases g6 i' hi' with h' | ⟨k, k1, k2, k3⟩
        · rcases Nat.lt_or_ge i' pb.length with hl | hl
          · exact .inl hl
          · have : i' = pb.length := by simp at h'; omega
            subst this
            exact .inr ⟨0, by simp, by omega, by simpa using hsn⟩
        · exact .inr ⟨k + 1, by simp; omega, by omega, by rw [show n + (k + 1) = n + 1 + k by omega]; exact k3⟩
      · refine g7 i' (by simp; omega) ?_
        obtain ⟨b, hb⟩ := hl
        exact ⟨b, by rw [List.getElem?_append_left hi']; exact hb⟩
end
end Go.Vc

namespace Go.Vc
open Go Go.RowKit
/-! ### Behind a call -/
mutual
theorem DV.okf_true : (p : DV) → p.okf true = true
  | .fn _ cs => by simp only [DV.okf]; exact okfL_true cs
  | .agg cs => by simp only [DV.okf]; exact okfL_true cs
  | .tup cs => by simp only [DV.okf]; exact okfL_true cs
  | .sl _ _ | .set _ | .int _ _ | .bool _ | .lit _ | .str _ | .v _ | .und | .row _ | .el _ _ _ | .re _ _ _ | .rt _ _ | .ob _ | .own _ _ | .junk => rfl
theorem okfL_true : (ps : List DV) → okfL true ps = true
  | [] => rfl
  | p :: ps => by simp only [okfL, DV.okf_true p, okfL_true ps]; rfl
end
theorem cells_okf {f : Bool} : (t : DT) → (x : t.den) → (r : List DV) → t.free = true → okfL f r = true → okfL f (t.cells x r) = true
  | .int _, _, r, _, h | .bool, _, r, _, h | .str, _, r, _, h => by simp only [DT.cells, okfL, DV.okf]; exact h
  | .slc _, _, _, h, _ => by cases h
  | .set, _, _, h, _ => by cases h
  | .unit, _, r, _, h => h
  | .pair a b, x, r, hf, h => by
    simp only [DT.free, Bool.and_eq_true] at hf
    exact cells_okf a _ _ hf.1 (cells_okf b _ _ hf.2 h)
theorem val_okf {f : Bool} : (t : DT) → (x : t.den) → t.free = true → (t.val x).okf f = true
  | .int _, _, _ | .bool, _, _ | .str, _, _ | .unit, _, _ => rfl
  | .slc _, _, h => by cases h
  | .set, _, h => by cases h
  | .pair a b, x, hf => by
    simp only [DT.free, Bool.and_eq_true] at hf
    simp only [DT.val, DV.okf]
    exact cells_okf a _ _ hf.1 (cells_okf b _ _ hf.2 rfl)
def rwFree (rw : List DR) : Prop := ∀ (n : Nat) e t l, rw[n]? = some (.own e t l) → t.free = true
theorem rwFree.snoc {rw : List DR} (h : rwFree rw) {e : TypeId} {t : DT} (l : List t.den) (ht : t.free = true) : rwFree (rw ++ [.own e t l]) := by
  intro n e' t' l' hn
  rcases snoc_get hn with ⟨_, g⟩ | ⟨_, g⟩
  · exact h n e' t' l' g
  · simp only [DR.own.injEq] at g; obtain ⟨_, rfl, _⟩ := g; exact ht
mutual
theorem PK.mk_okf : (p : PK) → (r : DT) → (z : (p.T r).den) → (rw : List DR) → p.free = true → rwFree rw → (p.mk r z rw).1.okf false = true ∧ rwFree (p.mk r z rw).2.2
  | .v t, r, z, rw, h, hr => ⟨val_okf t _ (by simpa only [PK.free] using h), hr⟩
  | .row e t, r, z, rw, h, hr => ⟨rfl, hr.snoc _ (by simpa only [PK.free] using h)⟩
  | .ptr k, r, z, rw, h, hr => ⟨rfl, hr⟩
  | .fn g l, r, z, rw, h, hr => by simp only [PK.mk, DV.okf]; exact pkM_okf l r z rw (by simpa only [PK.free] using h) hr
  | .agg l, r, z, rw, h, hr => by simp only [PK.mk, DV.okf]; exact pkM_okf l r z rw (by simpa only [PK.free] using h) hr
theorem pkM_okf : (l : List PK) → (r : DT) → (z : (pkT l r).den) → (rw : List DR) → pkFree l = true → rwFree rw → okfL false (pkM l r z rw).1 = true ∧ rwFree (pkM l r z rw).2.2
  | [], r, z, rw, _, hr => ⟨rfl, hr⟩
  | p :: l, r, z, rw, h, hr => by
    simp only [pkFree, Bool.and_eq_true] at h
    obtain ⟨h1, h2⟩ := PK.mk_okf p (pkT l r) z rw h.1 hr
    obtain ⟨h3, h4⟩ := pkM_okf l r _ _ h.2 h2
    exact ⟨by simp only [pkM, okfL, h1, h3, Bool.and_self], h4⟩
end
theorem bkM_okf : (l : List BK) → (r : DT) → (z : (bkT l r).den) → (rw : List DR) → bkFree l = true → rwFree rw → (∀ (k : Nat) b, (bkM l r z rw).1[k]? = some (some b) → okfL false b.cells = true) ∧ rwFree (bkM l r z rw).2.2
  | [], r, z, rw, _, hr => ⟨fun k b h => by simp [bkM] at h, hr⟩
  | Bk :: l, r, z, rw, h, hr => by
    simp only [bkFree, Bool.and_eq_true] at h
    obtain ⟨h1, h2⟩ := pkM_okf Bk.cells (bkT l r) z rw h.1 hr
    obtain ⟨h3, h4⟩ := bkM_okf l r _ _ h.2 h2
    refine ⟨fun k b hk => ?_, h4⟩
    simp only [bkM] at hk
    cases k with
    | zero => simp only [List.getElem?_cons_zero, Option.some.injEq] at hk; subst hk; exact h1
    | succ k => exact h3 k b (by simpa using hk)
mutual
theorem QT.mk_okf : (Q : QT) → (x : Q.den) → (rw : List DR) → Q.free = true → rwFree rw → (Q.mk x rw).1.okf false = true ∧ rwFree (Q.mk x rw).2
  | .v t, x, rw, h, hr => ⟨val_okf t _ h, hr⟩
  | .own e t, x, rw, h, hr => ⟨rfl, hr.snoc _ h⟩
  | .ptr k, x, rw, h, hr => ⟨rfl, hr⟩
  | .unit, x, rw, h, hr => ⟨rfl, hr⟩
  | .pair a b, x, rw, h, hr => by
    simp only [QT.free, Bool.and_eq_true] at h
    obtain ⟨h1, h2⟩ := QT.mk_okf a x.1 rw h.1 hr
    obtain ⟨h3, h4⟩ := QT.mks_okf b x.2 _ h.2 h2
    exact ⟨by simp only [QT.mk, DV.okf, okfL, h1, h3, Bool.and_self], h4⟩
theorem QT.mks_okf : (Q : QT) → (x : Q.den) → (rw : List DR) → Q.free = true → rwFree rw → okfL false (Q.mks x rw).1 = true ∧ rwFree (Q.mks x rw).2
  | .v t, x, rw, h, hr => ⟨rfl, hr⟩
  | .own e t, x, rw, h, hr => ⟨rfl, hr⟩
  | .ptr k, x, rw, h, hr => ⟨rfl, hr⟩
  | .unit, x, rw, h, hr => ⟨rfl, hr⟩
  | .pair a b, x, rw, h, hr => by
    simp only [QT.free, Bool.and_eq_true] at h
    obtain ⟨h1, h2⟩ := QT.mk_okf a x.1 rw h.1 hr
    obtain ⟨h3, h4⟩ := QT.mks_okf b x.2 _ h.2 h2
    exact ⟨by simp only [QT.mks, okfL, h1, h3, Bool.and_self], h4⟩
end
open Classical in
/-- where the caller finds a box, a row that came back -/
noncomputable def hitB (B B1 : Nat → Nat) (pb1 : DBs) (σ : Nat → Option Nat) : Nat → Nat := fun i => if h : ∃ k, live pb1 k ∧ σ k = some i then B1 (Classical.choose h) else B i
open Classical in
noncomputable def hitA (A A1 : Asg) (js : List Nat) : Asg := fun j => if h : ∃ n : Nat, js[n]? = some j then A1 (Classical.choose h) else A j
theorem hitB_yes {B B1 : Nat → Nat} {pb1 : DBs} {σ : Nat → Option Nat} (hσ : ∀ (k k' i : Nat), σ k = some i → σ k' = some i → k = k') {k i : Nat} (hl : live pb1 k) (hk : σ k = some i) : hitB B B1 pb1 σ i = B1 k := by
  have h : ∃ k, live pb1 k ∧ σ k = some i := ⟨k, hl, hk⟩
  unfold hitB; rw [dif_pos h, hσ _ _ _ (Classical.choose_spec h).2 hk]
theorem hitB_no {B B1 : Nat → Nat} {pb1 : DBs} {σ : Nat → Option Nat} {i : Nat} (h : ¬ ∃ k, live pb1 k ∧ σ k = some i) : hitB B B1 pb1 σ i = B i := by unfold hitB; rw [dif_neg h]
theorem hitA_yes {A A1 : Asg} {js : List Nat} (hi : ∀ (n n' j : Nat), js[n]? = some j → js[n']? = some j → n = n') {n j : Nat} (hn : js[n]? = some j) : hitA A A1 js j = A1 n := by
  have h : ∃ n : Nat, js[n]? = some j := ⟨n, hn⟩
  unfold hitA; rw [dif_pos h, hi _ _ _ (Classical.choose_spec h) hn]
theorem hitA_no {A A1 : Asg} {js : List Nat} {j : Nat} (h : ¬ ∃ n : Nat, js[n]? = some j) : hitA A A1 js j = A j := by unfold hitA; rw [dif_neg h]
section
variable {V : World} {U0 L : Nat → Prop} {al : Nat → Bool} {B B1 : Nat → Nat} {A A1 : Asg} {pb pb0 pb1 pbF : DBs} {rw rw0 rw1 rwF base : List DR} {w w' : World} {σ0 σ : Nat → Option Nat} {rs ρ : List (Option Nat)} {js : List Nat} {bor : Nat → Prop}
theorem Mem.back (f : Nat → Option DV) (fr : Bool) (m : Mem V U0 L B A pb rw w)
    (hrow : ∀ (n b : Nat), blk (lB B σ0) (lA A rs) pb0 rw0 true n b → ∃ j : Nat, rs[n]? = some (some j) ∧ blk B A pb rw true j b)
    (hbx : ∀ k b, blk (lB B σ0) (lA A rs) pb0 rw0 false k b → ∃ i, σ0 k = some i ∧ blk B A pb rw false i b)
    (hal : ∀ k i, σ0 k = some i → al i = true)
    (m1 : Mem w (lU (Us U0 B A pb rw) B A rw (Ow (lB B σ0) (lA A rs) pb0 rw0) bor) (Ow (lB B σ0) (lA A rs) pb0 rw0) B1 A1 pb1 rw1 w')
    (hlive : ∀ i, live pb0 i → live pb1 i ∧ B1 i = lB B σ0 i)
    (hσ : ∀ (k k' i : Nat), σ k = some i → σ k' = some i → k = k') (hσ0 : ∀ k i, live pb0 k → σ0 k = some i → σ k = some i) (hσl : ∀ k i, σ0 k = some i → live pb0 k)
    (hσn : ∀ k i, live pb1 k → σ k = some i → σ0 k = some i ∨ ¬ live pb i)
    (hpb : ∀ (i : Nat) (b' : DB), pbF[i]? = some (some b') → (∃ (k : Nat) (b1 : DB), σ k = some i ∧ pb1[k]? = some (some b1) ∧ b'.ty = b1.ty ∧ b'.cells = renL σ js b1.cells ∧ b'.w = true) ∨
      ((∀ k, σ k = some i → ¬ live pb1 k) ∧ (∀ k, σ0 k ≠ some i) ∧ ∃ b, pb[i]? = some (some b) ∧ b' = ⟨b.ty, subL f b.cells, b.w⟩))
    (hpl : ∀ i, live pb i → live pbF i) (hlF : ∀ k i, σ k = some i → live pb1 k → live pbF i) (ro : RO base rw1 ρ rwF js)
    (hb1 : ∀ j : Nat, (∀ n : Nat, rs[n]? ≠ some (some j)) → base[j]? = rw[j]?) (hb2 : ∀ n j : Nat, rs[n]? = some (some j) → base[j]? = some .dead)
    (hf : ∀ j, f j = none → ∀ n : Nat, rs[n]? ≠ some (some j)) (hfj : ∀ j p, f j = some p → p = .junk)
    (hfr : fr = true → ∀ j, ¬ bor j) (hok : ∀ (k : Nat) b, pb1[k]? = some (some b) → okfL fr b.cells = true) (hok2 : fr = false → rwFree rw1) :
    Mem V U0 L (hitB B B1 pb1 σ) (hitA A A1 js) pbF rwF w' ∧ Sub f (env U0 B A pb rw w) (env U0 (hitB B B1 pb1 σ) (hitA A A1 js) pbF rwF w') ∧ Ext al B A pb rw w (hitB B B1 pb1 σ) (hitA A A1 js) pbF rwF w' ∧
      Tr fr σ js (env (lU (Us U0 B A pb rw) B A rw (Ow (lB B σ0) (lA A rs) pb0 rw0) bor) B1 A1 pb1 rw1 w') (env U0 (hitB B B1 pb1 σ) (hitA A A1 js) pbF rwF w') := by
  generalize hL0 : Ow (lB B σ0) (lA A rs) pb0 rw0 = L0 at *
  have L0s : ∀ b, L0 b → (∃ k i, σ0 k = some i ∧ blk B A pb rw false i b) ∨ ∃ n j : Nat, rs[n]? = some (some j) ∧ blk B A pb rw true j b := by
    intro b hb
    rw [← hL0] at hb
    obtain ⟨k, i, hb⟩ := hb
    cases k with
    | true => obtain ⟨j, h1, h2⟩ := hrow i b hb; exact .inr ⟨i, j, h1, h2⟩
    | false => obtain ⟨j, h1, h2⟩ := hbx i b hb; exact .inl ⟨i, j, h1, h2⟩
  have L0w : ∀ b, L0 b → Wr al B A pb rw b := fun b hb => by
    rcases L0s b hb with ⟨k, i, h1, h2⟩ | ⟨n, j, _, h2⟩
    · exact .inl ⟨i, hal k i h1, h2⟩
    · exact .inr ⟨j, h2⟩
  have L0o : ∀ b, L0 b → ∃ k i, blk B A pb rw k i b := fun b hb => by
    rcases L0s b hb with ⟨k, i, h1, h2⟩ | ⟨n, j, _, h2⟩
    · exact ⟨_, i, h2⟩
    · exact ⟨_, j, h2⟩
  -- what is new, what is as it was
  have jold : ∀ j : Nat, (¬ ∃ n : Nat, js[n]? = some j) → rwF[j]? = base[j]? := fun j h => ro.old j fun n hn => h ⟨n, hn⟩
  have jbase : ∀ j r, rw[j]? = some r → r ≠ .dead → (∀ n : Nat, rs[n]? ≠ some (some j)) → ¬ ∃ n : Nat, js[n]? = some j := by
    rintro j r h1 h2 h3 ⟨n, hn⟩
    have := hb1 j h3
    rw [h1] at this
    rcases ro.new n j hn with h | h
    · rw [this] at h; simp at h; exact h2 h
    · rw [this] at h; cases h
  have cl : ∀ k i b, blk (hitB B B1 pb1 σ) (hitA A A1 js) pbF rwF k i b → (∃ i1, blk B1 A1 pb1 rw1 k i1 b ∧ ((k = false ∧ σ i1 = some i) ∨ (k = true ∧ js[i1]? = some i))) ∨ (blk B A pb rw k i b ∧ ¬ L0 b) := by
    intro k i b h
    cases k with
    | false =>
      obtain ⟨⟨b', g1⟩, g2⟩ := h
      rcases hpb i b' g1 with ⟨k1, b1, h1, h2, _⟩ | ⟨h0, h1, b0, h2, _⟩
      · rw [hitB_yes hσ ⟨b1, h2⟩ h1] at g2
        exact .inl ⟨k1, ⟨⟨b1, h2⟩, g2⟩, .inl ⟨rfl, h1⟩⟩
      · rw [hitB_no (by rintro ⟨k, hk1, hk2⟩; exact h0 k hk2 hk1)] at g2
        have hbl : blk B A pb rw false i b := ⟨⟨b0, h2⟩, g2⟩
        refine .inr ⟨hbl, fun hL => ?_⟩
        rcases L0s b hL with ⟨k, i', e1, e2⟩ | ⟨n, j, _, e2⟩
        · have := (m.inj _ _ _ _ _ hbl e2).2; subst this; exact h1 k e1
        · have := (m.inj _ _ _ _ _ hbl e2).1; cases this
    | true =>
      obtain ⟨r, ad, g1, g2, g3, g4⟩ := h
      by_cases hh : ∃ n : Nat, js[n]? = some i
      · obtain ⟨n, hn⟩ := hh
        have hl := (List.getElem?_eq_some_iff.1 hn).1
        rw [ro.len] at hl
        have hr1 := List.getElem?_eq_getElem hl
        have := ro.row n i _ hn hr1
        rw [g1] at this; simp only [Option.some.injEq] at this; subst this
        rw [hitA_yes ro.inj hn] at g3
        exact .inl ⟨n, ⟨_, ad, hr1, g2, g3, g4⟩, .inr ⟨rfl, hn⟩⟩
      · rw [jold i hh] at g1
        have hnr : ∀ n : Nat, rs[n]? ≠ some (some i) := fun n hn => by rw [hb2 n i hn] at g1; simp at g1; exact g2 g1.symm
        rw [hb1 i hnr] at g1
        rw [hitA_no hh] at g3
        have hbl : blk B A pb rw true i b := ⟨r, ad, g1, g2, g3, g4⟩
        refine .inr ⟨hbl, fun hL => ?_⟩
        rcases L0s b hL with ⟨k, i', e1, e2⟩ | ⟨n, j, e1, e2⟩
        · have := (m.inj _ _ _ _ _ hbl e2).1; cases this
        · have := (m.inj _ _ _ _ _ hbl e2).2; subst this; exact hnr n e1
  have keepB : ∀ b, b < w.heap.size → ¬ L0 b → w'.heap[b]? = w.heap[b]? := fun b hb hn => m1.same b hb hn
  have lt : fr = true → Later (Us (lU (Us U0 B A pb rw) B A rw L0 bor) B1 A1 pb1 rw1) (Us U0 (hitB B B1 pb1 σ) (hitA A A1 js) pbF rwF) w' w' := fun hfr' => ⟨fun _ _ _ => rfl, Nat.le_refl _, fun b _ hu => by
    have u1 : ∀ b, Us U0 B A pb rw b → ¬ L0 b → lU (Us U0 B A pb rw) B A rw L0 bor b := fun b h1 h2 => ⟨h1, h2, fun ⟨j, hj, _⟩ => hfr hfr' j hj⟩
    rcases hu with hu | ⟨k, i, hu⟩
    · refine .inl (u1 b (.inl hu) fun hL => ?_)
      obtain ⟨k, i, hb⟩ := L0o b hL
      have := m.u0 b hu
      rcases (m.low k i b hb).2 with h | h
      · omega
      · exact this.2 h
    · rcases cl k i b hu with ⟨i1, h, _⟩ | ⟨h, hn⟩
      · exact .inr ⟨k, i1, h⟩
      · exact .inl (u1 b (.inr ⟨k, i, h⟩) hn)⟩
  have tr : Tr fr σ js (env (lU (Us U0 B A pb rw) B A rw L0 bor) B1 A1 pb1 rw1 w') (env U0 (hitB B B1 pb1 σ) (hitA A A1 js) pbF rwF w') := by
    refine ⟨lt, fun k i hk hl => ?_, fun n j e t l hn hr => ⟨ro.row n j _ hn hr, hitA_yes ro.inj hn⟩⟩
    exact ⟨hlF k i hk hl, hitB_yes hσ hl hk⟩
  have hbxx : ∀ i, live pb i → live pbF i ∧ hitB B B1 pb1 σ i = B i := fun i hl => by
    refine ⟨hpl i hl, ?_⟩
    by_cases hh : ∃ k, live pb1 k ∧ σ k = some i
    · obtain ⟨k, hk1, hk2⟩ := hh
      rw [hitB_yes hσ hk1 hk2]
      rcases hσn k i hk1 hk2 with h | h
      · rw [(hlive k (hσl k i h)).2]; simp only [lB, h, Option.getD_some]
      · exact absurd hl h
    · exact hitB_no hh
  obtain ⟨M, S, X⟩ := m.step0 (al := al) f (w' := w') (B' := hitB B B1 pb1 σ) (A' := hitA A A1 js) (pb' := pbF) (rw' := rwF) ⟨m1.os, m1.tape, m1.output, m1.size⟩ (fun b hb hn => keepB b hb fun hL => hn (L0w b hL))
    (fun b hb => by
      rcases hb with ⟨i, ha, hb⟩ | ⟨j, hb⟩
      · rcases cl _ i b hb with ⟨i1, h, _⟩ | ⟨h, _⟩
        · rcases (m1.low _ _ _ h).2 with h' | h'
          · exact .inr h'
          · exact .inl (L0w b h')
        · exact .inl (.inl ⟨i, ha, h⟩)
      · rcases cl _ j b hb with ⟨i1, h, _⟩ | ⟨h, _⟩
        · rcases (m1.low _ _ _ h).2 with h' | h'
          · exact .inr h'
          · exact .inl (L0w b h')
        · exact .inl (.inr ⟨j, h⟩))
    (fun k i b hb => by
      rcases cl k i b hb with ⟨i1, h, _⟩ | ⟨h, _⟩
      · have hl := m1.low _ _ _ h
        rcases hl.2 with h' | h'
        · exact .inr ⟨h', hl.1⟩
        · exact .inl (L0o b h')
      · exact .inl ⟨k, i, h⟩)
    (fun k i k' i' b hb hb' => by
      have no : ∀ k i k1 i1, blk B1 A1 pb1 rw1 k1 i1 b → blk B A pb rw k i b → ¬ L0 b → False := fun k i k1 i1 h1 h2 h3 => by
        rcases (m1.low _ _ _ h1).2 with h' | h'
        · have := (m.low _ _ _ h2).1; omega
        · exact h3 h'
      rcases cl k i b hb with ⟨i1, h, hk⟩ | ⟨h, hn⟩
      · rcases cl k' i' b hb' with ⟨i1', h', hk'⟩ | ⟨h', hn'⟩
        · obtain ⟨e1, e2⟩ := m1.inj _ _ _ _ _ h h'
          subst e1 e2
          rcases hk with ⟨rfl, hk⟩ | ⟨rfl, hk⟩
          · rcases hk' with ⟨_, hk'⟩ | ⟨h0, _⟩
            · rw [hk] at hk'; simp at hk'; exact ⟨rfl, hk'⟩
            · cases h0
          · rcases hk' with ⟨h0, _⟩ | ⟨_, hk'⟩
            · cases h0
            · rw [hk] at hk'; simp at hk'; exact ⟨rfl, hk'⟩
        · exact (no _ _ _ _ h h' hn').elim
      · rcases cl k' i' b hb' with ⟨i1', h', _⟩ | ⟨h', _⟩
        · exact (no _ _ _ _ h' h hn).elim
        · exact m.inj _ _ _ _ _ h h')
    hbxx (fun j e t l hfj' hj => by
      have hnr := hf j hfj'
      have hnj := jbase j _ hj (by simp) hnr
      exact ⟨l, by rw [jold j hnj, hb1 j hnr]; exact hj, rfl, hitA_no hnj⟩)
    (fun j d hfj' hj => by
      have hnr := hf j hfj'
      have hnj := jbase j _ hj (by simp) hnr
      exact ⟨⟨d, by rw [jold j hnj, hb1 j hnr]; exact hj, rfl⟩, hitA_no hnj⟩)
    (fun _ j p e t l hp _ => by rw [hfj j p hp]; simp only [DV.h])
    (fun _ j p d ad hp _ _ => by rw [hfj j p hp]; simp only [DV.h])
    (fun _ i b' hi => by
      rcases hpb i b' hi with ⟨k, b1, h1, h2, h3, h4, h5⟩ | ⟨h0, h1, b, h2, rfl⟩
      · obtain ⟨cs, g1, g2, _⟩ := m1.box k b1 h2
        refine .inr ⟨cs, by rw [hitB_yes hσ ⟨b1, h2⟩ h1, h3]; exact g1, by rw [h4]; exact renL_h tr _ (hok k b1 h2) g2, h5⟩
      · refine .inl ⟨b, h2, rfl, rfl, id, ?_⟩
        have hbl : blk B A pb rw false i (B i) := ⟨⟨b, h2⟩, rfl⟩
        refine keepB _ (m.low _ _ _ hbl).1 fun hL => ?_
        rcases L0s _ hL with ⟨k, i', e1, e2⟩ | ⟨n, j, _, e2⟩
        · have := (m.inj _ _ _ _ _ hbl e2).2; subst this; exact h1 k e1
        · have := (m.inj _ _ _ _ _ hbl e2).1; cases this)
    (fun _ j e t l hj => by
      by_cases hh : ∃ n : Nat, js[n]? = some j
      · obtain ⟨n, hn⟩ := hh
        have hl := (List.getElem?_eq_some_iff.1 hn).1
        rw [ro.len] at hl
        have hr1 := List.getElem?_eq_getElem hl
        have := ro.row n j _ hn hr1
        rw [hj] at this; simp only [Option.some.injEq] at this
        rw [← this] at hr1
        obtain ⟨xs, g1, g2⟩ := m1.row n e t l hr1
        refine .inr ⟨xs, by rw [hitA_yes ro.inj hn]; exact g1, ?_⟩
        cases hfr' : fr with
        | true => exact DT.hs_mono (lt hfr') g2
        | false => exact ⟨g2.1, fun i x hx => t.h_free (hok2 hfr' n e t l hr1) (g2.2 i x hx)⟩
      · rw [jold j hh] at hj
        have hnr : ∀ n : Nat, rs[n]? ≠ some (some j) := fun n hn => by rw [hb2 n j hn] at hj; cases hj
        rw [hb1 j hnr] at hj
        refine .inl ⟨hj, hitA_no hh, fun ad had => ?_⟩
        have hbl : blk B A pb rw true j ad.block := ⟨_, ad, hj, by simp, had, rfl⟩
        refine keepB _ (m.low _ _ _ hbl).1 fun hL => ?_
        rcases L0s _ hL with ⟨k, i', e1, e2⟩ | ⟨n, j', e1, e2⟩
        · have := (m.inj _ _ _ _ _ hbl e2).1; cases this
        · have := (m.inj _ _ _ _ _ hbl e2).2; subst this; exact hnr n e1)
    (fun _ j d hj => by
      by_cases hh : ∃ n : Nat, js[n]? = some j
      · obtain ⟨n, hn⟩ := hh
        have hl := (List.getElem?_eq_some_iff.1 hn).1
        rw [ro.len] at hl
        have hr1 := List.getElem?_eq_getElem hl
        have := ro.row n j _ hn hr1
        rw [hj] at this; simp only [Option.some.injEq] at this
        rw [← this] at hr1
        obtain ⟨_, _, _, h'⟩ := ro.own n _ hr1
        cases h'
      · rw [jold j hh] at hj
        have hnr : ∀ n : Nat, rs[n]? ≠ some (some j) := fun n hn => by rw [hb2 n j hn] at hj; cases hj
        rw [hb1 j hnr] at hj
        refine .inl ⟨hj, hitA_no hh, fun ad had => ?_⟩
        have hbl : blk B A pb rw true j ad.block := ⟨_, ad, hj, by simp, had, rfl⟩
        refine keepB _ (m.low _ _ _ hbl).1 fun hL => ?_
        rcases L0s _ hL with ⟨k, i', e1, e2⟩ | ⟨n, j', e1, e2⟩
        · have := (m.inj _ _ _ _ _ hbl e2).1; cases this
        · have := (m.inj _ _ _ _ _ hbl e2).2; subst this; exact hnr n e1)
  exact ⟨M, S, X, tr⟩
end
end Go.Vc

namespace Go.Vc
open Go Go.RowKit
/-! ### A call -/
mutual
theorem DV.sub_agree {f g : Nat → Option DV} (h : ∀ j, (f j).isSome = (g j).isSome) : (p : DV) → (acc : List Nat) → (∀ j ∈ p.rows acc, f j = g j) → p.sub f = p.sub g ∧ ∀ j ∈ acc, f j = g j
  | .row i, acc, hr => by simp only [DV.rows] at hr; exact ⟨by unfold DV.sub; rw [hr i (by simp)], fun j hj => hr j (by simp [hj])⟩
  | .re i a b, acc, hr => by
    refine ⟨?_, hr⟩
    unfold DV.sub
    have := h i
    revert this
    cases f i <;> cases g i <;> simp
  | .rt i a, acc, hr => by
    refine ⟨?_, hr⟩
    unfold DV.sub
    have := h i
    revert this
    cases f i <;> cases g i <;> simp
  | .ob i, acc, hr => by simp only [DV.rows] at hr; exact ⟨by unfold DV.sub; rw [hr i (by simp)], fun j hj => hr j (by simp [hj])⟩
  | .fn _ cs, acc, hr => by simp only [DV.rows] at hr; obtain ⟨h1, h2⟩ := subL_agree h cs acc hr; exact ⟨by simp only [DV.sub, h1], h2⟩
  | .agg cs, acc, hr => by simp only [DV.rows] at hr; obtain ⟨h1, h2⟩ := subL_agree h cs acc hr; exact ⟨by simp only [DV.sub, h1], h2⟩
  | .tup cs, acc, hr => by simp only [DV.rows] at hr; obtain ⟨h1, h2⟩ := subL_agree h cs acc hr; exact ⟨by simp only [DV.sub, h1], h2⟩
  | .int _ _, _, hr | .bool _, _, hr | .lit _, _, hr | .str _, _, hr | .v _, _, hr | .und, _, hr | .sl _ _, _, hr | .set _, _, hr | .el _ _ _, _, hr | .own _ _, _, hr | .junk, _, hr => ⟨rfl, hr⟩
theorem subL_agree {f g : Nat → Option DV} (h : ∀ j, (f j).isSome = (g j).isSome) : (ps : List DV) → (acc : List Nat) → (∀ j ∈ rowsDL ps acc, f j = g j) → subL f ps = subL g ps ∧ ∀ j ∈ acc, f j = g j
  | [], acc, hr => ⟨rfl, hr⟩
  | p :: ps, acc, hr => by
    simp only [rowsDL] at hr
    obtain ⟨h1, h2⟩ := DV.sub_agree h p _ hr
    obtain ⟨h3, h4⟩ := subL_agree h ps acc h2
    exact ⟨by simp only [subL, h1, h3], h4⟩
end
theorem viewD_n {rw : List DR} {j : Nat} {e : TypeId} {t : DT} {l : List t.den} (h : rw[j]? = some (.own e t l)) : viewD rw j = some (.sl t l) := by unfold viewD; rw [drV_spec, h]
mutual
theorem PK.view_s {β : Type} {q : β} {rw : List DR} {f : Nat → Option DV} {E E' : Env} (s : Sub f E E') (s0 : Sub noF E E') (hs : ∀ j, (f j).isSome = (viewD rw j).isSome) : (p : PK) → (u : DV) → (acc : List Nat) → (K : DV → Option β) → (∀ j ∈ p.frz u acc, f j = viewD rw j) → p.view rw u K = some q →
    (∃ u', K u' = some q ∧ ∀ v, u.h E v → u'.h E' v) ∧ ∀ j ∈ acc, f j = viewD rw j
  | .v t, u, acc, K, hr, h => by
    simp only [PK.view, DV.subE_eq] at h
    simp only [PK.frz] at hr
    obtain ⟨h1, h2⟩ := DV.sub_agree hs u acc hr
    rw [← h1] at h
    exact ⟨⟨_, h, fun v hv => DV.h_sub s u hv⟩, h2⟩
  | .row e t, u, acc, K, hr, h => ⟨⟨u, by cases u <;> exact h, fun v hv => noSub1 s0 hv⟩, by cases u <;> exact hr⟩
  | .ptr k, u, acc, K, hr, h => ⟨⟨u, by cases u <;> exact h, fun v hv => noSub1 s0 hv⟩, by cases u <;> exact hr⟩
  | .fn g l, u, acc, K, hr, h => by
    cases u with
    | fn g' cs =>
      simp only [PK.view] at h
      simp only [PK.frz] at hr
      obtain ⟨⟨us, h1, h2⟩, h3⟩ := viewL_s s s0 hs l cs acc _ hr h
      refine ⟨⟨_, h1, fun v hv => ?_⟩, h3⟩
      simp only [DV.h] at hv ⊢
      obtain ⟨vs, rfl, hv⟩ := hv
      exact ⟨vs, rfl, h2 _ hv⟩
    | _ => exact ⟨⟨_, h, fun v hv => noSub1 s0 hv⟩, hr⟩
  | .agg l, u, acc, K, hr, h => by
    cases u with
    | agg cs =>
      simp only [PK.view] at h
      simp only [PK.frz] at hr
      obtain ⟨⟨us, h1, h2⟩, h3⟩ := viewL_s s s0 hs l cs acc _ hr h
      refine ⟨⟨_, h1, fun v hv => ?_⟩, h3⟩
      simp only [DV.h] at hv ⊢
      obtain ⟨vs, rfl, hv⟩ := hv
      exact ⟨vs, rfl, h2 _ hv⟩
    | _ => exact ⟨⟨_, h, fun v hv => noSub1 s0 hv⟩, hr⟩
theorem viewL_s {β : Type} {q : β} {rw : List DR} {f : Nat → Option DV} {E E' : Env} (s : Sub f E E') (s0 : Sub noF E E') (hs : ∀ j, (f j).isSome = (viewD rw j).isSome) : (l : List PK) → (us : List DV) → (acc : List Nat) → (K : List DV → Option β) → (∀ j ∈ frzL l us acc, f j = viewD rw j) → viewL rw l us K = some q →
    (∃ us', K us' = some q ∧ ∀ vs, hL E us vs → hL E' us' vs) ∧ ∀ j ∈ acc, f j = viewD rw j
  | [], us, acc, K, hr, h => ⟨⟨us, h, fun v hv => noSub s0 hv⟩, hr⟩
  | p :: l, [], acc, K, hr, h => ⟨⟨[], h, fun v hv => noSub s0 hv⟩, hr⟩
  | p :: l, u :: us, acc, K, hr, h => by
    simp only [viewL] at h
    simp only [frzL] at hr
    obtain ⟨⟨u', h1, h2⟩, h3⟩ := PK.view_s s s0 hs p u _ _ hr h
    obtain ⟨⟨us', g1, g2⟩, g3⟩ := viewL_s s s0 hs l us acc _ h3 h1
    refine ⟨⟨_, g1, fun vs hv => ?_⟩, g3⟩
    simp only [hL] at hv ⊢
    obtain ⟨v, vs', rfl, k1, k2⟩ := hv
    exact ⟨v, vs', rfl, h2 v k1, g2 vs' k2⟩
end
theorem lkA_mem : ∀ {am : List (Nat × Nat)} {k i : Nat}, lkA am k = some i → (k, i) ∈ am
  | [], k, i, h => by simp [lkA] at h
  | (k', i') :: am, k, i, h => by
    simp only [lkA] at h
    split at h
    · rename_i hb; simp only [Option.some.injEq] at h; subst h; rw [Nat.eq_of_beq_eq_true hb]; simp
    · exact List.mem_cons_of_mem _ (lkA_mem h)
theorem lkA_inj : ∀ {am : List (Nat × Nat)}, nodupN (sndN am) = true → ∀ {k k' i : Nat}, lkA am k = some i → lkA am k' = some i → k = k'
  | [], _, k, k', i, h, _ => by simp [lkA] at h
  | (k0, i0) :: am, hn, k, k', i, h, h' => by
    simp only [sndN, nodupN, Bool.and_eq_true, Bool.not_eq_true'] at hn
    have hni : ∀ k, (k, i0) ∉ am := fun k hm => by
      have : i0 ∈ sndN am := by
        clear h h' hn
        induction am with
        | nil => cases hm
        | cons p am ih => rcases List.mem_cons.1 hm with rfl | hm
                          · simp [sndN]
                          · simp [sndN, ih hm]
      rw [← memN_iff] at this; rw [hn.1] at this; cases this
    simp only [lkA] at h h'
    split at h
    · rename_i hb
      simp only [Option.some.injEq] at h; subst h
      split at h'
      · rename_i hb'; rw [← Nat.eq_of_beq_eq_true hb, ← Nat.eq_of_beq_eq_true hb']
      · exact absurd (lkA_mem h') (hni _)
    · split at h'
      · simp only [Option.some.injEq] at h'; subst h'; exact absurd (lkA_mem h) (hni _)
      · exact lkA_inj hn.2 h h'
theorem keysLt_s : ∀ {am : List (Nat × Nat)} {n : Nat}, keysLt am n = true → ∀ {k i : Nat}, lkA am k = some i → k < n
  | [], _, _, k, i, h => by simp [lkA] at h
  | (k0, i0) :: am, n, ha, k, i, h => by
    simp only [keysLt, Bool.and_eq_true] at ha
    simp only [lkA] at h
    split at h
    · rename_i hb; rw [← Nat.eq_of_beq_eq_true hb]; exact Nat.le_of_ble_eq_true ha.1
    · exact keysLt_s ha.2 h
theorem allN_s : ∀ {am : List (Nat × Nat)} {al : Nat → Bool}, allN al (sndN am) = true → ∀ {k i : Nat}, lkA am k = some i → al i = true
  | [], _, _, k, i, h => by simp [lkA] at h
  | (k0, i0) :: am, al, ha, k, i, h => by
    simp only [sndN, allN, Bool.and_eq_true] at ha
    simp only [lkA] at h
    split at h
    · simp only [Option.some.injEq] at h; subst h; exact ha.1
    · exact allN_s ha.2 h
theorem someN_iff : ∀ {rs : List (Option Nat)} {j : Nat}, j ∈ someN rs ↔ ∃ n : Nat, rs[n]? = some (some j)
  | [], j => by simp [someN]
  | some i :: rs, j => by
    simp only [someN, List.mem_cons, someN_iff (rs := rs)]
    constructor
    · rintro (rfl | ⟨n, hn⟩)
      · exact ⟨0, rfl⟩
      · exact ⟨n + 1, by simpa using hn⟩
    · rintro ⟨n, hn⟩
      cases n with
      | zero => simp at hn; exact .inl hn.symm
      | succ n => exact .inr ⟨n, by simpa using hn⟩
  | none :: rs, j => by
    simp only [someN, someN_iff (rs := rs)]
    constructor
    · rintro ⟨n, hn⟩; exact ⟨n + 1, by simpa using hn⟩
    · rintro ⟨n, hn⟩
      cases n with
      | zero => simp at hn
      | succ n => exact ⟨n, by simpa using hn⟩
theorem someD_s {js : List Nat} {j : Nat} : (someD js j = none ↔ j ∉ js) ∧ ∀ p, someD js j = some p → p = .junk := by
  unfold someD
  cases h : memN j js with
  | true => exact ⟨by simp [(memN_iff j js).1 h], fun p hp => by simp at hp; exact hp.symm⟩
  | false =>
    have hn : j ∉ js := fun hm => by rw [(memN_iff j js).2 hm] at h; cases h
    exact ⟨⟨fun _ => hn, fun _ => rfl⟩, fun p hp => by cases hp⟩
theorem disN_s : ∀ {l js : List Nat}, disN l js = true → ∀ j ∈ l, j ∉ js
  | [], _, _ => by simp
  | n :: l, js, h => by
    simp only [disN, Bool.and_eq_true, Bool.not_eq_true'] at h
    intro j hj
    rcases List.mem_cons.1 hj with rfl | hj
    · intro hm; rw [(memN_iff _ _).2 hm] at h; cases h.1
    · exact disN_s h.2 j hj
section
variable {P : Program} {V : World} {U0 L : Nat → Prop} {al : Nat → Bool} {B : Nat → Nat} {A : Asg} {ts : List DV} {pb : DBs} {rw : List DR} {a : Act} {w : World} {β : Type} {q : β} {o : Oper} {K : DK β} {Q : Exit → Act → World → Prop}
theorem call_wp {g : FuncId} {args : Array Value} {R : Value → World → Prop} {N : Act → World → Prop} (hrun : (execOp a.eval o).run P w = (callFunc g args).run P w) (hc : CallsX P g args w R) (hR : ∀ v w', R v w' → N (a.put o.dst v) w') : o.wp P a w N Q := by
  rcases hc.ex with ⟨hb, hc⟩ | ⟨v, w', h1, h2⟩
  · rw [hb.run] at hrun
    simp only [Oper.wp, hrun, Oper.upon]
    refine hc.mono fun e w' ⟨v, he, hh⟩ => ?_
    subst he
    exact hR v w' hh
  · rw [h1] at hrun
    exact wp_of_value hrun (hR v w' h2)
theorem call_first {c : Call} {f : Operand} {g : FuncId} {caps : Array Value} (ho : o.op = .call c) (hc : c.callee = .value f) (hf : a.eval f = .func (.func g) caps #[]) :
    (execOp a.eval o).run P w = (callFunc g (caps ++ c.args.map a.eval)).run P w := by
  simp only [execOp, ho, resolve, hc, hf, Deferred.ofValue, Sem.run_bind, Sem.run_pure, Result.andThen_ok, invoke, Array.append_empty]
theorem call_resolve {c : Call} {f : Operand} {g : FuncId} {caps : Array Value} (ho : o.op = .call c) (hc : c.callee = .value f) (hf : a.eval f = .func (.func g) #[] caps) :
    (execOp a.eval o).run P w = (callFunc g (c.args.map a.eval ++ caps)).run P w := by
  simp only [execOp, ho, resolve, hc, hf, Deferred.ofValue, Sem.run_bind, Sem.run_pure, Result.andThen_ok, invoke, Array.empty_append]
theorem fnV_t {g : Nat} (h : Nat.ble 1000000 g = true) (vs : Array Value) : fnV g vs = .func (.func (g - 1000000)) vs #[] := by unfold fnV; rw [h, cond_true]
theorem fnV_f {g : Nat} (h : Nat.ble 1000000 g = false) (vs : Array Value) : fnV g vs = .func (.func g) #[] vs := by unfold fnV; rw [h, cond_false]
theorem RO.nil (rw : List DR) : RO rw [] [] rw [] := ⟨rfl, fun n j r h => by simp at h, fun n n' j h => by simp at h, fun a j h => by simp at h, fun a b j h => by simp at h, fun _ _ => rfl, fun n j h => by simp at h, fun n r h => by simp at h⟩
theorem esF_ok {g : FuncId} {s : ES} {xs : List DV} {vs : List Value} (fr : Bool) (bor : Nat → Prop) (hs : ESok P g s) (h : esF stdW s xs ts pb rw (fun r ts pb rw => retE o.dst r ts pb rw K) = some q) (m : Mem V U0 L B A pb rw w) (hts : hL (env U0 B A pb rw w) ts a.tmps.toList)
    (hxs : hL ⟨lU (Us U0 B A pb rw) B A rw (fun _ => False) bor, w, B, A, pb, rw⟩ xs vs) (hfr : fr = true → ∀ j, ¬ bor j) (hfree : fr = false → s.Q.free = true) (hrun : (execOp a.eval o).run P w = (callFunc g vs.toArray).run P w) : o.wp P a w (Nxt V U0 L al B A pb rw w a K q) Q := by
  unfold esF at h
  split at h
  · rename_i x hx
    obtain ⟨y, hy, h⟩ := call_s h
    have hL0 : Ow (lB B fun _ => none) (lA A []) [] [] = fun _ => False := by
      funext b
      refine propext ⟨?_, False.elim⟩
      rintro ⟨k, i, hb⟩
      cases k with
      | true => obtain ⟨r, ad, h1, _⟩ := hb; simp at h1
      | false => obtain ⟨⟨b0, h1⟩, _⟩ := hb; simp at h1
    obtain ⟨m0, hU, hr1, hb1⟩ := m.lend (σ := fun _ => none) (rs := []) (bor := bor) (pb0 := []) (rw0 := []) (fun k b0 h => by simp at h) (fun k b0 i b h => by simp at h) (fun k k' i h => by cases h) (fun n r h => by simp at h) (fun n n' j h => by simp at h)
    have hargs : hL (env (lU (Us U0 B A pb rw) B A rw (Ow (lB B fun _ => none) (lA A []) [] []) bor) (lB B fun _ => none) (lA A []) [] [] w) (argVs s.P x) vs := by
      refine ofA_h (E := ⟨lU (Us U0 B A pb rw) B A rw (fun _ => False) bor, w, B, A, pb, rw⟩) (E0 := env (lU (Us U0 B A pb rw) B A rw (Ow (lB B fun _ => none) (lA A []) [] []) bor) (lB B fun _ => none) (lA A []) [] [] w) ⟨fun _ _ _ => rfl, Nat.le_refl _, fun b _ hu => ?_⟩ hx hxs
      rcases hu with hu | hu
      · rw [hL0] at hu; exact hu
      · have : Ow (lB B fun _ => none) (lA A []) [] [] b := hu
        rw [hL0] at this; exact this.elim
    refine call_wp hrun (hs x y hy _ _ _ vs w m0 hargs) ?_
    rintro v w' ⟨B1, A1, r, pb1, rw1, m1, hrv, hlv, rfl, hmk⟩
    obtain ⟨d, ρ', rwC, js, h1, h2, _, h3⟩ := QT.o_s s.Q y [] rw _ [] [] h (RO.nil rw)
    rw [← hmk] at h2 h3
    obtain ⟨M, S, X, tr⟩ := Mem.back (al := al) (σ := fun _ => none) (pbF := pb) (base := rw) noF fr m hr1 hb1 (fun k i h => by cases h) m1 hlv (fun k k' i h => by cases h) (fun k i _ h => by cases h) (fun k i h => by cases h) (fun k i _ h => by cases h)
      (fun i b' hi => .inr ⟨fun k h => (by cases h), fun k h => (by cases h), b', hi, (by rw [subL_no])⟩) (fun i h => h) (fun k i h => by cases h) h2 (fun _ _ => rfl) (fun n j h => by simp at h) (fun j _ n h => by simp at h) (fun j p h => by cases h) hfr (fun k b h => by simp at h)
      (fun hf => by have := (QT.mk_okf s.Q y [] (hfree hf) (fun n e t l h => by simp at h)).2; rw [← hmk] at this; exact this)
    refine Nxt.ret h1 M (noSub S hts) ?_ X
    rw [h3 js (Pre.refl _)]
    refine DV.ren_h tr r ?_ hrv
    cases hf : fr with
    | true => exact DV.okf_true r
    | false => have := (QT.mk_okf s.Q y [] (hfree hf) (fun n e t l h => by simp at h)).1; rw [← hmk] at this; exact this
  · cases h
end
end Go.Vc

namespace Go.Vc
open Go Go.RowKit
theorem tysE_len : ∀ {l l' : List BK}, tysE l l' = true → l.length ≤ l'.length
  | [], _, _ => Nat.zero_le _
  | _ :: _, [], h => by simp [tysE] at h
  | _ :: l, _ :: l', h => by simp only [tysE, Bool.and_eq_true] at h; have := tysE_len h.2; simp; exact this
theorem bkM_all : ∀ (l : List BK) (r : DT) (z : (bkT l r).den) (rw : List DR) (k : Nat), k < l.length → live (bkM l r z rw).1 k
  | [], _, _, _, k, h => by simp at h
  | Bk :: l, r, z, rw, k, h => by
    cases k with
    | zero => exact ⟨_, rfl⟩
    | succ k => exact bkM_all l r _ _ k (by simpa using h)
section
variable {P : Program} {T : List TI} {V : World} {U0 L : Nat → Prop} {al : Nat → Bool} {B : Nat → Nat} {A : Asg} {ts : List DV} {pb : DBs} {rw : List DR} {a : Act} {w : World} {β : Type} {q : β} {o : Oper} {K : DK β} {Q : Exit → Act → World → Prop} {C : ESs} {av : List (Nat × Nat)}
theorem callE_ok {g : FuncId} {s : LS} {am : List (Nat × Nat)} {vw : List Nat} {xs0 xs : List DV} {vs : List Value} (fr : Bool) (hs : LSok P g s) (h : callE stdW s al am vw xs ts pb rw (fun r ts pb rw => retE o.dst r ts pb rw K) = some q) (m : Mem V U0 L B A pb rw w) (hts : hL (env U0 B A pb rw w) ts a.tmps.toList)
    (hxs : ∀ (bor : Nat → Prop), (fr = true → ∀ j, ¬ bor j) → (fr = false → ∀ j ∈ vw, bor j) → hL ⟨fun b => Us U0 B A pb rw b ∧ ¬ ∃ j, bor j ∧ blk B A [] rw true j b, w, B, A, pb, rw⟩ xs vs) (hfree : fr = false → s.Q.free = true ∧ bkFree s.E = true)
    (hrun : (execOp a.eval o).run P w = (callFunc g vs.toArray).run P w) : o.wp P a w (Nxt V U0 L al B A pb rw w a K q) Q := by
  unfold callE at h
  split at h
  · rename_i z ms hck hX
    simp only [Bool.and_eq_true] at hck
    obtain ⟨⟨⟨hnd, hall⟩, hty⟩, hkl⟩ := hck
    split at h
    · rename_i hdis
      simp only [subLE_eq, subBE_eq] at h
      obtain ⟨y, hy, h⟩ := call_s h
      -- what is borrowed
      let bor : Nat → Prop := fun j => fr = false ∧ ∀ n : Nat, ms.rs[n]? ≠ some (some j)
      have hb1 : fr = true → ∀ j, ¬ bor j := fun hf j ⟨h, _⟩ => by rw [hf] at h; cases h
      have hb2 : fr = false → ∀ j ∈ vw, bor j := fun hf j hj => ⟨hf, fun n hn => disN_s hdis j hj (someN_iff.2 ⟨n, hn⟩)⟩
      have hxs := hxs bor hb1 hb2
      let E : Env := ⟨fun b => Us U0 B A pb rw b ∧ ¬ ∃ j, bor j ∧ blk B A [] rw true j b, w, B, A, pb, rw⟩
      have hlE : Later (Us U0 B A pb rw) E.U w w := ⟨fun _ _ _ => rfl, Nat.le_refl _, fun b _ hu => hu.1⟩
      have hsE : Sub noF (env U0 B A pb rw w) E := ⟨hlE, fun i h => ⟨h, rfl⟩, fun j e t l _ h => ⟨l, h, rfl, rfl⟩, fun j d _ h => ⟨⟨d, h, rfl⟩, rfl⟩, fun j p e t l h => (by cases h), fun j p d ad h => (by cases h)⟩
      obtain ⟨z0, m1, rw1, g1, g2, g3, ⟨a1, g4⟩, ⟨b1, g5⟩, g6, g7, g8⟩ := bkX_s (am := am) (E := E) s.B 0 (pkT s.P .unit) ⟨[], rw⟩ _ [] z ms hX (MI.nil E)
      obtain ⟨u0, m2, rw2, k1, k2, k3, ⟨a2, k4⟩, ⟨b2, k5⟩, k6⟩ := pkX_s (am := am) (E := E) s.P .unit xs m1 _ rw1 z0 ms g1 g3
      simp only [Option.some.injEq, Prod.mk.injEq] at k1
      obtain ⟨_, rfl⟩ := k1
      -- names for what the function is handed
      have e1 : bkM s.B (pkT s.P .unit) z [] = ((bkM s.B (pkT s.P .unit) z []).1, z0, rw1) := by rw [← g2]
      have e2 : pkM s.P .unit z0 rw1 = ((pkM s.P .unit z0 rw1).1, u0, rw2) := by rw [← k2]
      generalize hpb0 : (bkM s.B (pkT s.P .unit) z []).1 = pb0 at e1 g6 g7 g8
      generalize hargs0 : (pkM s.P .unit z0 rw1).1 = args0 at e2 k6
      have hctr := hs z y hy
      rw [e1] at hctr
      simp only [e2] at hctr
      have hr := k3.row
      have hlive : ∀ k, k < s.B.length → ∃ i, lkA am k = some i ∧ live pb i := fun k hk => by
        obtain ⟨b0, hb0⟩ := g8 k hk
        obtain ⟨i, b, h1, h2, _⟩ := g7 k b0 hb0
        exact ⟨i, by simpa using h1, b, h2⟩
      have hpl0 : ∀ k, live pb0 k → k < s.B.length := fun k ⟨b, hb⟩ => by rw [← g6]; exact (List.getElem?_eq_some_iff.1 hb).1
      let σ0 : Nat → Option Nat := fun k => match Nat.blt k s.B.length with | true => lkA am k | false => none
      have σ0s : ∀ k i, σ0 k = some i → k < s.B.length ∧ lkA am k = some i := fun k i h => by
        simp only [σ0] at h
        split at h
        · rename_i hb; exact ⟨Nat.le_of_ble_eq_true hb, h⟩
        · cases h
      have σ0e : ∀ k, k < s.B.length → σ0 k = lkA am k := fun k hk => by
        simp only [σ0]
        rw [show Nat.blt k s.B.length = true from Nat.ble_eq_true_of_le hk]
      have tri : TrI am m2.rs E (env (lU (Us U0 B A pb rw) B A rw (Ow (lB B σ0) (lA A m2.rs) pb0 rw2) bor) (lB B σ0) (lA A m2.rs) pb0 rw2 w) := by
        refine ⟨⟨fun _ _ _ => rfl, Nat.le_refl _, fun b _ hu => ?_⟩, fun k i hk hl => ?_, fun n j e t l hn hj => ?_, fun n hn => ?_⟩
        · rcases hu with hu | ⟨k, i, hu⟩
          · exact ⟨hu.1, hu.2.2⟩
          · cases k with
            | true =>
              obtain ⟨r, ad, h1, h2, h3, h4⟩ := hu
              rcases hr i r h1 with ⟨j, e, t, l, c1, c2, c3⟩ | ⟨c1, _⟩
              · have hbl : blk B A pb rw true j b := ⟨r, ad, c2, h2, by simpa only [lA, c1] using h3, h4⟩
                refine ⟨.inr ⟨_, _, hbl⟩, ?_⟩
                rintro ⟨j', hj', hb'⟩
                have := (m.inj _ _ _ _ _ hbl (show blk B A pb rw true j' b from hb')).2
                subst this
                exact hj'.2 i c1
              · simp only [lA, c1] at h3; cases h3
            | false =>
              obtain ⟨⟨b0, h1⟩, h2⟩ := hu
              have hk := hpl0 i ⟨b0, h1⟩
              obtain ⟨i', b', c1, c2, _⟩ := g7 i b0 h1
              rw [Nat.zero_add] at c1
              have hbl : blk B A pb rw false i' b := ⟨⟨b', c2⟩, by simpa only [lB, σ0e i hk, c1, Option.getD_some] using h2⟩
              refine ⟨.inr ⟨_, _, hbl⟩, ?_⟩
              rintro ⟨j', hj', hb'⟩
              have := (m.inj _ _ _ _ _ hbl (show blk B A pb rw true j' b from hb')).1
              cases this
        · have hkB := keysLt_s hkl hk
          obtain ⟨b0, hb0⟩ := g8 k hkB
          refine ⟨⟨b0, hb0⟩, ?_⟩
          show lB B σ0 k = B i
          simp only [lB, σ0e k hkB, hk, Option.getD_some]
        · obtain ⟨n', hn'⟩ : ∃ r, rw2[n]? = some r := ⟨_, List.getElem?_eq_getElem (by rw [← k3.len]; exact (List.getElem?_eq_some_iff.1 hn).1)⟩
          rcases hr n n' hn' with ⟨j', e', t', l', c1, c2, c3⟩ | ⟨c1, _⟩
          · rw [hn] at c1; simp only [Option.some.injEq] at c1; subst c1
            have hj : E.rw[j]? = some (.own e t l) := hj
            rw [hj] at c2; simp only [Option.some.injEq] at c2
            refine ⟨by rw [c2]; exact hn', ?_⟩
            show lA A m2.rs n = A j
            simp only [lA, hn]
          · rw [hn] at c1; cases c1
        · obtain ⟨n', hn'⟩ : ∃ r, rw2[n]? = some r := ⟨_, List.getElem?_eq_getElem (by rw [← k3.len]; exact (List.getElem?_eq_some_iff.1 hn).1)⟩
          rcases hr n n' hn' with ⟨j', e', t', l', c1, c2, c3⟩ | ⟨_, e, t, c1⟩
          · rw [hn] at c1; cases c1
          · refine ⟨⟨e, t, by rw [← c1]; exact hn'⟩, ?_⟩
            show lA A m2.rs n = (none, 0)
            simp only [lA, hn]
      have hbw : ∀ (k : Nat) (b0 : DB), pb0[k]? = some (some b0) → ∃ i b, σ0 k = some i ∧ pb[i]? = some (some b) ∧ b0.ty = b.ty ∧ b0.w = true := fun k b0 h => by
        obtain ⟨i, b, h1, h2, h3, h4, _⟩ := g7 k b0 h
        rw [Nat.zero_add] at h1
        exact ⟨i, b, by rw [σ0e k (hpl0 k ⟨b0, h⟩)]; exact h1, h2, h3, h4⟩
      obtain ⟨m0, hU, hr1, hbl1⟩ := m.lend (σ := σ0) (rs := m2.rs) (bor := bor) (pb0 := pb0) (rw0 := rw2) hbw
        (fun k b0 i b h1 h2 h3 us hu => by
          obtain ⟨i', b', c1, c2, _, _, c5⟩ := g7 k b0 h1
          rw [Nat.zero_add] at c1
          rw [(σ0s k i h2).2] at c1; simp only [Option.some.injEq] at c1; subst c1
          have c2 : pb[i]? = some (some b') := c2
          rw [h3] at c2; simp only [Option.some.injEq] at c2; subst c2
          exact c5 _ ⟨a2, k4⟩ tri us (noSub hsE hu))
        (fun k k' i h h' => lkA_inj hnd (σ0s k i h).2 (σ0s k' i h').2) (fun n r h => hr n r h) k3.inj
      refine call_wp hrun (hctr _ _ _ vs w m0 (k6 _ vs ⟨[], by simp⟩ tri hxs)) ?_
      rintro v w' ⟨B1, A1, r, pb1, rw1', m1', hrv, hlv, hpb1, hmk⟩
      have hm := hty
      have hEl := tysE_len hty
      let σ := sigA am s.B.length (subB' (someD (someN m2.rs)) pb).length
      have hσlt : ∀ k i, k < s.B.length → lkA am k = some i → i < pb.length := fun k i hk hi => by
        obtain ⟨i', h1, ⟨b, hb⟩⟩ := hlive k hk
        rw [hi] at h1; simp only [Option.some.injEq] at h1; subst h1
        exact (List.getElem?_eq_some_iff.1 hb).1
      have σlo : ∀ k, k < s.B.length → σ k = lkA am k := fun k hk => by
        simp only [σ, sigA]; rw [show Nat.blt k s.B.length = true from Nat.ble_eq_true_of_le hk]
      have σhi : ∀ k, s.B.length ≤ k → σ k = some (pb.length + (k - s.B.length)) := fun k hk => by
        simp only [σ, sigA]
        rw [show Nat.blt k s.B.length = false from by
          cases hb : Nat.blt k s.B.length with
          | false => rfl
          | true => have := Nat.le_of_ble_eq_true hb; omega]
        simp only [subB'_len]
      have hσ : ∀ (k k' i : Nat), σ k = some i → σ k' = some i → k = k' := fun k k' i h h' => by
        rcases Nat.lt_or_ge k s.B.length with hk | hk
        · rw [σlo k hk] at h
          have h3 := hσlt k i hk h
          rcases Nat.lt_or_ge k' s.B.length with hk' | hk'
          · rw [σlo k' hk'] at h'; exact lkA_inj hnd h h'
          · rw [σhi k' hk'] at h'; simp only [Option.some.injEq] at h'; omega
        · rw [σhi k hk] at h; simp only [Option.some.injEq] at h
          rcases Nat.lt_or_ge k' s.B.length with hk' | hk'
          · rw [σlo k' hk'] at h'; have := hσlt k' i hk' h'; omega
          · rw [σhi k' hk'] at h'; simp only [Option.some.injEq] at h'; omega
      have ro0 : RO m2.rw [] m2.rs m2.rw [] := ⟨rfl, fun n j r h => (by simp at h), fun n n' j h => (by simp at h), fun a j h => ⟨k3.gone a j h, k3.gone a j h, fun n h => (by simp at h)⟩, fun a b j h h' => k3.inj a b j h h', fun _ _ => rfl, fun n j h => (by simp at h), fun n r h => (by simp at h)⟩
      obtain ⟨ρ1, pbF, rwF1, js1, f1, f2, f3, f4, f5, f6, f7, f8⟩ := bkO_s (σ := σ) (base := m2.rw) hσ s.E 0 .unit y.2 m2.rs _ m2.rw _ [] [] h ro0 (fun k i hk hi => by rw [subB'_len]; exact hσlt k i hk (by rw [← σlo k hk]; exact hi)) (fun k hk _ => by rw [σhi k hk, subB'_len, Nat.zero_max])
      obtain ⟨d, ρ2, rwF, js, q1, q2, q3, q4⟩ := QT.o_s s.Q y.1 ρ1 rwF1 _ _ js1 f1 f2
      rw [← hmk] at q2 q4
      have hokE : fr = false → (∀ (k : Nat) b, (bkM s.E .unit y.2 []).1[k]? = some (some b) → okfL false b.cells = true) ∧ rwFree (bkM s.E .unit y.2 []).2.2 := fun hf => bkM_okf s.E .unit y.2 [] (hfree hf).2 (fun n e t l h => (by simp at h))
      have hokQ : fr = false → (s.Q.mk y.1 (bkM s.E .unit y.2 []).2.2).1.okf false = true ∧ rwFree (s.Q.mk y.1 (bkM s.E .unit y.2 []).2.2).2 := fun hf => QT.mk_okf s.Q y.1 _ (hfree hf).1 (hokE hf).2
      have pbl : ∀ i, live (subB' (someD (someN m2.rs)) pb) i ↔ live pb i := fun i => subB'_live
      have ltl : ∀ {pb : DBs} {i : Nat}, live pb i → i < pb.length := fun ⟨b, hb⟩ => (List.getElem?_eq_some_iff.1 hb).1
      obtain ⟨M, S, X, tr⟩ := Mem.back (al := al) (σ := σ) (pbF := pbF) (base := m2.rw) (someD (someN m2.rs)) fr m hr1 hbl1 (fun k i h => allN_s hall (σ0s k i h).2) m1' hlv hσ (fun k i _ h => by rw [σlo k (σ0s k i h).1]; exact (σ0s k i h).2)
        (fun k i h => g8 k (σ0s k i h).1)
        (fun k i hl hk => by
          rcases Nat.lt_or_ge k s.B.length with hk' | hk'
          · exact .inl (by rw [σ0e k hk', ← σlo k hk']; exact hk)
          · refine .inr fun hl' => ?_
            rw [σhi k hk'] at hk; simp only [Option.some.injEq] at hk
            have := ltl hl'; omega)
        (fun i b' hi => by
          have hcase : (∃ k b1, σ k = some i ∧ pb1[k]? = some (some b1)) ∨ ¬ ∃ k b1, σ k = some i ∧ pb1[k]? = some (some b1) := Classical.em _
          rcases hcase with ⟨k, b1, c1, c2⟩ | hno
          · rw [hpb1] at c2
            have := f5 k b1 i c2 (by rw [Nat.zero_add]; exact c1) js q3
            rw [hi] at this; simp only [Option.some.injEq] at this; subst this
            exact .inl ⟨k, b1, c1, by rw [hpb1]; exact c2, rfl, rfl, rfl⟩
          · have hno' : ∀ k, σ k = some i → ¬ live pb1 k := fun k hk ⟨b1, hb1⟩ => hno ⟨k, b1, hk, hb1⟩
            have hBno : ∀ k, k < s.B.length → σ k ≠ some i := fun k hk hki => by
              refine hno' k hki ?_
              rw [hpb1]
              exact bkM_all s.E .unit y.2 [] k (by omega)
            refine .inr ⟨hno', fun k hk => hBno k (σ0s k i hk).1 (by rw [σlo k (σ0s k i hk).1]; exact (σ0s k i hk).2), ?_⟩
            have hil := (List.getElem?_eq_some_iff.1 hi).1
            rcases f6 i hil with h' | ⟨k, c1, c2, c3⟩
            · rw [f4 i h' fun k _ hk => hBno k hk] at hi
              exact subB'_get.1 hi
            · rw [Nat.zero_add] at c3
              exact absurd (by rw [hpb1]; exact bkM_all s.E .unit y.2 [] k c1) (hno' k c3))
        (fun i hl => f7 i (by rw [subB'_len]; exact ltl hl) ((pbl i).2 hl))
        (fun k i hk hl => by
          obtain ⟨b1, hb1⟩ := hl
          rw [hpb1] at hb1
          exact ⟨_, f5 k b1 i hb1 (by rw [Nat.zero_add]; exact hk) js q3⟩)
        q2 (fun j hn => k3.left j hn) (fun n j hn => k3.gone n j hn)
        (fun j hj n hn => (someD_s.1.1 hj) (someN_iff.2 ⟨n, hn⟩)) (fun j p hp => someD_s.2 p hp) hb1
        (fun k b hb => by
          cases hf : fr with
          | true => exact okfL_true _
          | false => rw [hpb1] at hb; exact (hokE hf).1 k b hb)
        (fun hf => by have := (hokQ hf).2; rw [← hmk] at this; exact this)
      refine Nxt.ret q1 M (hL_subL S _ hts) ?_ X
      rw [q4 js (Pre.refl _)]
      refine DV.ren_h tr r ?_ hrv
      cases hf : fr with
      | true => exact DV.okf_true r
      | false => have := (hokQ hf).1; rw [← hmk] at this; exact this
    · cases h
  · cases h
end
end Go.Vc

namespace Go.Vc
open Go Go.RowKit
mutual
theorem PK.view_ex (rw : List DR) : (p : PK) → (u : DV) → ∃ u', ∀ {β : Type} (K : DV → Option β), p.view rw u K = K u'
  | .v t, u => ⟨u.sub (viewD rw), fun K => by simp only [PK.view, DV.subE_eq]⟩
  | .row e t, u => ⟨u, fun K => by cases u <;> rfl⟩
  | .ptr k, u => ⟨u, fun K => by cases u <;> rfl⟩
  | .fn g l, u => by
    cases u with
    | fn g' cs => obtain ⟨us, h⟩ := viewL_ex rw l cs; exact ⟨.fn g' us, fun K => by simp only [PK.view]; rw [h]⟩
    | _ => exact ⟨_, fun K => rfl⟩
  | .agg l, u => by
    cases u with
    | agg cs => obtain ⟨us, h⟩ := viewL_ex rw l cs; exact ⟨.agg us, fun K => by simp only [PK.view]; rw [h]⟩
    | _ => exact ⟨_, fun K => rfl⟩
theorem viewL_ex (rw : List DR) : (l : List PK) → (us : List DV) → ∃ us', ∀ {β : Type} (K : List DV → Option β), viewL rw l us K = K us'
  | [], us => ⟨us, fun K => rfl⟩
  | _ :: _, [] => ⟨[], fun K => rfl⟩
  | p :: l, u :: us => by
    obtain ⟨u', h1⟩ := PK.view_ex rw p u
    obtain ⟨us', h2⟩ := viewL_ex rw l us
    exact ⟨u' :: us', fun K => by simp only [viewL]; rw [h1, h2]⟩
end
section
variable {P : Program} {T : List TI} {V : World} {U0 L : Nat → Prop} {al : Nat → Bool} {B : Nat → Nat} {A : Asg} {ts : List DV} {pb : DBs} {rw : List DR} {a : Act} {w : World} {β : Type} {q : β} {o : Oper} {K : DK β} {Q : Exit → Act → World → Prop} {C : ESs} {av : List (Nat × Nat)}
def OD.obj? : OD → Option (List KU)
  | .set ks => some ks
  | _ => none
/-- rows of one's own, read as they stand -/
theorem Mem.viewE (m : Mem V U0 L B A pb rw w) {U' : Nat → Prop} {h : Nat → Prop} (hU : ∀ b, U' b → Us U0 B A pb rw b) (hn : ∀ j, ¬ h j → ∀ b, U' b → ¬ blk B A pb rw true j b) (f : Nat → Option DV) (hf : ∀ j, (h j ∧ f j = (viewD rw j).map fun _ => .junk) ∨ (¬ h j ∧ f j = viewD rw j)) :
    Sub f (env U0 B A pb rw w) ⟨U', w, B, A, pb, rw⟩ := by
  have hnone : ∀ j, f j = none → viewD rw j = none := fun j hj => by
    rcases hf j with ⟨_, h⟩ | ⟨_, h⟩
    · rw [hj] at h; simpa using h.symm
    · rw [← h]; exact hj
  refine ⟨⟨fun _ _ _ => rfl, Nat.le_refl _, fun b _ h => hU b h⟩, fun i h => ⟨h, rfl⟩, fun j e t l hj hr => ?_, fun j d _ h => ⟨⟨d, h, rfl⟩, rfl⟩, fun j p e t l hj hr => ?_, fun j p d ad hj hr ha => ?_⟩
  · have := hnone j hj
    have hr : rw[j]? = some (.own e t l) := hr
    rw [viewD_n hr] at this; cases this
  · have hr : rw[j]? = some (.own e t l) := hr
    rcases hf j with ⟨_, h⟩ | ⟨h0, h⟩
    · rw [hj, viewD_n hr] at h; simp only [Option.map_some, Option.some.injEq] at h; subst h; simp only [DV.h]
    · rw [hj, viewD_n hr] at h; simp only [Option.some.injEq] at h; subst h
      simp only [DV.h]
      exact m.viewRow hr hU (hn j h0)
  · have hr : rw[j]? = some (.obj d) := hr
    have hv : viewD rw j = match (OD.obj? d) with | some ks => some (.set ks) | none => none := by
      unfold viewD; rw [drV_spec, hr]; cases d <;> rfl
    cases d with
    | set ks =>
      rcases hf j with ⟨_, h⟩ | ⟨h0, h⟩
      · rw [hj, hv] at h; simp only [OD.obj?, Option.map_some, Option.some.injEq] at h; subst h; simp only [DV.h]
      · rw [hj, hv] at h; simp only [OD.obj?, Option.some.injEq] at h; subst h
        simp only [DV.h]
        exact m.viewSet hr ha (hn j h0)
    | _ => rcases hf j with ⟨_, h⟩ | ⟨h0, h⟩ <;> (rw [hj, hv] at h; simp [OD.obj?] at h)
theorem callM_ok {g : FuncId} {s : MU} {xs : List DV} {vs : List Value} (hs : MUok P g s) (h : callM stdW s xs ts pb rw (fun r ts pb rw => retE o.dst r ts pb rw K) = some q) (m : Mem V U0 L B A pb rw w) (hts : hL (env U0 B A pb rw w) ts a.tmps.toList) (hxs : hL (env U0 B A pb rw w) xs vs)
    (hrun : (execOp a.eval o).run P w = (callFunc g vs.toArray).run P w) : o.wp P a w (Nxt V U0 L al B A pb rw w a K q) Q := by
  unfold callM at h
  split at h
  · rename_i j ys
    split at h
    · rename_i e t l hj
      rw [drV_spec] at hj
      split at h
      · rename_i hh z ms hck hsame hX
        split at h
        · rename_i hrs
          subst hh
          obtain ⟨l', hl', h⟩ := call_s h
          rw [setE_eq] at h
          simp only [Bool.and_eq_true] at hck
          obtain ⟨hck, hfree⟩ := hck
          have he := Nat.eq_of_beq_eq_true hck
          subst he
          have hl' : s.fn l z = some l' := hl'
          obtain ⟨hlen, hc⟩ := hs l z l' hl'
          simp only [hL, DV.h] at hxs
          obtain ⟨v0, vs', rfl, ⟨e1, t1, l1, hj1, rfl⟩, hys⟩ := hxs
          have hj1 : rw[j]? = some (.own e1 t1 l1) := hj1
          rw [hj] at hj1; simp only [Option.some.injEq, DR.own.injEq] at hj1
          obtain ⟨rfl, rfl, hl1⟩ := hj1
          cases hl1
          obtain ⟨m0, hU, hr1, _⟩ := m.lend (σ := fun _ => none) (rs := [some j]) (bor := fun _ => False) (pb0 := []) (rw0 := [.own s.e s.t l]) (by simp) (by simp) (by simp)
            (fun n r hr => by
              cases n with
              | zero => simp at hr; subst hr; exact .inl ⟨j, _, _, _, rfl, hj, rfl⟩
              | succ n => simp at hr)
            (fun n n' k h1 h2 => by
              cases n with
              | zero => cases n' with
                | zero => rfl
                | succ n' => simp at h2
              | succ n => simp at h1)
          obtain ⟨z0, m1, rw1, k1, _, _, _, _, k6⟩ := pkX_s (am := []) (E := env U0 B A pb rw w) s.P .unit ys ⟨[], rw⟩ _ [] z ms hX (MI.nil (env U0 B A pb rw w))
          have hA0 : lA A [some j] 0 = A j := rfl
          have hLb : ∀ b, Ow (lB B fun _ => none) (lA A [some j]) [] [.own s.e s.t l] b → blk B A pb rw true j b := by
            rintro b ⟨k, i, hb⟩
            cases k with
            | false => obtain ⟨⟨_, hb⟩, _⟩ := hb; simp at hb
            | true =>
              obtain ⟨j', h1, h2⟩ := hr1 i b hb
              cases i with
              | zero => simp at h1; subst h1; exact h2
              | succ i => simp at h1
          refine call_wp hrun (hc _ _ _ _ w m0 ?_) ?_
          · simp only [hL, DV.h]
            refine ⟨_, _, rfl, ⟨_, _, _, rfl, by show _ = Value.slice (lA A [some j] 0).1 _ (lA A [some j] 0).2; rw [hA0]; rfl⟩, k6 _ _ ?_ ?_ hys⟩
            · simp only [Option.some.injEq, Prod.mk.injEq] at k1
              exact ⟨[], by rw [k1.2, List.append_nil]⟩
            · refine ⟨⟨fun _ _ _ => rfl, Nat.le_refl _, fun b _ hu => hU b hu⟩, fun k i hk => (by simp [lkA] at hk), fun n j' e t l hn => (by rw [hrs] at hn; simp at hn), fun n hn => (by rw [hrs] at hn; simp at hn)⟩
          · rintro v w' ⟨rfl, m'⟩
            have hlt := (List.getElem?_eq_some_iff.1 hj).1
            obtain ⟨m2, s2, e2⟩ := m.putRow (al := al) (j := j) (f := noF) (rw' := rw.set j (.own s.e s.t l')) (e := s.e) (t := s.t) (l := l') (a := (A j).1) (c := (A j).2) (w' := w')
              (by rw [List.getElem?_set, if_pos rfl, if_pos hlt]) (fun k hk => by rw [List.getElem?_set, if_neg (Ne.symm hk)]) (fun _ _ h => by cases h)
              (fun _ e4 t4 l4 h4 => by
                rw [hj] at h4; simp only [Option.some.injEq, DR.own.injEq] at h4
                obtain ⟨rfl, rfl, h4⟩ := h4
                cases h4
                exact ⟨_, by rw [List.getElem?_set, if_pos rfl, if_pos hlt], hlen, rfl⟩)
              (fun _ d h4 => by rw [hj] at h4; cases h4) ⟨m'.os, m'.tape, m'.output, m'.size⟩
              (fun b hb hnb => m'.same b hb fun h => hnb (hLb b h))
              (fun x hx => .inl ⟨_, x, hj, by simp, hx, rfl⟩)
              (fun U' lt => by
                obtain ⟨xs, h1, h2⟩ := m'.row 0 s.e s.t l' rfl
                rw [hA0] at h1
                exact ⟨xs, h1, h2.1, fun i x hi => s.t.h_free hfree (h2.2 i x hi)⟩)
            rw [show upd A j ((A j).1, (A j).2) = A from upd_eta A j] at m2 s2 e2
            rw [subB'_no] at m2 s2 e2
            exact Nxt.ret h m2 (noSub s2 hts) (by simp only [DV.h, hL]; exact ⟨#[], rfl, rfl⟩) e2
        · cases h
      · cases h
    · cases h
  · cases h
theorem callV_ok {g : FuncId} {xs : List DV} {vs : List Value} (hC : CsOk P C) (h : callV stdW C al g xs ts pb rw (fun r ts pb rw => retE o.dst r ts pb rw K) = some q) (m : Mem V U0 L B A pb rw w) (hts : hL (env U0 B A pb rw w) ts a.tmps.toList) (hxs : hL (env U0 B A pb rw w) xs vs)
    (hrun : (execOp a.eval o).run P w = (callFunc g vs.toArray).run P w) : o.wp P a w (Nxt V U0 L al B A pb rw w a K q) Q := by
  unfold callV at h
  split at h
  · rename_i s hs
    exact callM_ok (esV_s hC hs : MUok P g s) h m hts hxs hrun
  · rename_i s hs
    have hs : ESok P g s := esV_s hC hs
    split at h
    · rename_i hfree
      rw [subLE_eq] at h
      have sv := m.viewE (U' := lU (Us U0 B A pb rw) B A rw (fun _ => False) (fun _ => True)) (h := fun _ => False) (fun b h => h.1) (fun j _ b h hb => h.2.2 ⟨j, trivial, hb⟩) (viewD rw) (fun j => .inr ⟨id, rfl⟩)
      exact esF_ok false (fun _ => True) hs h m hts (hL_subL sv xs hxs) (fun h => by cases h) (fun _ => hfree) hrun
    · obtain ⟨ts1, pb1, rw1, ps, h, m1, hts1, hps, e1, _⟩ := frzE_s (al := al) _ h m hts hxs
      have s1 : Sub noF (env U0 B A pb1 rw1 w) ⟨lU (Us U0 B A pb1 rw1) B A rw1 (fun _ => False) (fun _ => False), w, B, A, pb1, rw1⟩ :=
        ⟨⟨fun _ _ _ => rfl, Nat.le_refl _, fun b _ h => h.1⟩, fun i h => ⟨h, rfl⟩, fun j e t l _ h => ⟨l, h, rfl, rfl⟩, fun j d _ h => ⟨⟨d, h, rfl⟩, rfl⟩, fun j p e t l h => (by cases h), fun j p d ad h => (by cases h)⟩
      have := esF_ok (al := al) (Q := Q) true (fun _ => False) hs h m1 hts1 (noSub s1 hps) (fun _ j h => h) (fun h => by cases h) hrun
      exact wp_mono0 this fun a' w' hn => Nxt.more e1 rfl hn
  · rename_i s hs
    have hs : LSok P g s := esV_s hC hs
    dsimp only at h
    split at h
    · rename_i hfree
      simp only [Bool.and_eq_true] at hfree
      obtain ⟨ts1, pb1, rw1, xs1, h, m1, hts1, hxs1, e1, _⟩ := frzE_s (al := al) _ h m hts hxs
      obtain ⟨ys, hys⟩ := viewL_ex rw1 s.P xs1
      rw [hys] at h
      have := callE_ok (xs0 := []) (al := al) (Q := Q) false hs h m1 hts1 (fun bor _ hb => by
        classical
        let f : Nat → Option DV := fun j => if bor j then viewD rw1 j else (viewD rw1 j).map fun _ => .junk
        have sv := m1.viewE (U' := fun b => Us U0 B A pb1 rw1 b ∧ ¬ ∃ j, bor j ∧ blk B A [] rw1 true j b) (h := fun j => ¬ bor j) (fun b h => h.1) (fun j hj b h hbl => h.2 ⟨j, Classical.not_not.1 hj, hbl⟩) f (fun j => by
          by_cases hbj : bor j
          · exact .inr ⟨Classical.not_not.2 hbj, if_pos hbj⟩
          · exact .inl ⟨hbj, if_neg hbj⟩)
        have s0 : Sub noF (env U0 B A pb1 rw1 w) ⟨fun b => Us U0 B A pb1 rw1 b ∧ ¬ ∃ j, bor j ∧ blk B A [] rw1 true j b, w, B, A, pb1, rw1⟩ :=
          ⟨⟨fun _ _ _ => rfl, Nat.le_refl _, fun b _ h => h.1⟩, fun i h => ⟨h, rfl⟩, fun j e t l _ h => ⟨l, h, rfl, rfl⟩, fun j d _ h => ⟨⟨d, h, rfl⟩, rfl⟩, fun j p e t l h => (by cases h), fun j p d ad h => (by cases h)⟩
        obtain ⟨⟨us, h1, h2⟩, _⟩ := viewL_s (q := ys) sv s0 (fun j => by
          show (if bor j then viewD rw1 j else (viewD rw1 j).map fun _ => DV.junk).isSome = _
          split
          · rfl
          · simp) s.P xs1 [] (fun l => some l) (fun j hj => if_pos (hb rfl j hj)) (hys some)
        simp only [Option.some.injEq] at h1; subst h1
        exact h2 vs hxs1) (fun _ => hfree) hrun
      exact wp_mono0 this fun a' w' hn => Nxt.more e1 rfl hn
    · obtain ⟨ts1, pb1, rw1, xs1, h, m1, hts1, hxs1, e1, _⟩ := frzE_s (al := al) _ h m hts hxs
      have := callE_ok (xs0 := []) (al := al) (Q := Q) true hs h m1 hts1 (fun bor hb _ => by
        have s1 : Sub noF (env U0 B A pb1 rw1 w) ⟨fun b => Us U0 B A pb1 rw1 b ∧ ¬ ∃ j, bor j ∧ blk B A [] rw1 true j b, w, B, A, pb1, rw1⟩ :=
          ⟨⟨fun _ _ _ => rfl, Nat.le_refl _, fun b _ h => h.1⟩, fun i h => ⟨h, rfl⟩, fun j e t l _ h => ⟨l, h, rfl, rfl⟩, fun j d _ h => ⟨⟨d, h, rfl⟩, rfl⟩, fun j p e t l h => (by cases h), fun j p d ad h => (by cases h)⟩
        exact noSub s1 hxs1) (fun h => by cases h) hrun
      exact wp_mono0 this fun a' w' hn => Nxt.more e1 rfl hn
  · cases h
theorem op_call {c : Call} (hT : TableOk P T) (hC : CsOk P C) (ho : o.op = .call c) (h : evOp stdW T C al av o ts pb rw K = some q) (m : Mem V U0 L B A pb rw w) (hts : hL (env U0 B A pb rw w) ts a.tmps.toList) : o.wp P a w (Nxt V U0 L al B A pb rw w a K q) Q := by
  cases hcal : c.callee with
  | value f =>
    have h0 := h
    simp only [evOp, ho, hcal] at h
    split at h
    · rename_i g caps xs hf hx
      have hf := opV_h hf hts
      have hx := opsV_h hx hts
      simp only [DV.h] at hf
      obtain ⟨cv, hfv, hcv⟩ := hf
      split at h
      · rename_i hb
        refine callV_ok hC h m hts (hL_app hcv hx) ?_
        rw [call_first ho hcal (hfv.trans (fnV_t hb cv))]
        congr 2
        apply Array.ext'
        simp
      · rename_i hb
        refine callV_ok hC h m hts (hL_app hx hcv) ?_
        rw [call_resolve ho hcal (hfv.trans (fnV_f hb cv))]
        congr 2
        apply Array.ext'
        simp
    · cases h
  | invoke r s => simp only [evOp, ho, hcal] at h; cases h
  | builtin b =>
    have h0 := h
    simp only [evOp, ho, hcal] at h
    split at h
    · rename_i xs hops
      have hxs := opsV_h hops hts
      cases b with
      | append => exact op_append hT ho hcal hxs h0 hops m hts
      | clear => exact op_clear hT ho hcal hxs h0 hops m hts
      | _ => exact nxt_pure (pu_builtin hT ho hcal rfl hxs h) m hts Ext.refl
    · cases h
/-- AN OPERATION -/
theorem evOp_ok (hT : TableOk P T) (hC : CsOk P C) (h : evOp stdW T C al av o ts pb rw K = some q) (m : Mem V U0 L B A pb rw w) (hts : hL (env U0 B A pb rw w) ts a.tmps.toList) : o.wp P a w (Nxt V U0 L al B A pb rw w a K q) Q := by
  have h0 := h
  unfold evOp at h
  cases ho : o.op with
  | alloc t => exact op_alloc hT ho h0 m hts
  | box t x => exact op_box ho h0 m hts
  | load t x => exact op_load hT ho h0 m hts
  | store t x y => exact op_store hT ho h0 m hts
  | call c => exact op_call hT hC ho h0 m hts
  | buildSlice t l p => exact op_buildSlice hT ho h0 m hts
  | slice t x lo hi mx => exact op_slice hT ho h0 m hts
  | makeSlice t l c => exact op_makeSlice hT ho h0 m hts
  | index t x i => exact op_index hT ho h0 m hts
  | range t x => exact op_range hT ho h0 m hts
  | next x b => exact op_next ho h0 m hts
  | makeMap t r => exact op_makeMap hT ho h0 m hts
  | mapUpdate t x y z => exact op_mapUpdate hT ho h0 m hts
  | entry x => exact op_entry ho h0 m hts
  | lookup t x y c => exact op_lookup hT ho h0 m hts
  | convert s d x => exact op_convert hT ho h0 m hts
  | _ => rw [ho] at h; exact nxt_pure (purE_ok hT ho hts rfl m.rowsA h) m hts Ext.refl
end
end Go.Vc

namespace Go.Vc
open Go Go.RowKit
/-- slots that are not written -/
def SameOut (wr : List Nat) (a a' : Act) : Prop := a'.tmps.size = a.tmps.size ∧ ∀ i, i ∉ wr → a'.tmps[i]? = a.tmps[i]?
theorem SameOut.refl (wr : List Nat) (a : Act) : SameOut wr a a := ⟨rfl, fun _ _ => rfl⟩
theorem SameOut.trans {wr : List Nat} {a b c : Act} (h : SameOut wr a b) (k : SameOut wr b c) : SameOut wr a c := ⟨k.1.trans h.1, fun i hi => (k.2 i hi).trans (h.2 i hi)⟩
theorem SameOut.mono {wr wr' : List Nat} {a b : Act} (h : SameOut wr a b) (hs : ∀ i ∈ wr, i ∈ wr') : SameOut wr' a b := ⟨h.1, fun i hi => h.2 i fun hm => hi (hs i hm)⟩

theorem SameOut.put (a : Act) (o : Oper) (v : Value) : SameOut (dstL o) a (a.put o.dst v) := by
  unfold dstL
  cases o.dst with
  | none => exact SameOut.refl _ _
  | some d => exact ⟨by simp [Act.put], fun i hi => by simp only [List.mem_singleton] at hi; simp [Act.put, Array.getElem?_setIfInBounds_ne (Ne.symm hi)]⟩

/-- an operation writes its own slot alone -/
theorem wp_out {P : Program} {o : Oper} {a : Act} {w : World} {N : Act → World → Prop} {Q : Exit → Act → World → Prop} (hd : o.wp P a w N Q) : o.wp P a w (fun a' w' => N a' w' ∧ SameOut (dstL o) a a') Q := by
  unfold Oper.wp at *
  generalize (execOp a.eval o).run P w = r at *
  cases r with
  | ok n w' =>
    cases n <;> simp only [Oper.upon] at hd ⊢
    case value v => exact ⟨hd, SameOut.put a o v⟩
    case skip => exact ⟨hd, SameOut.put a o _⟩
    case defer d => exact ⟨hd, SameOut.put { a with defers := d :: a.defers } o undef⟩
    case enter f args =>
      refine hd.mono fun e w'' he => ?_
      cases e with
      | returned v => exact ⟨he, SameOut.put a o v⟩
      | panicked c => exact he
      | outgrown => exact he
    case row row args => exact Rows.mono hd fun v w'' he => ⟨he, SameOut.put a o v⟩
  | halt x w' =>
    cases x <;> simp only [Oper.upon] at hd ⊢
    case panic u => exact hd

theorem nthDst_eq (ops : List Oper) (j : Nat) : nthDst ops j = (ops[j]?).bind (·.dst) := by
  induction ops generalizing j with
  | nil => rfl
  | cons o ops ih => cases j <;> simp [nthDst, ih]
section
variable {P : Program} {T : List TI} {V : World} {U0 L : Nat → Prop} {al : Nat → Bool} {B : Nat → Nat} {A : Asg} {ts : List DV} {pb : DBs} {rw : List DR} {a : Act} {w : World} {β : Type} [EqB β] {q : β} {o : Oper} {K : DK β} {Q : Exit → Act → World → Prop} {C : ESs} {av : List (Nat × Nat)}
theorem evOpN_ok (hT : TableOk P T) (hC : CsOk P C) (h : evOpN stdW T C al av o ts pb rw K = some q) (m : Mem V U0 L B A pb rw w) (hts : hL (env U0 B A pb rw w) ts a.tmps.toList) : o.wp P a w (Nxt V U0 L al B A pb rw w a K q) Q := by
  unfold evOpN at h
  split at h
  · rename_i e neg hn
    unfold nilQ at hn
    split at hn
    · rename_i op t x y ty ho
      split at hn
      · rename_i d l ht hx hy
        split at hn
        · rename_i hd0
          obtain ⟨ti, hf, htd⟩ := tdV_f hT ht
          have hx := opV_h hx hts
          have hy := opV_h hy hts
          simp only [DV.h] at hx hy
          obtain ⟨aa, c, ev, _, _, hel⟩ := hx
          simp only [List.cons.injEq, and_true] at ev
          have key : ∀ neg, op = (if neg then BinOp.neq else BinOp.eql) → (stdW.nilq l.isEmpty fun g => retE o.dst (.bool (notIf neg g)) ts pb rw K) = some q → o.wp P a w (Nxt V U0 L al B A pb rw w a K q) Q := by
            intro neg hop h
            have hrun := run_eq_slc (P := P) neg x y aa l.length c w (td_slice hf htd)
            have hg : retE o.dst (.bool (notIf neg aa.isNone)) ts pb rw K = some q := by
              change nilF l.isEmpty (fun g => retE o.dst (.bool (notIf neg g)) ts pb rw K) = some q at h
              unfold nilF at h
              rcases bif_s h with ⟨_, h⟩ | ⟨he, h⟩
              · have := both_s h
                cases aa.isNone
                · exact this.2
                · exact this.1
              · have : aa.isNone = false := by
                  cases l with
                  | nil => simp at he
                  | cons z l =>
                    obtain ⟨us, h1, h2⟩ := hel 0 z rfl
                    have hd : 0 < d.size := Nat.le_of_ble_eq_true hd0
                    have hul := d.h_len h1
                    obtain ⟨ad, rfl, _⟩ := h2 0 _ (List.getElem?_eq_getElem (by omega))
                    rfl
                rw [this]; exact h
            refine wp_of_value (v := .bool (notIf neg aa.isNone)) ?_ (Nxt.ret hg m hts (by simp only [DV.h]) Ext.refl)
            simp only [execOp, ho, ev, hy, hop]
            rw [Sem.run_bind, hrun]; simp
          split at hn
          · simp only [Option.some.injEq, Prod.mk.injEq] at hn; obtain ⟨rfl, rfl⟩ := hn; exact key false rfl h
          · simp only [Option.some.injEq, Prod.mk.injEq] at hn; obtain ⟨rfl, rfl⟩ := hn; exact key true rfl h
          · cases hn
        · cases hn
      · cases hn
    · cases hn
  · split at h
    · rename_i j ks dn hp; exact op_pick hp h m hts
    · exact evOp_ok hT hC h m hts
theorem evOpT_ok {rest : List Oper} (hT : TableOk P T) (hC : CsOk P C) (h : evOpT stdW T C al av o rest ts pb rw K = some q) (m : Mem V U0 L B A pb rw w) (hts : hL (env U0 B A pb rw w) ts a.tmps.toList) : o.wp P a w (Nxt V U0 L al B A pb rw w a K q) Q := by
  unfold evOpT at h
  split at h
  · rename_i j i n htq
    unfold tailQ at htq
    split at htq
    · split at htq
      · rename_i t x lo ho
        split at htq
        · rename_i e jj k ii ht hx hlo
          split at htq
          · rename_i te e2 t' l hte hj
            rw [drV_spec] at hj
            split at htq
            · rename_i hsz
              simp only [Option.some.injEq, Prod.mk.injEq] at htq
              obtain ⟨rfl, rfl, rfl⟩ := htq
              have hsz := Nat.eq_of_beq_eq_true hsz
              obtain ⟨b1, b2, h⟩ := bnd_s h
              obtain ⟨ti, hf, htd⟩ := tdV_f hT ht
              have hun := td_slice hf htd
              have hfe := tiV_f hT hte
              have hx := opV_h hx hts
              have hlo := opV_h hlo hts
              simp only [DV.h] at hx hlo
              obtain ⟨e3, t3, l3, hj3, ev⟩ := hx
              have hj3' : rw[jj]? = some (.own e3 t3 l3) := hj3
              rw [hj] at hj3'; simp only [Option.some.injEq, DR.own.injEq] at hj3'
              obtain ⟨rfl, rfl, hl3⟩ := hj3'
              cases hl3
              change a.eval x = Value.slice (A jj).1 l.length (A jj).2 at ev
              refine wp_of_value (v := .slice (if (A jj).2 = ii.toNat then (A jj).1 else (A jj).1.map (·.add (ii.toNat * t'.size))) (l.length - ii.toNat) ((A jj).2 - ii.toNat)) ?_ (Nxt.ret h m hts ?_ Ext.refl)
              · have hr : (execOp a.eval o).run P w = ((Instr.sliceAt t (a.eval x) (some (a.eval lo)) none none).run P w).andThen fun v w' => .ok (.value v) w' := by
                  simp only [execOp, ho, Sem.run_bind, Sem.run_pure, Option.map_some, Option.map_none]
                rw [hr, ev, hlo]
                simp only [Instr.sliceAt, Instr.slice, Sem.run_bind, run_underlying hun, Result.andThen_ok, Instr.sliceBounds, Sem.run_pure, Option.isSome_none, Bool.false_eq_true, if_false, run_sliceBound w k ii _ .sliceB b1 b2, td_size hfe, hsz]
              · simp only [DV.h]
                exact ⟨_, _, _, hj3, by omega, rfl⟩
            · cases htq
          · cases htq
        · cases htq
      · cases htq
    · cases htq
  · exact evOpN_ok hT hC h m hts
omit [EqB β] in
theorem guardD_ok {ops : Array Oper} {E : Env} {j : Nat} {want : Bool} {yes no : List DV → Option β} (h : guardD stdW ops.toList ts j want yes no = some q) (hts : hL E ts a.tmps.toList) :
    ∃ ts', hL E ts' a.tmps.toList ∧ ((yielded ops a.tmps j = some want ∧ yes ts' = some q) ∨ (yielded ops a.tmps j ≠ some want ∧ no ts' = some q)) := by
  unfold guardD at h
  rw [nthDst_eq] at h
  have hy : ∀ d, (ops[j]?).bind (·.dst) = some d → yielded ops a.tmps j = match a.tmps[d]? with | some (.bool b) => some b | _ => none := by
    intro d hd; unfold yielded; rw [hd]; rfl
  split at h
  · cases h
  · rename_i d hd
    have hy := hy d (by simpa using hd)
    have get : ∀ (c : Bool), ((a.tmps.toList[d]?).getD undef) = .bool c → yielded ops a.tmps j = some c ∧ a.tmps.toList.set d (.bool c) = a.tmps.toList := by
      intro c hc
      cases hq : a.tmps[d]? with
      | none => simp only [Array.getElem?_toList, hq] at hc; simp [undef] at hc
      | some v =>
        simp only [Array.getElem?_toList, hq, Option.getD_some] at hc; subst hc
        refine ⟨by rw [hy, hq], ?_⟩
        apply List.ext_getElem?
        intro i
        rw [List.getElem?_set]
        split
        · rename_i hdi; subst hdi
          have := (Array.getElem?_eq_some_iff.1 hq).1
          simp [this]
          exact (Array.getElem?_eq_some_iff.1 hq).2.symm
        · rfl
    have keep : ∀ (c : Bool), ((a.tmps.toList[d]?).getD undef) = .bool c → hL E (ts.set d (.lit c)) a.tmps.toList := by
      intro c hc
      have := hL_set hts d (p := .lit c) (v := .bool c) (by simp only [DV.h])
      rwa [(get c hc).2] at this
    split at h
    · rename_i hg
      have hv := gtV_h hg hts
      simp only [DV.h] at hv
      have hg := (get true hv).1
      cases want
      · exact ⟨ts, hts, .inr ⟨by rw [hg]; simp, h⟩⟩
      · exact ⟨ts, hts, .inl ⟨hg, h⟩⟩
    · rename_i hg
      have hv := gtV_h hg hts
      simp only [DV.h] at hv
      have hg := (get false hv).1
      cases want
      · exact ⟨ts, hts, .inl ⟨hg, h⟩⟩
      · exact ⟨ts, hts, .inr ⟨by rw [hg]; simp, h⟩⟩
    · rename_i b hg
      have hv := gtV_h hg hts
      simp only [DV.h] at hv
      have hgb := (get b hv).1
      simp only [setE_eq] at h
      rcases cnd_s h with ⟨rfl, h⟩ | ⟨rfl, h⟩
      · cases want
        · exact ⟨_, keep true hv, .inr ⟨by rw [hgb]; simp, h⟩⟩
        · exact ⟨_, keep true hv, .inl ⟨hgb, h⟩⟩
      · cases want
        · exact ⟨_, keep false hv, .inl ⟨hgb, h⟩⟩
        · exact ⟨_, keep false hv, .inr ⟨by rw [hgb]; simp, h⟩⟩
    · rename_i hg
      have hv := gtV_h hg hts
      simp only [DV.h] at hv
      refine ⟨ts, hts, .inr ⟨?_, h⟩⟩
      rw [hy]
      cases hq : a.tmps[d]? with
      | none => simp
      | some v =>
        simp only [Array.getElem?_toList, hq, Option.getD_some] at hv; subst hv; simp [undef]
    · cases h
omit [EqB β] in
theorem Nxt.mono {K' : DK β} {a' : Act} {w' : World} {q' : β} (h : Nxt V U0 L al B A pb rw w a K q a' w') (k : ∀ B' A' ts' pb' rw', Mem V U0 L B' A' pb' rw' w' → hL (env U0 B' A' pb' rw' w') ts' a'.tmps.toList → K ts' pb' rw' = some q → K' ts' pb' rw' = some q') : Nxt V U0 L al B A pb rw w a K' q' a' w' :=
  let ⟨B', A', ts', pb', rw', m, h1, h2, h3, h4⟩ := h
  ⟨B', A', ts', pb', rw', m, h1, k B' A' ts' pb' rw' m h1 h2, h3, h4⟩
theorem evList_ok (hT : TableOk P T) (hC : CsOk P C) {ops : Array Oper} : ∀ (l : List Oper) {B : Nat → Nat} {A : Asg} {ts : List DV} {pb : DBs} {rw : List DR} {a : Act} {w : World}, evList stdW T C al av ops.toList l ts pb rw K = some q → Mem V U0 L B A pb rw w → hL (env U0 B A pb rw w) ts a.tmps.toList →
    (∀ a' w', Nxt V U0 L al B A pb rw w a K q a' w' → SameOut (dsts l) a a' → Q .normal a' w') → wpList P ops Q l a w
  | [], B, A, ts, pb, rw, a, w, h, m, hts, hQ => wpList_nil (hQ a w ⟨B, A, ts, pb, rw, m, hts, h, rfl, Ext.refl⟩ (SameOut.refl _ _))
  | o :: rest, B, A, ts, pb, rw, a, w, h, m, hts, hQ => by
    have go : ∀ {K1 : DK β}, (∀ ts pb rw, K1 ts pb rw = some q → evList stdW T C al av ops.toList rest ts pb rw K = some q) → o.wp P a w (Nxt V U0 L al B A pb rw w a K1 q) Q → o.wp P a w (wpList P ops Q rest) Q := by
      intro K1 hK1 h1
      refine Oper.wp_mono (fun a' w' hn => ?_) (wp_out h1)
      obtain ⟨⟨B', A', ts', pb', rw', m', h2, h3, h4, e⟩, hso⟩ := hn
      refine evList_ok hT hC rest (hK1 _ _ _ h3) m' h2 fun a'' w'' hn' hso' => hQ a'' w'' (Nxt.more e h4 hn') ?_
      exact (hso.mono (by intro i hi; simp [dsts, hi])).trans (hso'.mono (by intro i hi; simp [dsts, hi]))
    unfold evList at h
    split at h
    · rename_i hg
      unfold wpList
      rw [if_pos (by simp [Region.wanted, hg])]
      exact .inl (go (fun _ _ _ h => h) (evOpT_ok hT hC h m hts))
    · rename_i j want hg
      obtain ⟨ts', hr, hc⟩ := guardD_ok h hts
      unfold wpList
      have hw : Region.wanted o (yielded ops a.tmps) = (yielded ops a.tmps j == some want) := by simp [Region.wanted, hg]
      rcases hc with ⟨hy, hc⟩ | ⟨hy, hc⟩
      · rw [if_pos (by rw [hw, hy]; simp)]
        exact .inl (go (fun _ _ _ h => h) (evOpN_ok hT hC hc m hr))
      · rw [if_neg (by rw [hw]; simpa using hy)]
        obtain ⟨ts'', h1, h2, h3⟩ := retE_s hc hr (x := .und) (v := undef) (by simp only [DV.h])
        refine evList_ok hT hC rest h1 m h2 fun a'' w'' hn' hso' => hQ a'' w'' (Nxt.more Ext.refl h3 hn') ?_
        exact ((SameOut.put a o undef).mono (by intro i hi; simp [dsts, hi])).trans (hso'.mono (by intro i hi; simp [dsts, hi]))
end
end Go.Vc

namespace Go.Vc
open Go Go.RowKit
section
variable {P : Program} {T : List TI} {V : World} {U0 L : Nat → Prop} {al : Nat → Bool} {B : Nat → Nat} {A : Asg} {ts : List DV} {pb : DBs} {rw : List DR} {a : Act} {w : World} {β : Type} [EqB β] {q : β} {o : Oper} {K : DK β} {Q : Exit → Act → World → Prop} {C : ESs} {av : List (Nat × Nat)}
/-- where code leads to -/
def Nx (V : World) (U0 L : Nat → Prop) (B : Nat → Nat) (pb : DBs) (a : Act) (K : DK β) (q : β) : Act → World → Prop := fun a' w' =>
  ∃ B' A' ts' pb' rw', Mem V U0 L B' A' pb' rw' w' ∧ hL (env U0 B' A' pb' rw' w') ts' a'.tmps.toList ∧ K ts' pb' rw' = some q ∧ a'.defers = a.defers ∧ ∀ i, live pb i → live pb' i ∧ B' i = B i
omit [EqB β] in
theorem Nxt.nx {a' : Act} {w' : World} (h : Nxt V U0 L al B A pb rw w a K q a' w') : Nx V U0 L B pb a K q a' w' :=
  let ⟨B', A', ts', pb', rw', m, h1, h2, h3, h4⟩ := h
  ⟨B', A', ts', pb', rw', m, h1, h2, h3, h4.bx⟩
/-- boxes that are not yet made -/
theorem Mem.places (m : Mem V U0 L B A pb rw w) {pb' : DBs} (h : ∀ (i : Nat) (b : DB), pb'[i]? = some (some b) ↔ pb[i]? = some (some b)) : Mem V U0 L B A pb' rw w ∧ Sub noF (env U0 B A pb rw w) (env U0 B A pb' rw w) ∧ ∀ i, live pb' i ↔ live pb i := by
  have hl : ∀ i, live pb' i ↔ live pb i := fun i => ⟨fun ⟨b, hb⟩ => ⟨b, (h i b).1 hb⟩, fun ⟨b, hb⟩ => ⟨b, (h i b).2 hb⟩⟩
  have hb : ∀ k i b, blk B A pb' rw k i b → blk B A pb rw k i b := fun k i b hh => by
    cases k with
    | true => exact hh
    | false => exact ⟨(hl i).1 hh.1, hh.2⟩
  obtain ⟨m', s, _⟩ := m.step (al := fun _ => true) noF (w' := w) (B' := B) (A' := A) (pb' := pb') (rw' := rw) ⟨rfl, rfl, rfl, Nat.le_refl _⟩ (fun _ _ _ => rfl) (fun k i b hh => .inl (hb k i b hh)) (fun k i k' i' b h1 h2 => m.inj _ _ _ _ _ (hb _ _ _ h1) (hb _ _ _ h2))
    (fun i hh => ⟨(hl i).2 hh, rfl⟩) (fun j e t l _ hh => ⟨l, hh, rfl, rfl⟩) (fun j d _ h => ⟨⟨d, h, rfl⟩, rfl⟩) (fun _ j p e t l hh => (by cases hh)) (fun _ j p d ad hh => (by cases hh)) (fun _ i b' hh => .inl ⟨b', (h i b').1 hh, rfl, by rw [subL_no], id, rfl⟩) (fun _ j e t l hh => .inl ⟨hh, rfl, fun _ _ => rfl⟩) fun _ j d hh => .inl ⟨hh, rfl, fun _ _ => rfl⟩
  exact ⟨m', s, hl⟩
omit [EqB β] in
theorem placesE_s : ∀ (os : List Oper) (pb : DBs) (n : Nat) {K : List (Nat × Nat) → DBs → Option β}, placesE os pb n K = some q → ∃ av pb', K av pb' = some q ∧ ∃ l : DBs, pb' = pb ++ l ∧ ∀ x ∈ l, x = none
  | [], pb, n, K, h => ⟨[], pb, h, [], by simp, by simp⟩
  | o :: os, pb, n, K, h => by
    have push : ∀ (K' : List (Nat × Nat) → DBs → Option β), placesE os (pb ++ [none]) (n + 1) K' = some q → (∃ av pb', K' av pb' = some q ∧ ∃ l : DBs, pb' = pb ++ l ∧ ∀ x ∈ l, x = none) := fun K' h' => by
      obtain ⟨av, pb', h1, l, h2, h3⟩ := placesE_s os _ _ h'
      exact ⟨av, pb', h1, none :: l, by rw [h2]; simp, fun x hx => (List.mem_cons.1 hx).elim id (h3 x)⟩
    simp only [placesE] at h
    split at h
    · rw [pushE_eq] at h
      obtain ⟨av, pb', h1, h2⟩ := push _ h
      rw [litE_eq] at h1
      exact ⟨_, pb', h1, h2⟩
    · rw [pushE_eq] at h
      obtain ⟨av, pb', h1, h2⟩ := push _ h
      rw [litE_eq] at h1
      exact ⟨_, pb', h1, h2⟩
    · exact placesE_s os pb n h
theorem nthO_s : ∀ {ops : List Oper} {i : Nat}, nthO ops i = ops[i]?
  | [], i => by simp [nthO]
  | o :: os, 0 => rfl
  | o :: os, i + 1 => by simp only [nthO, List.getElem?_cons_succ]; exact nthO_s
theorem dstL_mem : ∀ {ops : List Oper} {i : Nat} {o : Oper}, ops[i]? = some o → ∀ d ∈ dstL o, d ∈ dsts ops
  | [], i, o, h => by simp at h
  | p :: ops, i, o, h => by
    intro d hd
    simp only [dsts, List.mem_append]
    cases i with
    | zero => simp at h; subst h; exact .inl hd
    | succ i => exact .inr (dstL_mem (by simpa using h) d hd)
end
section
variable {P : Program} {T : List TI} {V : World} {U0 L : Nat → Prop} {al : Nat → Bool} {β : Type} [EqB β] {q : β} {K : DK β} {C : ESs} {av : List (Nat × Nat)} {ops : Array Oper} {Ia : List Nat} {sn : Nat → Bool}
  {B0 : Nat → Nat} {A0 : Asg} {pb0 : DBs} {rw0 : List DR} {a0 : Act} {w0 : World}
def QD (V : World) (U0 L : Nat → Prop) (al : Nat → Bool) (B0 : Nat → Nat) (A0 : Asg) (pb0 : DBs) (rw0 : List DR) (w0 : World) (a0 : Act) (K : DK β) (q : β) (ops : Array Oper) : Exit → Act → World → Prop := fun e a' w' => match e with
  | .normal => Nxt V U0 L al B0 A0 pb0 rw0 w0 a0 K q a' w' ∧ SameOut (dsts ops.toList) a0 a'
  | _ => False
/-- what lies still as long as the region goes on -/
def SD (al : Nat → Bool) (B0 : Nat → Nat) (A0 : Asg) (pb0 : DBs) (rw0 : List DR) (w0 : World) : World → Prop := fun w' => ∀ b, b < w0.heap.size → ¬ Wr al B0 A0 pb0 rw0 b → w'.heap[b]? = w0.heap[b]?
structure At0 (al : Nat → Bool) (ops : Array Oper) (B0 : Nat → Nat) (A0 : Asg) (pb0 : DBs) (rw0 : List DR) (w0 : World) (a0 : Act) (ph : Bool) (B : Nat → Nat) (A : Asg) (pb : DBs) (rw : List DR) (w : World) (a : Act) : Prop where
  ext : Ext al B0 A0 pb0 rw0 w0 B A pb rw w
  out : SameOut (dsts ops.toList) a0 a
  df : a.defers = a0.defers
  ph0 : ph = false → B = B0 ∧ A = A0 ∧ pb = pb0 ∧ rw = rw0 ∧ w = w0
omit [EqB β] in
theorem rdE_ok (hT : TableOk P T) (hal : ∀ i, live pb0 i → memN i Ia = false → al i = false) (hsn : ∀ i, sn i = true → live pb0 i ∧ al i = false) {ph : Bool} {B : Nat → Nat} {A : Asg} {ts : List DV} {pb : DBs} {rw : List DR} {a : Act} {w : World} {o : Oper} {ret : DV → Option β}
    (h : rdE stdW T Ia sn ph o ts pb rw ret = some q) (m0 : Mem V U0 L B0 A0 pb0 rw0 w0) (m : Mem V U0 L B A pb rw w) (hts : hL (env U0 B A pb rw w) ts a.tmps.toList) (s : At0 al ops B0 A0 pb0 rw0 w0 a0 ph B A pb rw w a) :
    ∃ r v, ret r = some q ∧ r.h (env U0 B A pb rw w) v ∧ ∀ w', SD al B0 A0 pb0 rw0 w0 w' → (execOp a.eval o).run P w' = .ok (.value v) w' := by
  have still : ∀ b, b < w0.heap.size → ¬ Wr al B0 A0 pb0 rw0 b → ∀ w', SD al B0 A0 pb0 rw0 w0 w' → w'.heap[b]? = w.heap[b]? := fun b hb hn w' hs => by rw [hs b hb hn, s.ext.fr b hb hn]
  have own : ∀ i, live pb0 i → al i = false → B i < w0.heap.size ∧ ¬ Wr al B0 A0 pb0 rw0 (B i) := fun i hl ha => by
    have hb := (s.ext.bx i hl).2
    have hbl : blk B0 A0 pb0 rw0 false i (B i) := ⟨hl, hb.symm⟩
    refine ⟨(m0.low _ _ _ hbl).1, ?_⟩
    rintro (⟨i', h1, h2⟩ | ⟨j, h2⟩)
    · have := (m0.inj _ _ _ _ _ hbl h2).2; subst this; rw [ha] at h1; cases h1
    · have := (m0.inj _ _ _ _ _ hbl h2).1; cases this
  unfold rdE at h
  split at h
  · rename_i t x ho
    have fin : ∀ (p : DV), opV ts x = some p → loadE stdW T t p pb rw ret = some q → (∀ ad : Addr, a.eval x = .pointer (some ad) → ((∃ i off, p = .own i off ∧ blk B A pb rw false i ad.block) ∨ (∃ t x off, p = .el t x off ∧ ¬ Us U0 B A pb rw ad.block ∧ ad.block < w.heap.size) ∨ ∃ j i off, p = .re j i off) → ad.block < w0.heap.size ∧ ¬ Wr al B0 A0 pb0 rw0 ad.block) →
        ∃ r v, ret r = some q ∧ r.h (env U0 B A pb rw w) v ∧ ∀ w', SD al B0 A0 pb0 rw0 w0 w' → (execOp a.eval o).run P w' = .ok (.value v) w' := by
      intro p hp hl hbk
      obtain ⟨r, u, ad, hv, h1, h2, h3, h4⟩ := loadE_ok hT m hl (opV_h hp hts)
      obtain ⟨g1, g2⟩ := hbk ad hv h4
      exact ⟨r, u, h1, h2, fun w' hs => by rw [load_run ho, h3 w' (still _ g1 g2 w' hs)]; rfl⟩
    split at h
    · obtain ⟨p, hp, h⟩ := o1_s h
      split at h
      · rename_i haw
        obtain ⟨rfl, rfl, rfl, rfl, rfl⟩ := s.ph0 rfl
        refine fin p hp h fun ad hv hc => ?_
        rcases hc with ⟨i, off, rfl, hbl⟩ | ⟨t', x', off, rfl, hn, hlt⟩ | ⟨j, i, off, rfl⟩
        · have hi : memN i Ia = false := by
            simp only [awayV] at haw
            split at haw
            · assumption
            · cases haw
          have := own i hbl.1 (hal i hbl.1 hi)
          rw [hbl.2] at this; exact this
        · refine ⟨hlt, ?_⟩
          rintro (⟨i, _, hb⟩ | ⟨j, hb⟩)
          · exact hn (.inr ⟨_, i, hb⟩)
          · exact hn (.inr ⟨_, j, hb⟩)
        · simp [awayV] at haw
      · cases h
    · obtain ⟨p, hp, h⟩ := o1_s h
      split at h
      · rename_i hse
        refine fin p hp h fun ad hv hc => ?_
        rcases hc with ⟨i, off, rfl, hbl⟩ | ⟨t', x', off, rfl, hn, _⟩ | ⟨j, i, off, rfl⟩
        · obtain ⟨g1, g2⟩ := hsn i hse
          have := own i g1 g2
          rw [hbl.2] at this; exact this
        · simp [seenV] at hse
        · simp [seenV] at hse
      · cases h
  · obtain ⟨r, v, h1, h2, h3⟩ := purE_ok hT rfl hts rfl m.rowsA h
    exact ⟨r, v, h1, h2, fun w' _ => h3 w'⟩
theorem stepD_ok (hT : TableOk P T) (hC : CsOk P C) {i n : Nat} {ph : Bool} {Lk : Array Bool} {B : Nat → Nat} {A : Asg} {ts : List DV} {pb : DBs} {rw : List DR} {a : Act} {w : World} {o : Oper} {k : DK β} (hi : ops[i]? = some o)
    (h : stepD stdW T C al av ops.toList o ts pb rw k = some q) (m : Mem V U0 L B A pb rw w) (hts : hL (env U0 B A pb rw w) ts a.tmps.toList) (s : At0 al ops B0 A0 pb0 rw0 w0 a0 ph B A pb rw w a)
    (hk : ∀ B A ts pb rw a w, k ts pb rw = some q → Mem V U0 L B A pb rw w → hL (env U0 B A pb rw w) ts a.tmps.toList → At0 al ops B0 A0 pb0 rw0 w0 a0 true B A pb rw w a → wpAnyH P .any ops (QD V U0 L al B0 A0 pb0 rw0 w0 a0 K q ops) (SD al B0 A0 pb0 rw0 w0) n (Lk.setIfInBounds i true) a w) :
    wpOp P ops (QD V U0 L al B0 A0 pb0 rw0 w0 a0 K q ops) i (fun a' w' => SD al B0 A0 pb0 rw0 w0 w' ∧ wpAnyH P .any ops (QD V U0 L al B0 A0 pb0 rw0 w0 a0 K q ops) (SD al B0 A0 pb0 rw0 w0) n (Lk.setIfInBounds i true) a' w') a w := by
  have hmem := dstL_mem (ops := ops.toList) (i := i) (o := o) (by simpa using hi)
  have go : ∀ ts, hL (env U0 B A pb rw w) ts a.tmps.toList → Region.wanted o (yielded ops a.tmps) = true → evOpN stdW T C al av o ts pb rw k = some q →
      wpOp P ops (QD V U0 L al B0 A0 pb0 rw0 w0 a0 K q ops) i (fun a' w' => SD al B0 A0 pb0 rw0 w0 w' ∧ wpAnyH P .any ops (QD V U0 L al B0 A0 pb0 rw0 w0 a0 K q ops) (SD al B0 A0 pb0 rw0 w0) n (Lk.setIfInBounds i true) a' w') a w := by
    intro ts hts hwt h
    unfold Go.wpOp
    simp only [hi, hwt, if_true]
    refine .inl (Oper.wp_mono (fun a' w' hn => ?_) (wp_out (evOpN_ok (al := al) hT hC h m hts)))
    obtain ⟨⟨B', A', ts', pb', rw', m', h1, h2, h3, e⟩, hso⟩ := hn
    have e' := s.ext.trans e
    exact ⟨fun b hb hnb => e'.fr b hb hnb, hk B' A' ts' pb' rw' a' w' h2 m' h1 ⟨e', s.out.trans (hso.mono hmem), h3.trans s.df, fun h => by cases h⟩⟩
  have skip : ∀ ts, hL (env U0 B A pb rw w) ts a.tmps.toList → Region.wanted o (yielded ops a.tmps) = false → retE o.dst .und ts pb rw k = some q →
      wpOp P ops (QD V U0 L al B0 A0 pb0 rw0 w0 a0 K q ops) i (fun a' w' => SD al B0 A0 pb0 rw0 w0 w' ∧ wpAnyH P .any ops (QD V U0 L al B0 A0 pb0 rw0 w0 a0 K q ops) (SD al B0 A0 pb0 rw0 w0) n (Lk.setIfInBounds i true) a' w') a w := by
    intro ts hts hwt h
    obtain ⟨ts', h1, h2, h3⟩ := retE_s h hts (x := .und) (v := undef) (by simp only [DV.h])
    unfold Go.wpOp
    simp only [hi, hwt, Bool.false_eq_true, if_false]
    exact ⟨fun b hb hnb => s.ext.fr b hb hnb, hk B A ts' pb rw _ w h1 m h2 ⟨s.ext, s.out.trans ((SameOut.put a o undef).mono hmem), h3.trans s.df, fun h => by cases h⟩⟩
  unfold stepD at h
  split at h
  · rename_i hg
    exact go ts hts (by simp [Region.wanted, hg]) h
  · rename_i j want hg
    obtain ⟨ts', hr, hc⟩ := guardD_ok h hts
    have hw : Region.wanted o (yielded ops a.tmps) = (yielded ops a.tmps j == some want) := by simp [Region.wanted, hg]
    rcases hc with ⟨hy, hc⟩ | ⟨hy, hc⟩
    · exact go ts' hr (by rw [hw, hy]; simp) hc
    · exact skip ts' hr (by rw [hw]; simpa using hy) hc
theorem evT_ok (hT : TableOk P T) (hC : CsOk P C) (hns : Region.noSelect ops = true) (hal : ∀ i, live pb0 i → memN i Ia = false → al i = false) (hsn : ∀ i, sn i = true → live pb0 i ∧ al i = false) (m0 : Mem V U0 L B0 A0 pb0 rw0 w0) :
    ∀ (t : OT) (n : Nat) (Lk : Array Bool) (ph : Bool) (B : Nat → Nat) (A : Asg) (ts : List DV) (pb : DBs) (rw : List DR) (a : Act) (w : World), okT ops n t Lk = true → evT stdW T C al av Ia sn ops.toList ph t ts pb rw K = some q → Mem V U0 L B A pb rw w → hL (env U0 B A pb rw w) ts a.tmps.toList →
      At0 al ops B0 A0 pb0 rw0 w0 a0 ph B A pb rw w a → wpAnyH P .any ops (QD V U0 L al B0 A0 pb0 rw0 w0 a0 K q ops) (SD al B0 A0 pb0 rw0 w0) n Lk a w
  | .nil, n, Lk, ph, B, A, ts, pb, rw, a, w, hok, h, m, hts, s => by
    have hok : (Region.ready .any ops Lk).isEmpty = true := by cases n <;> simpa [okT] using hok
    simp only [List.isEmpty_iff] at hok
    simp only [evT] at h
    exact wpAnyH_done hok ⟨⟨B, A, ts, pb, rw, m, hts, h, s.df, s.ext⟩, s.out⟩ _
  | .rd i t, 0, Lk, ph, B, A, ts, pb, rw, a, w, hok, h, m, hts, s => by simp [okT] at hok
  | .op i t, 0, Lk, ph, B, A, ts, pb, rw, a, w, hok, h, m, hts, s => by simp [okT] at hok
  | .two i j ti tj, 0, Lk, ph, B, A, ts, pb, rw, a, w, hok, h, m, hts, s => by simp [okT] at hok
  | .three i j k ti tj tk, 0, Lk, ph, B, A, ts, pb, rw, a, w, hok, h, m, hts, s => by simp [okT] at hok
  | .rd i t, n + 1, Lk, ph, B, A, ts, pb, rw, a, w, hok, h, m, hts, s => by
    simp only [okT, Bool.and_eq_true] at hok
    simp only [evT] at h
    split at h
    · rename_i o hi
      rw [nthO_s] at hi
      have hi : ops[i]? = some o := by simpa using hi
      have hmem := dstL_mem (ops := ops.toList) (i := i) (o := o) (by simpa using hi)
      have hS : SD al B0 A0 pb0 rw0 w0 w := fun b hb hnb => s.ext.fr b hb hnb
      have go : ∀ ts, hL (env U0 B A pb rw w) ts a.tmps.toList → Region.wanted o (yielded ops a.tmps) = true → (rdE stdW T Ia sn ph o ts pb rw fun x => retE o.dst x ts pb rw fun ts pb rw => evT stdW T C al av Ia sn ops.toList ph t ts pb rw K) = some q → wpAnyH P .any ops (QD V U0 L al B0 A0 pb0 rw0 w0 a0 K q ops) (SD al B0 A0 pb0 rw0 w0) (n + 1) Lk a w := by
        intro ts hts hwt h
        obtain ⟨r, v, h1, h2, h3⟩ := rdE_ok hT hal hsn h m0 m hts s
        obtain ⟨ts', g1, g2, g3⟩ := retE_s h1 hts h2
        refine wpAnyH_take hi hns hok.1.1 hok.1.2 (fun c a w hq => hq) (.inl ⟨hwt, fun w' hs => h3 w' hs⟩) hS ?_
        exact evT_ok hT hC hns hal hsn m0 t n _ ph B A ts' pb rw _ w hok.2 g1 m g2 ⟨s.ext, s.out.trans ((SameOut.put a o v).mono hmem), g3.trans s.df, s.ph0⟩
      have skip : ∀ ts, hL (env U0 B A pb rw w) ts a.tmps.toList → Region.wanted o (yielded ops a.tmps) = false → (retE o.dst .und ts pb rw fun ts pb rw => evT stdW T C al av Ia sn ops.toList ph t ts pb rw K) = some q → wpAnyH P .any ops (QD V U0 L al B0 A0 pb0 rw0 w0 a0 K q ops) (SD al B0 A0 pb0 rw0 w0) (n + 1) Lk a w := by
        intro ts hts hwt h
        obtain ⟨ts', g1, g2, g3⟩ := retE_s h hts (x := .und) (v := undef) (by simp only [DV.h])
        exact wpAnyH_take hi hns hok.1.1 hok.1.2 (fun c a w hq => hq) (.inr ⟨hwt, rfl⟩) hS (evT_ok hT hC hns hal hsn m0 t n _ ph B A ts' pb rw _ w hok.2 g1 m g2 ⟨s.ext, s.out.trans ((SameOut.put a o undef).mono hmem), g3.trans s.df, s.ph0⟩)
      split at h
      · rename_i hg
        exact go ts hts (by simp [Region.wanted, hg]) h
      · rename_i j want hg
        obtain ⟨ts', hr, hc⟩ := guardD_ok h hts
        have hw : Region.wanted o (yielded ops a.tmps) = (yielded ops a.tmps j == some want) := by simp [Region.wanted, hg]
        rcases hc with ⟨hy, hc⟩ | ⟨hy, hc⟩
        · exact go ts' hr (by rw [hw, hy]; simp) hc
        · exact skip ts' hr (by rw [hw]; simpa using hy) hc
    · cases h
  | .op i t, n + 1, Lk, ph, B, A, ts, pb, rw, a, w, hok, h, m, hts, s => by
    simp only [okT, Bool.and_eq_true, beq_iff_eq] at hok
    simp only [evT] at h
    split at h
    · rename_i o hi
      rw [nthO_s] at hi
      have hi : ops[i]? = some o := by simpa using hi
      refine wpAnyH_all hok.1 (by simp) fun j hj => ?_
      rw [List.mem_singleton.1 hj]
      exact stepD_ok hT hC hi h m hts s fun B A ts pb rw a w hk m hts s => evT_ok hT hC hns hal hsn m0 t n _ true B A ts pb rw a w hok.2 hk m hts s
    · cases h
  | .two i j ti tj, n + 1, Lk, ph, B, A, ts, pb, rw, a, w, hok, h, m, hts, s => by
    simp only [okT, Bool.and_eq_true, beq_iff_eq] at hok
    simp only [evT] at h
    split at h
    · rename_i o o' hi hj
      rw [nthO_s] at hi hj
      have hi : ops[i]? = some o := by simpa using hi
      have hj : ops[j]? = some o' := by simpa using hj
      obtain ⟨ha, hb⟩ := both_s h
      refine wpAnyH_all hok.1.1 (by simp) fun k hk => ?_
      simp only [List.mem_cons, List.not_mem_nil, or_false] at hk
      rcases hk with rfl | rfl
      · exact stepD_ok hT hC hi ha m hts s fun B A ts pb rw a w hk m hts s => evT_ok hT hC hns hal hsn m0 ti n _ true B A ts pb rw a w hok.1.2 hk m hts s
      · exact stepD_ok hT hC hj hb m hts s fun B A ts pb rw a w hk m hts s => evT_ok hT hC hns hal hsn m0 tj n _ true B A ts pb rw a w hok.2 hk m hts s
    · cases h
  | .three i j k ti tj tk, n + 1, Lk, ph, B, A, ts, pb, rw, a, w, hok, h, m, hts, s => by
    simp only [okT, Bool.and_eq_true, beq_iff_eq] at hok
    simp only [evT] at h
    split at h
    · rename_i o o' o2 hi hj hk
      rw [nthO_s] at hi hj hk
      have hi : ops[i]? = some o := by simpa using hi
      have hj : ops[j]? = some o' := by simpa using hj
      have hk : ops[k]? = some o2 := by simpa using hk
      obtain ⟨ha, hb⟩ := both_s h
      obtain ⟨hb, hc⟩ := both_s hb
      refine wpAnyH_all hok.1.1.1 (by simp) fun l hl => ?_
      simp only [List.mem_cons, List.not_mem_nil, or_false] at hl
      rcases hl with rfl | rfl | rfl
      · exact stepD_ok hT hC hi ha m hts s fun B A ts pb rw a w hk m hts s => evT_ok hT hC hns hal hsn m0 ti n _ true B A ts pb rw a w hok.1.1.2 hk m hts s
      · exact stepD_ok hT hC hj hb m hts s fun B A ts pb rw a w hk m hts s => evT_ok hT hC hns hal hsn m0 tj n _ true B A ts pb rw a w hok.1.2 hk m hts s
      · exact stepD_ok hT hC hk hc m hts s fun B A ts pb rw a w hk m hts s => evT_ok hT hC hns hal hsn m0 tk n _ true B A ts pb rw a w hok.2 hk m hts s
    · cases h
end
end Go.Vc

namespace Go.Vc
open Go Go.RowKit
section
variable {P : Program} {T : List TI} {V : World} {U0 L : Nat → Prop} {B : Nat → Nat} {A : Asg} {ts : List DV} {pb : DBs} {rw : List DR} {a : Act} {w : World} {β : Type} [EqB β] {q : β} {K : DK β} {Q : Exit → Act → World → Prop} {C : ESs}
theorem hasE_s : ∀ {pb : DBs} {i : Nat}, hasE pb i = true → live pb i
  | [], i, h => by simp [hasE] at h
  | o :: pb, 0, h => by
    cases o with
    | none => simp [hasE] at h
    | some b => exact ⟨b, rfl⟩
  | o :: pb, i + 1, h => by
    obtain ⟨b, hb⟩ := hasE_s (pb := pb) (i := i) (by simpa [hasE] using h)
    exact ⟨b, by simpa using hb⟩
theorem alOf_s {Ia : List Nat} {n i : Nat} (hi : i < n) (hm : memN i Ia = false) : alOf Ia n i = false := by
  unfold alOf
  rw [hm]
  cases h : Nat.ble n i with
  | false => rfl
  | true => have := Nat.le_of_ble_eq_true h; omega
theorem live_lt {pb : DBs} {i : Nat} (h : live pb i) : i < pb.length := let ⟨_, h⟩ := h; (List.getElem?_eq_some_iff.1 h).1
theorem drawD_ok (hT : TableOk P T) (hC : CsOk P C) (hm : P.follows .mixedOrders = true) {O : DTs} {id : Nat} {ops : Array Oper} (h : drawD stdW T C O id ops ts pb rw K = some q) (m : Mem V U0 L B A pb rw w) (hts : hL (env U0 B A pb rw w) ts a.tmps.toList)
    (hQ : ∀ a' w', Nx V U0 L B pb a K q a' w' → SameOut (dsts ops.toList) a a' → Q .normal a' w') : (Code.region id ops true).wp P Q a w := by
  unfold drawD at h
  split at h
  · rename_i Ia t htr
    split at h
    · rename_i hok
      simp only [Bool.and_eq_true] at hok
      rw [litE_eq] at h
      obtain ⟨av, pb', h, l, hl, hnone⟩ := placesE_s _ _ _ h
      have hp : ∀ (i : Nat) (b : DB), pb'[i]? = some (some b) ↔ pb[i]? = some (some b) := by
        intro i b
        subst hl
        rcases Nat.lt_or_ge i pb.length with hi | hi
        · rw [List.getElem?_append_left hi]
        · rw [List.getElem?_append_right hi]
          constructor
          · intro hx
            have := hnone _ (List.mem_of_getElem? hx)
            cases this
          · intro hx
            have := (List.getElem?_eq_some_iff.1 hx).1
            omega
      obtain ⟨m1, s1, _⟩ := m.world (al := fun _ => true) (w' := { w with drawn := w.drawn + 1 }) ⟨rfl, rfl, rfl, Nat.le_refl _⟩ (fun _ _ => rfl)
      obtain ⟨m2, s2, hlive⟩ := m1.places hp
      have hts2 := noSub s2 (noSub s1 hts)
      have hlt : ∀ i, live pb' i → i < pb.length := fun i hi => live_lt ((hlive i).1 hi)
      have := evT_ok (al := alOf Ia pb.length) (Ia := Ia) (sn := snOf Ia (hasE pb)) (K := K) (q := q) hT hC hok.1 (fun i hi hmi => alOf_s (hlt i hi) hmi) (fun i hi => by
        unfold snOf at hi
        split at hi
        · cases hi
        · rename_i hmi
          have hli := (hlive i).2 (hasE_s hi)
          exact ⟨hli, alOf_s (hlt i hli) hmi⟩) m2 t _ _ false B A ts pb' rw a _ hok.2 h m2 hts2 ⟨Ext.refl, SameOut.refl _ _, rfl, fun _ => ⟨rfl, rfl, rfl, rfl, rfl⟩⟩
      refine wp_mono (wp_region_held hm this) fun e a' w' hq => ?_
      cases e with
      | normal =>
        obtain ⟨hn, hso⟩ := hq
        obtain ⟨B', A', ts', pb1, rw', m', h1, h2, h3, h4⟩ := hn.nx
        exact hQ _ _ ⟨B', A', ts', pb1, rw', m', h1, h2, h3, fun i hi => h4 i ((hlive i).2 hi)⟩ hso
      | _ => exact hq.elim
    · cases h
  · cases h
end
end Go.Vc

namespace Go.Vc
open Go Go.RowKit
/-! ### Joins -/
theorem clrB_get : ∀ {pb : DBs} {i : Nat} {b : DB}, (clrB pb)[i]? = some (some b) ↔ ∃ b0, pb[i]? = some (some b0) ∧ b = ⟨b0.ty, b0.cells, false⟩
  | [], i, b => by simp [clrB]
  | some b0 :: pb, 0, b => by
    simp only [clrB, List.getElem?_cons_zero, Option.some.injEq]
    exact ⟨fun h => ⟨b0, rfl, h.symm⟩, fun ⟨b1, h1, h2⟩ => by subst h1; exact h2.symm⟩
  | none :: pb, 0, b => by simp [clrB]
  | some b0 :: pb, i + 1, b => by simp only [clrB, List.getElem?_cons_succ]; exact clrB_get
  | none :: pb, i + 1, b => by simp only [clrB, List.getElem?_cons_succ]; exact clrB_get
theorem clrB_live {pb : DBs} {i : Nat} : live (clrB pb) i ↔ live pb i := by
  constructor
  · rintro ⟨b, h⟩; obtain ⟨b0, h0, _⟩ := clrB_get.1 h; exact ⟨b0, h0⟩
  · rintro ⟨b, h⟩; exact ⟨_, clrB_get.2 ⟨b, h, rfl⟩⟩
def flW (ps : DBs) (i : Nat) : Bool := match ps[i]? with | some (some a) => a.w | _ => true
theorem orW_get : ∀ {pb ps : DBs} {i : Nat} {b : DB}, (orW ps pb)[i]? = some (some b) ↔ ∃ b0, pb[i]? = some (some b0) ∧ b = ⟨b0.ty, b0.cells, b0.w || flW ps i⟩
  | [], ps, i, b => by simp [orW]
  | none :: pb, ps, 0, b => by simp [orW]
  | some b0 :: pb, ps, 0, b => by
    simp only [orW, List.getElem?_cons_zero, Option.some.injEq]
    cases ps with
    | nil => exact ⟨fun h => ⟨b0, rfl, h.symm⟩, fun ⟨b1, h1, h2⟩ => by subst h1; exact h2.symm⟩
    | cons p ps => cases p <;> exact ⟨fun h => ⟨b0, rfl, h.symm⟩, fun ⟨b1, h1, h2⟩ => by subst h1; exact h2.symm⟩
  | none :: pb, ps, i + 1, b => by
    simp only [orW, List.getElem?_cons_succ]
    rw [orW_get]
    have : flW ps.tail i = flW ps (i + 1) := by cases ps <;> simp [flW]
    rw [this]
  | some b0 :: pb, ps, i + 1, b => by
    simp only [orW, List.getElem?_cons_succ]
    rw [orW_get]
    have : flW ps.tail i = flW ps (i + 1) := by cases ps <;> simp [flW]
    rw [this]
theorem orW_live {pb ps : DBs} {i : Nat} : live (orW ps pb) i ↔ live pb i := by
  constructor
  · rintro ⟨b, h⟩; obtain ⟨b0, h0, _⟩ := orW_get.1 h; exact ⟨b0, h0⟩
  · rintro ⟨b, h⟩; exact ⟨_, orW_get.2 ⟨b, h, rfl⟩⟩
section
variable {V : World} {U0 L Lx : Nat → Prop} {B B' : Nat → Nat} {A A' : Asg} {pb pb' : DBs} {rw rw' : List DR} {w w' : World}
/-- other lists of boxes, the same that live -/
theorem live_sub {E : Env} {pb' : DBs} (hl : ∀ i, live pb' i ↔ live E.pb i) (hU : ∀ b, Us U0 E.B E.A pb' E.rw b → E.U b) : Sub noF E (env U0 E.B E.A pb' E.rw E.w) :=
  ⟨⟨fun _ _ _ => rfl, Nat.le_refl _, fun b _ h => hU b h⟩, fun i h => ⟨(hl i).2 h, rfl⟩, fun j e t l _ h => ⟨l, h, rfl, rfl⟩, fun j d _ h => ⟨⟨d, h, rfl⟩, rfl⟩, fun j q e t l h => (by cases h), fun j q d ad h => (by cases h)⟩
theorem blk_live (hl : ∀ i, live pb' i ↔ live pb i) {k : Bool} {i b : Nat} : blk B A pb' rw k i b ↔ blk B A pb rw k i b := by
  cases k with
  | true => exact Iff.rfl
  | false => exact ⟨fun h => ⟨(hl i).1 h.1, h.2⟩, fun h => ⟨(hl i).2 h.1, h.2⟩⟩
theorem Us_live (hl : ∀ i, live pb' i ↔ live pb i) {b : Nat} : Us U0 B A pb' rw b ↔ Us U0 B A pb rw b :=
  ⟨fun h => h.imp id fun ⟨k, i, h⟩ => ⟨k, i, (blk_live hl).1 h⟩, fun h => h.imp id fun ⟨k, i, h⟩ => ⟨k, i, (blk_live hl).2 h⟩⟩
theorem Mem.anchor (m : Mem V U0 L B A pb rw w) : Mem w U0 (Ow B A pb rw) B A (clrB pb) rw w ∧ Sub noF (env U0 B A pb rw w) (env U0 B A (clrB pb) rw w) := by
  have hl : ∀ i, live (clrB pb) i ↔ live pb i := fun i => clrB_live
  have s : Sub noF (env U0 B A pb rw w) (env U0 B A (clrB pb) rw w) := live_sub (U0 := U0) (E := env U0 B A pb rw w) hl fun b h => (Us_live hl).1 h
  refine ⟨⟨rfl, rfl, rfl, Nat.le_refl _, fun _ _ _ => rfl, fun b hb => ⟨Nat.lt_of_lt_of_le (m.u0 b hb).1 m.size, fun ⟨k, i, h⟩ => ?_⟩, fun k i b h => ?_, fun k i k' i' b h h' => m.inj _ _ _ _ _ ((blk_live hl).1 h) ((blk_live hl).1 h'), fun i b h => ?_, fun j e t l h => ?_, fun j d h => let ⟨b, o, g1, g2, g3⟩ := m.itr j d h; ⟨b, o, g1, g2, OD.mono s.later g3⟩⟩, s⟩
  · rcases (m.low k i b h).2 with g | g
    · have := (m.u0 b hb).1; omega
    · exact (m.u0 b hb).2 g
  · have h := (blk_live hl).1 h
    exact ⟨(m.low k i b h).1, .inr ⟨k, i, h⟩⟩
  · obtain ⟨b0, h0, rfl⟩ := clrB_get.1 h
    obtain ⟨cs, h1, h2, _⟩ := m.box i b0 h0
    exact ⟨cs, h1, noSub s h2, fun _ => ⟨(Array.getElem?_eq_some_iff.1 h1).1, rfl⟩⟩
  · obtain ⟨xs, h1, h2⟩ := m.row j e t l h
    exact ⟨xs, h1, DT.hs_mono s.later h2⟩
theorem Mem.low2 (m : Mem V U0 L B A pb rw w) (hL : ∀ b, Lx b ↔ Ow B A pb rw b) (mx : Mem w U0 Lx B' A' pb' rw' w') : ∀ k i b, blk B' A' pb' rw' k i b → b < w'.heap.size ∧ (V.heap.size ≤ b ∨ L b) := fun k i b h =>
  ⟨(mx.low k i b h).1, (mx.low k i b h).2.elim (fun h => .inl (Nat.le_trans m.size h)) fun h => let ⟨k, i, h⟩ := (hL b).1 h; (m.low k i b h).2⟩
theorem Mem.same2 (m : Mem V U0 L B A pb rw w) (hL : ∀ b, Lx b ↔ Ow B A pb rw b) (mx : Mem w U0 Lx B' A' pb' rw' w') : ∀ b, b < V.heap.size → ¬ L b → w'.heap[b]? = V.heap[b]? := fun b hb hn => by
  rw [mx.same b (Nat.lt_of_lt_of_le hb m.size) fun h => ?_, m.same b hb hn]
  obtain ⟨k, i, h⟩ := (hL b).1 h
  rcases (m.low k i b h).2 with h | h
  · omega
  · exact hn h
/-- an exit past a join, out of a loop -/
theorem Mem.out2 (m : Mem V U0 L B A pb rw w) (hL : ∀ b, Lx b ↔ Ow B A pb rw b) (mx : Mem w U0 Lx B' A' pb' rw' w') (hb : ∀ i, live pb i → B' i = B i) : Mem V U0 L B' A' (orW pb pb') rw' w' ∧ Sub noF (env U0 B' A' pb' rw' w') (env U0 B' A' (orW pb pb') rw' w') := by
  have hl : ∀ i, live (orW pb pb') i ↔ live pb' i := fun i => orW_live
  have s : Sub noF (env U0 B' A' pb' rw' w') (env U0 B' A' (orW pb pb') rw' w') := live_sub (U0 := U0) (E := env U0 B' A' pb' rw' w') hl fun b h => (Us_live hl).1 h
  refine ⟨⟨mx.os.trans m.os, mx.tape.trans m.tape, mx.output.trans m.output, Nat.le_trans m.size mx.size, m.same2 hL mx, m.u0, fun k i b h => m.low2 hL mx k i b ((blk_live hl).1 h), fun k i k' i' b h h' => mx.inj _ _ _ _ _ ((blk_live hl).1 h) ((blk_live hl).1 h'), fun i b h => ?_, fun j e t l h => ?_, fun j d h => let ⟨b, o, g1, g2, g3⟩ := mx.itr j d h; ⟨b, o, g1, g2, OD.mono s.later g3⟩⟩, s⟩
  · obtain ⟨b0, h0, rfl⟩ := orW_get.1 h
    obtain ⟨cs, h1, h2, h3⟩ := mx.box i b0 h0
    refine ⟨cs, h1, noSub s h2, fun hw => ?_⟩
    simp only [Bool.or_eq_false_iff] at hw
    obtain ⟨hw1, hw2⟩ := hw
    obtain ⟨g1, g2⟩ := h3 hw1
    unfold flW at hw2
    split at hw2
    · rename_i b1 hb1
      obtain ⟨cs1, _, _, h6⟩ := m.box i b1 hb1
      obtain ⟨g3, g4⟩ := h6 hw2
      rw [hb i ⟨_, hb1⟩] at g2 ⊢
      exact ⟨g3, g2.trans g4⟩
    · cases hw2
  · obtain ⟨xs, h1, h2⟩ := mx.row j e t l h
    exact ⟨xs, h1, DT.hs_mono s.later h2⟩
end
/-! what is carried -/
section
variable {β : Type} {q : β}
theorem cleanB_s {l : List Nat} : ∀ {n : Nat} {pb pb' : DBs}, cleanB l n pb pb' = true → ∀ i b, pb[i]? = some (some b) → ∃ b', pb'[i]? = some (some b') ∧ b.ty = b'.ty ∧ (memN (n + i) l = true ∨ b'.w = false)
  | _, [], _, _, i, b, hi => by simp at hi
  | n, none :: pb, [], h, i, b, hi => by simp [cleanB] at h
  | n, none :: pb, p' :: pb', h, i, b, hi => by
    cases i with
    | zero => simp at hi
    | succ i =>
      simp only [cleanB] at h
      obtain ⟨b', h1, h2, h3⟩ := cleanB_s h i b (by simpa using hi)
      exact ⟨b', by simpa using h1, h2, by rwa [show n + (i + 1) = n + 1 + i by omega]⟩
  | n, some c :: pb, [], h, i, b, hi => by simp [cleanB] at h
  | n, some c :: pb, none :: pb', h, i, b, hi => by simp [cleanB] at h
  | n, some c :: pb, some c' :: pb', h, i, b, hi => by
    simp only [cleanB, Bool.and_eq_true, Bool.or_eq_true, Bool.not_eq_true'] at h
    obtain ⟨⟨h1, h2⟩, h3⟩ := h
    cases i with
    | zero => simp at hi; subst hi; exact ⟨c', rfl, Nat.eq_of_beq_eq_true h1, h2⟩
    | succ i =>
      obtain ⟨b', g1, g2, g3⟩ := cleanB_s h3 i b (by simpa using hi)
      exact ⟨b', by simpa using g1, g2, by rwa [show n + (i + 1) = n + 1 + i by omega]⟩
theorem cleanB_clr {l : List Nat} : ∀ {n : Nat} {pb pb' : DBs}, cleanB l n (clrB pb) pb' = cleanB l n pb pb'
  | _, [], _ => rfl
  | n, none :: pb, [] => by simp only [clrB, cleanB]
  | n, none :: pb, p' :: pb' => by simp only [clrB, cleanB]; exact cleanB_clr
  | n, some c :: pb, [] => by simp only [clrB, cleanB]
  | n, some c :: pb, none :: pb' => by simp only [clrB, cleanB]
  | n, some c :: pb, some c' :: pb' => by simp only [clrB, cleanB]; rw [cleanB_clr]
theorem outD_clr {j : DJ} {pb pb' : DBs} {ts : List DV} {rw : List DR} {k : j.T.den → Option β} : outD j (clrB pb) ts pb' rw k = outD j pb ts pb' rw k := by unfold outD; rw [cleanB_clr]
theorem gtVs_h {E : Env} {ts : List DV} {us : List Value} (hts : hL E ts us) : ∀ {ns : List Nat} {vs : List DV}, gtVs ts ns = some vs → hL E vs (ns.map fun n => (us[n]?).getD undef)
  | [], vs, h => by simp only [gtVs, Option.some.injEq] at h; subst h; simp [hL]
  | n :: ns, vs, h => by
    simp only [gtVs] at h
    split at h
    · rename_i v vs' h1 h2
      simp only [Option.some.injEq] at h; subst h
      simp only [List.map_cons, hL]
      exact ⟨_, _, rfl, gtV_h h1 hts, gtVs_h hts h2⟩
    · cases h
structure RoS (ro : List RKd) (rs rw : List DR) : Prop where
  own : ∀ (n : Nat) (e : TypeId) (t : DT) (l : List t.den), rs[n]? = some (DR.own e t l) → rw[n]? = some (DR.own e t l) ∨ (l = [] ∧ (rw[n]? = none ∨ rw[n]? = some DR.dead))
  itr : ∀ (n : Nat) (d : OD), rs[n]? = some (DR.obj d) → ∃ d', rw[n]? = some (DR.obj d') ∧ d.isM = d'.isM ∧ ∀ U w o, d'.h U w o → d.h U w o
  isO : ∀ n : Nat, roN ro n = true → ∃ (e : TypeId) (t : DT) (l : List t.den), rs[n]? = some (DR.own e t l)
  isI : ∀ n : Nat, roI ro n = true → ∃ d : OD, rs[n]? = some (DR.obj d)
theorem roX_s : ∀ {ro : List RKd} {rw : List DR} {y : (roT ro).den}, roX ro rw = some y → RoS ro (roV ro y) rw
  | [], rw, y, h => ⟨fun n e t l h => by simp [roV] at h, fun n d h => by simp [roV] at h, fun n h => by simp [roN] at h, fun n h => by simp [roI] at h⟩
  | k :: ro, rw, y, h => by
    have up : ∀ {r : DR} {y' : (roT ro).den}, roX ro rw.tail = some y' → roV (k :: ro) y = r :: roV ro y' →
        (∀ (e : TypeId) (t : DT) (l : List t.den), r = DR.own e t l → rw[0]? = some (DR.own e t l) ∨ (l = [] ∧ (rw[0]? = none ∨ rw[0]? = some DR.dead))) → (∀ d : OD, r = DR.obj d → ∃ d', rw[0]? = some (DR.obj d') ∧ d.isM = d'.isM ∧ ∀ U w o, d'.h U w o → d.h U w o) → (roN (k :: ro) 0 = true → ∃ (e : TypeId) (t : DT) (l : List t.den), r = DR.own e t l) → (roI (k :: ro) 0 = true → ∃ d : OD, r = DR.obj d) →
        RoS (k :: ro) (roV (k :: ro) y) rw := by
      intro r y' hy he h1 h2 h3 h4
      obtain ⟨g1, g2, g3, g4⟩ := roX_s hy
      have ht : ∀ n, rw.tail[n]? = rw[n + 1]? := fun n => by cases rw <;> simp
      rw [he]
      refine ⟨fun n e t l hn => ?_, fun n d hn => ?_, fun n hn => ?_, fun n hn => ?_⟩
      · cases n with
        | zero => simp at hn; exact h1 e t l hn
        | succ n => have := g1 n e t l (by simpa using hn); rwa [ht] at this
      · cases n with
        | zero => simp at hn; exact h2 d hn
        | succ n => have := g2 n d (by simpa using hn); rwa [ht] at this
      · cases n with
        | zero => obtain ⟨e, t, l, rfl⟩ := h3 hn; exact ⟨e, t, l, rfl⟩
        | succ n => obtain ⟨e, t, l, h⟩ := g3 n (by simpa [roN] using hn); exact ⟨e, t, l, by simpa using h⟩
      · cases n with
        | zero => obtain ⟨d, rfl⟩ := h4 hn; exact ⟨d, rfl⟩
        | succ n => obtain ⟨d, h⟩ := g4 n (by simpa [roI] using hn); exact ⟨d, by simpa using h⟩
    cases k with
    | own e t =>
      unfold roX at h
      split at h
      · rename_i e' t' xs rw'
        split at h
        · rename_i ht y1 he hq hy
          have h := Option.some.inj h; subst h
          subst ht
          have he := Nat.eq_of_beq_eq_true he; subst he
          exact up hy rfl (fun e2 t2 l2 h => .inl (by rw [← h]; rfl)) (fun _ h => by cases h) (fun _ => ⟨_, _, _, rfl⟩) (fun h => by simp [roI] at h)
        · cases h
      · cases h
      · split at h
        · rename_i hy
          have h := Option.some.inj h; subst h
          exact up hy rfl (fun e2 t2 l2 h => .inr ⟨by cases h; rfl, .inr rfl⟩) (fun _ h => by cases h) (fun _ => ⟨_, _, _, rfl⟩) (fun h => by simp [roI] at h)
        · cases h
      · split at h
        · rename_i hy
          have h := Option.some.inj h; subst h
          exact up hy rfl (fun e2 t2 l2 h => .inr ⟨by cases h; rfl, .inl rfl⟩) (fun _ h => by cases h) (fun _ => ⟨_, _, _, rfl⟩) (fun h => by simp [roI] at h)
        · cases h
    | obj k =>
      unfold roX at h
      split at h
      · split at h
        · rename_i hk hy
          have h := Option.some.inj h; subst h
          exact up hy rfl (fun _ _ _ h => by cases h) (fun d h => by cases h; exact ⟨_, rfl, OKd.of_s hk⟩) (fun h => by simp [roN] at h) (fun _ => ⟨_, rfl⟩)
        · cases h
      · cases h
    | dead =>
      unfold roX at h
      exact up h rfl (fun _ _ _ h => by cases h) (fun _ h => by cases h) (fun h => by simp [roN] at h) (fun h => by simp [roI] at h)
theorem junkE_s : ∀ {xs : List DV} {bs : List Bool} {K : List DV → Option β}, junkE xs bs K = some q → ∃ l, K l = some q ∧ ∀ (E : Env) (vs : List Value), vs.length = xs.length → (∀ (i : Nat) (p : DV) (v : Value), bs[i]? = some false → xs[i]? = some p → vs[i]? = some v → p.h E v) → hL E l vs
  | [], [], K, h => ⟨[], h, fun E vs hl _ => by simp only [hL]; exact List.length_eq_zero_iff.1 (by simpa using hl)⟩
  | [], b :: bs, K, h => by simp [junkE] at h
  | x :: xs, [], K, h => by simp [junkE] at h
  | x :: xs, b :: bs, K, h => by
    simp only [junkE] at h
    split at h
    · obtain ⟨l, h1, h2⟩ := junkE_s h
      refine ⟨_, h1, fun E vs hl hh => ?_⟩
      cases vs with
      | nil => simp at hl
      | cons v vs => simp only [hL]; exact ⟨v, vs, rfl, by simp only [DV.h], h2 E vs (by simpa using hl) fun i p u g1 g2 g3 => hh (i + 1) p u (by simpa using g1) (by simpa using g2) (by simpa using g3)⟩
    · obtain ⟨l, h1, h2⟩ := junkE_s h
      refine ⟨_, h1, fun E vs hl hh => ?_⟩
      cases vs with
      | nil => simp at hl
      | cons v vs => simp only [hL]; exact ⟨v, vs, rfl, hh 0 x v rfl rfl rfl, h2 E vs (by simpa using hl) fun i p u g1 g2 g3 => hh (i + 1) p u (by simpa using g1) (by simpa using g2) (by simpa using g3)⟩
theorem maskOf_s {ws : List Nat} : ∀ {n i k : Nat} {b : Bool}, (maskOf ws n i)[k]? = some b → b = memN (i + k) ws
  | 0, i, k, b, h => by simp [maskOf] at h
  | n + 1, i, 0, b, h => by simp [maskOf] at h; exact h.symm
  | n + 1, i, k + 1, b, h => by
    have := maskOf_s (n := n) (i := i + 1) (k := k) (b := b) (by simpa [maskOf] using h)
    rwa [show i + (k + 1) = i + 1 + k by omega]
theorem set_get {us : List Value} {n : Nat} : us.set n ((us[n]?).getD undef) = us := by
  apply List.ext_getElem?
  intro i
  rw [List.getElem?_set]
  split
  · rename_i h; subst h
    split
    · rename_i h; simp [h]
    · rename_i h; rw [List.getElem?_eq_none (by omega)]
  · rfl
def setsL : List DV → List Nat → List DV → List DV
  | ts, n :: ns, v :: vs => setsL (ts.set n v) ns vs
  | ts, _, _ => ts
theorem setsE_eq : ∀ {ns : List Nat} {ts vs : List DV} {K : List DV → Option β}, setsE ts ns vs K = some q → K (setsL ts ns vs) = some q
  | [], ts, [], K, h => h
  | [], ts, v :: vs, K, h => by simp [setsE] at h
  | n :: ns, ts, [], K, h => by simp [setsE] at h
  | n :: ns, ts, v :: vs, K, h => by
    simp only [setsE, setE_eq] at h
    have h2 := setsE_eq h
    simpa only [setsL] using h2
theorem setsE_h {E : Env} {us : List Value} : ∀ {ns : List Nat} {ts vs : List DV}, hL E ts us → hL E vs (ns.map fun n => (us[n]?).getD undef) → hL E (setsL ts ns vs) us
  | [], ts, [], hts, hvs => hts
  | [], ts, v :: vs, hts, hvs => hts
  | n :: ns, ts, [], hts, hvs => hts
  | n :: ns, ts, v :: vs, hts, hvs => by
    simp only [List.map_cons, hL] at hvs
    obtain ⟨u, us', e, h1, h2⟩ := hvs
    simp only [List.cons.injEq] at e
    obtain ⟨rfl, rfl⟩ := e
    have := hL_set hts n h1
    rw [set_get] at this
    simp only [setsL]
    exact setsE_h this h2
theorem setBs_s : ∀ {is : List Nat} {pb : DBs} {cs : List (List DV)} {K : DBs → Option β}, setBs pb is cs K = some q → ∃ pb', K pb' = some q ∧ (∀ i, live pb' i ↔ live pb i) ∧
    ∀ i b, pb'[i]? = some (some b) → ∃ b0, pb[i]? = some (some b0) ∧ b.ty = b0.ty ∧ ((i ∉ is ∧ b = b0) ∨ ∃ (k : Nat) (c : List DV), is[k]? = some i ∧ cs[k]? = some c ∧ b.cells = c ∧ b.w = true)
  | [], pb, [], K, h => ⟨pb, h, fun _ => Iff.rfl, fun i b hb => ⟨b, hb, rfl, .inl ⟨by simp, rfl⟩⟩⟩
  | [], pb, c :: cs, K, h => by simp [setBs] at h
  | i0 :: is, pb, [], K, h => by simp [setBs] at h
  | i0 :: is, pb, c :: cs, K, h => by
    simp only [setBs] at h
    split at h
    · rename_i b0 hb0
      rw [dbV_spec] at hb0
      rw [setE_eq] at h
      obtain ⟨pb', h1, h2, h3⟩ := setBs_s h
      have hlt := (List.getElem?_eq_some_iff.1 hb0).1
      have hl : ∀ i, live (pb.set i0 (some ⟨b0.ty, c, true⟩)) i ↔ live pb i := fun i => by
        simp only [live, List.getElem?_set]
        split
        · rename_i h; subst h; exact ⟨fun _ => ⟨_, hb0⟩, fun _ => ⟨⟨b0.ty, c, true⟩, by simp [hlt]⟩⟩
        · rfl
      refine ⟨pb', h1, fun i => (h2 i).trans (hl i), fun i b hb => ?_⟩
      obtain ⟨b1, g1, g2, g3⟩ := h3 i b hb
      rw [List.getElem?_set] at g1
      split at g1
      · rename_i hi; subst hi
        simp only [hlt, if_true, Option.some.injEq] at g1; subst g1
        refine ⟨b0, hb0, g2, .inr ?_⟩
        rcases g3 with ⟨_, rfl⟩ | ⟨k, c', k1, k2, k3⟩
        · exact ⟨0, c, rfl, rfl, rfl, rfl⟩
        · exact ⟨k + 1, c', by simpa using k1, by simpa using k2, k3⟩
      · rename_i hi
        refine ⟨b1, g1, g2, ?_⟩
        rcases g3 with ⟨k1, k2⟩ | ⟨k, c', k1, k2, k3⟩
        · exact .inl ⟨by simp [Ne.symm hi, k1], k2⟩
        · exact .inr ⟨k + 1, c', by simpa using k1, by simpa using k2, k3⟩
    · cases h
end
/-! what a join's state stands for -/
section
variable {E E2 : Env} {pb : DBs} {ro : List RKd} {rw : List DR}
/-- what the state behind a join takes over -/
structure Over (pb : DBs) (ro : List RKd) (rw : List DR) (E E2 : Env) : Prop where
  data : Later E.U E2.U E.w E2.w
  row : ∀ j v u, okRowV ro rw j v = true → v.h E u → (DV.row j).h E2 u
  ob : ∀ j v u, okObV ro rw j v = true → v.h E u → (DV.ob j).h E2 u
  own : ∀ i, live pb i → live E2.pb i ∧ E2.B i = E.B i
theorem vsX_s (O : Over pb ro rw E E2) : ∀ (cs : List DS) (r : DT) {vs : List DV} {us : List Value} {y : r.den} {z : (vsT cs r).den}, vsX ro rw cs r vs y = some z → hL E vs us → ownDS pb cs = true → (vsV cs r z).2 = y ∧ hL E2 (vsV cs r z).1 us
  | [], r, vs, us, y, z, h, hv, ho => by
    cases vs with
    | nil => simp only [vsX] at h; have h : y = z := Option.some.inj h; subst h; exact ⟨rfl, hv⟩
    | cons v vs => simp [vsX] at h
  | c :: cs, r, [], us, y, z, h, hv, ho => by cases c <;> simp [vsX] at h
  | c :: cs, r, v :: vs, us, y, z, h, hv, ho => by
    simp only [hL] at hv
    obtain ⟨u, us', rfl, hv1, hv2⟩ := hv
    simp only [ownDS, Bool.and_eq_true] at ho
    cases c with
    | t t =>
      simp only [vsX] at h
      split at h
      · rename_i x z' hx hz
        have h := Option.some.inj h; subst h
        obtain ⟨h1, h2⟩ := vsX_s O cs r hz hv2 ho.2
        refine ⟨h1, ?_⟩
        simp only [vsV, hL]
        exact ⟨u, us', rfl, t.val_h (DT.hv_mono O.data (DT.ofV_h hx hv1)), h2⟩
      · cases h
    | row j =>
      simp only [vsX] at h
      split at h
      · rename_i hx
        obtain ⟨h1, h2⟩ := vsX_s O cs r h hv2 ho.2
        refine ⟨h1, ?_⟩
        simp only [vsV, hL]
        exact ⟨u, us', rfl, O.row _ _ _ hx hv1, h2⟩
      · cases h
    | ob j =>
      simp only [vsX] at h
      split at h
      · rename_i hx
        obtain ⟨h1, h2⟩ := vsX_s O cs r h hv2 ho.2
        refine ⟨h1, ?_⟩
        simp only [vsV, hL]
        exact ⟨u, us', rfl, O.ob _ _ _ hx hv1, h2⟩
      · cases h
    | own i o =>
      simp only [vsX] at h
      split at h
      · rename_i hx
        obtain ⟨h1, h2⟩ := vsX_s O cs r h hv2 ho.2
        refine ⟨h1, ?_⟩
        simp only [vsV, hL]
        refine ⟨u, us', rfl, ?_, h2⟩
        unfold okOwnV at hx
        split at hx
        · rename_i i' o'
          simp only [Bool.and_eq_true] at hx
          have e1 := Nat.eq_of_beq_eq_true hx.1
          have e2 := Nat.eq_of_beq_eq_true hx.2
          subst e1; subst e2
          simp only [DV.h] at hv1 ⊢
          have hli : live pb i := by
            cases hd : dbV pb i with
            | none => have h3 := ho.1; simp only [hd] at h3; cases h3
            | some b => exact ⟨b, dbV_spec.1 hd⟩
          obtain ⟨g1, g2⟩ := O.own i hli
          exact ⟨g1, by rw [g2]; exact hv1.2⟩
        · cases hx
      · cases h
    | nil =>
      simp only [vsX] at h
      split at h
      · rename_i hx
        obtain ⟨h1, h2⟩ := vsX_s O cs r h hv2 ho.2
        refine ⟨h1, ?_⟩
        simp only [vsV, hL]
        refine ⟨u, us', rfl, ?_, h2⟩
        unfold okNilV at hx
        split at hx
        · simp only [DV.h] at hv1 ⊢; exact hv1
        · cases hx
      · cases h
theorem boX_s (O : Over pb ro rw E E2) {pb' : DBs} {cs : Nat → List Value → TypeId → Prop} (hb : ∀ i b, pb'[i]? = some (some b) → ∃ us, cs i us b.ty ∧ hL E b.cells us) : ∀ (l : List (Nat × List DS)) (r : DT) {y : r.den} {z : (boT l r).den}, boX ro pb' rw l r y = some z → ownBo pb l = true →
    (boV l r z).2 = y ∧ ∀ (k i : Nat) (c : List DV), (boN l)[k]? = some i → (boV l r z).1[k]? = some c → ∃ us t, cs i us t ∧ hL E2 c us
  | [], r, y, z, h, ho => by
    simp only [boX] at h
    have h : y = z := Option.some.inj h
    subst h
    exact ⟨rfl, fun k i c h => by simp [boN] at h⟩
  | (i0, ds) :: l, r, y, z, h, ho => by
    simp only [ownBo, Bool.and_eq_true] at ho
    unfold boX at h
    cases hb1 : dbV pb' i0 with
    | none => simp [hb1] at h
    | some b =>
    cases hz : boX ro pb' rw l r y with
    | none => simp [hb1, hz] at h
    | some z1 =>
      rw [hb1, hz] at h
      rw [dbV_spec] at hb1
      obtain ⟨us, h1, h2⟩ := hb i0 b hb1
      obtain ⟨g1, g2⟩ := boX_s O hb l r hz ho.2
      obtain ⟨g3, g4⟩ := vsX_s O ds _ h h2 ho.1.2
      have e : (boV ((i0, ds) :: l) r z) = ((vsV ds (boT l r) z).1 :: (boV l r z1).1, (boV l r z1).2) := by
        simp only [boV, g3]
      rw [e]
      refine ⟨g1, fun k i c hk hc => ?_⟩
      cases k with
      | zero => simp [boN] at hk hc; subst hk; subst hc; exact ⟨us, _, h1, g4⟩
      | succ k => exact g2 k i c (by simpa [boN] using hk) (by simpa using hc)
end
end Go.Vc

namespace Go.Vc
open Go Go.RowKit
section
variable {V : World} {U0 L Lx : Nat → Prop} {B B' : Nat → Nat} {A A' : Asg} {pb pb' : DBs} {rw rw' : List DR} {w w' : World} {ts ts' : List DV} {a a' : Act} {β : Type}
/-- rows as they are taken over -/
def rowA (A : Asg) (rw : List DR) : Asg := fun n => match rw[n]? with
  | some (.own _ _ _) => A n
  | some (.obj _) => A n
  | _ => (none, 0)
theorem owns_nil {e : TypeId} {k : Nat} : w.ownsRow 0 e k (.slice none 0 0) 0 [] := ⟨by simp, .inl ⟨rfl, rfl⟩⟩
/-- THE STATE BEHIND A JOIN -/
theorem join_ok {j : DJ} {x : Code} (m : Mem V U0 L B A pb rw w) (hts : hL (env U0 B A pb rw w) ts a.tmps.toList) (hok : okJ j x ts pb = true) (hLx : ∀ b, Lx b ↔ Ow B A pb rw b) (mx : Mem w U0 Lx B' A' pb' rw' w') (hx : hL (env U0 B' A' pb' rw' w') ts' a'.tmps.toList) (hso : SameOut (writes x) a a')
    (hbx : ∀ i, live pb i → live pb' i ∧ B' i = B i) {k : j.T.den → Option β} {q : β} (h : outD j pb ts' pb' rw' k = some q) :
    ∃ z, k z = some q ∧ ∀ {γ : Type} {K : DK γ} {q : γ}, headD j x ts pb z K = some q → ∃ A2 ts1 pb1 rw1, Mem V U0 L B' A2 pb1 rw1 w' ∧ hL (env U0 B' A2 pb1 rw1 w') ts1 a'.tmps.toList ∧ K ts1 pb1 rw1 = some q ∧ (∀ i, live pb1 i ↔ live pb i) ∧ ∀ i, live pb i → B' i = B i := by
  unfold outD at h
  split at h
  · rename_i hcl
    obtain ⟨ts2, pb2, rw2, ps, h, m2, hts2, _, e2, _⟩ := frzE_s (al := fun _ => true) (ps := []) (us := []) _ h mx hx (by simp [hL])
    split at h
    · rename_i vs y hvs hy
      split at h
      · rename_i y2 hy2
        split at h
        · rename_i z hz
          refine ⟨z, h, fun {γ K q} hd => ?_⟩
          simp only [okJ, Bool.and_eq_true] at hok
          obtain ⟨⟨⟨⟨_, ho1⟩, ho2⟩, _⟩, _⟩ := hok
          have R := roX_s hy
          have hU : ∀ (pb3 : DBs), (∀ i, live pb3 i ↔ live pb i) → ∀ kd i b, blk B' (rowA A' rw2) pb3 (roV j.ro y) kd i b → blk B' A' pb2 rw2 kd i b ∧ (kd = true → (rowA A' rw2) i = A' i) := by
            intro pb3 hl kd i b hb
            cases kd with
            | false => exact ⟨⟨(e2.bx i (hbx i ((hl i).1 hb.1)).1).1, hb.2⟩, fun h => by cases h⟩
            | true =>
              obtain ⟨r, ad, h1, h2, h3, h4⟩ := hb
              cases r with
              | dead => exact absurd rfl h2
              | own e t l =>
                rcases R.own i e t l h1 with g | ⟨_, g⟩
                · have e3 : rowA A' rw2 i = A' i := by unfold rowA; rw [g]
                  exact ⟨⟨_, ad, g, by simp, by rw [← e3]; exact h3, h4⟩, fun _ => e3⟩
                · have e3 : rowA A' rw2 i = (none, 0) := by unfold rowA; rcases g with g | g <;> rw [g]
                  rw [e3] at h3; cases h3
              | obj d =>
                obtain ⟨d', g, _⟩ := R.itr i d h1
                have e3 : rowA A' rw2 i = A' i := by unfold rowA; rw [g]
                exact ⟨⟨_, ad, g, by simp, by rw [← e3]; exact h3, h4⟩, fun _ => e3⟩
          have hUs : ∀ (pb3 : DBs), (∀ i, live pb3 i ↔ live pb i) → ∀ b, Us U0 B' (rowA A' rw2) pb3 (roV j.ro y) b → Us U0 B' A' pb2 rw2 b := fun pb3 hl b hb => hb.imp id fun ⟨kd, i, hb⟩ => ⟨kd, i, (hU pb3 hl kd i b hb).1⟩
          have over : ∀ (pb3 : DBs), (∀ i, live pb3 i ↔ live pb i) → Over pb j.ro rw2 (env U0 B' A' pb2 rw2 w') (env U0 B' (rowA A' rw2) pb3 (roV j.ro y) w') := by
            intro pb3 hl
            refine ⟨⟨fun _ _ _ => rfl, Nat.le_refl _, fun b _ hb => hUs pb3 hl b hb⟩, fun n v u hr hv => ?_, fun n v u hr hv => ?_, fun i hi => ⟨(hl i).2 hi, rfl⟩⟩
            · unfold okRowV at hr
              simp only [Bool.and_eq_true] at hr
              obtain ⟨hr1, hr2⟩ := hr
              obtain ⟨e, t, l, hn⟩ := R.isO n hr1
              simp only [DV.h]
              refine ⟨e, t, l, hn, ?_⟩
              split at hr2
              · rename_i j'
                split at hr2
                · rename_i e3 t3 l3 hj hd
                  rw [drV_spec] at hd
                  have hj := Nat.eq_of_beq_eq_true hj
                  subst hj
                  simp only [DV.h] at hv
                  obtain ⟨e4, t4, l4, h4, rfl⟩ := hv
                  have h4 : rw2[n]? = some (.own e4 t4 l4) := h4
                  rcases R.own n e t l hn with g | ⟨_, g⟩
                  · rw [h4] at g
                    simp only [Option.some.injEq, DR.own.injEq] at g
                    obtain ⟨rfl, rfl, g⟩ := g
                    cases g
                    change Value.slice (A' n).1 _ (A' n).2 = Value.slice (rowA A' rw2 n).1 _ (rowA A' rw2 n).2
                    rw [show rowA A' rw2 n = A' n by unfold rowA; rw [h4]]
                  · rw [h4] at g; simp at g
                · cases hr2
              · simp only [DV.h] at hv
                split at hr2
                · cases hr2
                · rename_i hno
                  rw [drV_spec] at hno
                  rcases R.own n e t l hn with g | ⟨rfl, g⟩
                  · exact absurd g (hno e t l)
                  · change u = Value.slice (rowA A' rw2 n).1 0 (rowA A' rw2 n).2
                    rw [show rowA A' rw2 n = (none, 0) by unfold rowA; rcases g with g | g <;> rw [g]]
                    exact hv
              · cases hr2
            · unfold okObV at hr
              simp only [Bool.and_eq_true] at hr
              obtain ⟨hr1, hr2⟩ := hr
              obtain ⟨d, hn⟩ := R.isI n hr1
              split at hr2
              · rename_i j'
                split at hr2
                · rename_i d3 hj hd
                  have hj := Nat.eq_of_beq_eq_true hj
                  subst hj
                  simp only [DV.h] at hv ⊢
                  obtain ⟨d4, ad, h4, h5, rfl⟩ := hv
                  obtain ⟨d', g, gm, _⟩ := R.itr n d hn
                  have h4 : rw2[n]? = some (.obj d4) := h4
                  rw [g] at h4; simp only [Option.some.injEq, DR.obj.injEq] at h4; subst h4
                  refine ⟨d, ad, hn, ?_, by simp only [OD.at, gm]⟩
                  change (rowA A' rw2 n).1 = some ad
                  rw [show rowA A' rw2 n = A' n by unfold rowA; rw [g]]
                  exact h5
                · cases hr2
              · cases hr2
          -- the state
          unfold headD at hd
          generalize hzz : vsV (dsS j.sl) (boT j.bo (roT j.ro)) z = zz at hd
          obtain ⟨vs3, y3⟩ := zz
          dsimp only at hd
          generalize hyy : boV j.bo (roT j.ro) y3 = yy at hd
          obtain ⟨vss, y4⟩ := yy
          dsimp only at hd
          rw [subLE_eq] at hd
          obtain ⟨ts3, hd, hj3⟩ := junkE_s hd
          have hy3 : y3 = y2 := by
            have := (vsX_s (over pb fun _ => Iff.rfl) _ _ hz (gtVs_h hts2 hvs) ho1).1
            rw [hzz] at this; exact this
          subst hy3
          have hy4 : y4 = y := by
            have := (boX_s (over pb fun _ => Iff.rfl) (pb' := pb2) (cs := fun _ _ _ => True) (fun i b hb => let ⟨cs, _, h2, _⟩ := m2.box i b hb; ⟨cs, trivial, h2⟩) _ _ hy2 ho2).1
            rw [hyy] at this; exact this
          subst hy4
          -- boxes
          have hset : ∀ (ts4 : List DV), subBE norowD pb (fun pb => setBs pb (boN j.bo) vss fun pb => K ts4 pb (roV j.ro y4)) = some q →
              ∃ pb1, K ts4 pb1 (roV j.ro y4) = some q ∧ (∀ i, live pb1 i ↔ live pb i) ∧ Mem V U0 L B' (rowA A' rw2) pb1 (roV j.ro y4) w' := by
            intro ts4 h4
            rw [subBE_eq] at h4
            obtain ⟨pb1, h4, hl, hbs⟩ := setBs_s h4
            have hl : ∀ i, live pb1 i ↔ live pb i := fun i => (hl i).trans subB'_live
            have O := over pb1 hl
            refine ⟨pb1, h4, hl, ?_⟩
            have hlat : Later (Us U0 B A pb rw) (Us U0 B' (rowA A' rw2) pb1 (roV j.ro y4)) w w' := by
              refine ⟨fun b hb hn => mx.same b hb fun h => hn (.inr ((hLx b).1 h)), mx.size, fun b hb hu => ?_⟩
              rcases hUs pb1 hl b hu with g | ⟨kd, i, g⟩
              · exact .inl g
              · rcases (m2.low _ _ _ g).2 with g | g
                · omega
                · exact .inr ((hLx b).1 g)
            have hsub : Sub norowD (env U0 B A pb rw w) (env U0 B' (rowA A' rw2) pb1 (roV j.ro y4) w') :=
              ⟨hlat, fun i hi => ⟨(hl i).2 hi, (hbx i hi).2⟩, fun n e t l hn => (by cases hn), fun n d hn => (by cases hn), fun n p e t l hn _ => (by cases hn; simp only [DV.h]), fun n p d ad hn _ _ => (by cases hn; simp only [DV.h])⟩
            refine ⟨mx.os.trans m.os, mx.tape.trans m.tape, mx.output.trans m.output, Nat.le_trans m.size mx.size, m.same2 hLx mx, m.u0, fun kd i b hb => m.low2 hLx m2 kd i b (hU pb1 hl kd i b hb).1, fun kd i kd' i' b h1 h2 => m2.inj _ _ _ _ _ (hU pb1 hl kd i b h1).1 (hU pb1 hl kd' i' b h2).1, fun i b hb => ?_, fun n e t l hn => ?_, fun n d hn => ?_⟩
            · obtain ⟨b0, g1, g2, g3⟩ := hbs i b hb
              obtain ⟨b00, g4, rfl⟩ := subB'_get.1 g1
              obtain ⟨b', g5, g6, g7⟩ := cleanB_s hcl i b00 g4
              have hBi := (hbx i ⟨b00, g4⟩).2
              rcases g3 with ⟨g8, rfl⟩ | ⟨kk, c, g8, g9, rfl, g10⟩
              · -- as it was
                obtain ⟨cs, k1, k2, k3⟩ := m.box i b00 g4
                have hw : b'.w = false := by
                  rcases g7 with g7 | g7
                  · rw [Nat.zero_add] at g7; exact absurd ((memN_iff _ _).1 g7) g8
                  · exact g7
                obtain ⟨_, _, _, k6⟩ := mx.box i b' g5
                obtain ⟨k7, k8⟩ := k6 hw
                refine ⟨cs, by rw [k8, hBi]; exact k1, hL_subL hsub _ k2, fun hw2 => ?_⟩
                obtain ⟨k9, k10⟩ := k3 hw2
                exact ⟨by rw [hBi]; exact k9, by rw [k8, hBi]; exact k10⟩
              · obtain ⟨us, t, k1, k2⟩ := (boX_s O (pb' := pb2) (cs := fun i us t => w'.heap[B' i]? = some (.cells us.toArray t (0, 0))) (fun i b hb => let ⟨cs, h1, h2, _⟩ := m2.box i b hb; ⟨cs, h1, h2⟩) _ _ hy2 ho2).2 kk i b.cells g8 (by rw [hyy]; exact g9)
                obtain ⟨us', k3, k4, _⟩ := mx.box i b' g5
                rw [k1] at k3
                simp only [Option.some.injEq, Obj.cells.injEq] at k3
                refine ⟨us, by rw [k1, k3.2.1, ← g6, ← g2], k2, fun hf => by rw [g10] at hf; cases hf⟩
            · rcases R.own n e t l hn with g | ⟨rfl, g⟩
              · obtain ⟨xs, k1, k2⟩ := m2.row n e t l g
                refine ⟨xs, ?_, DT.hs_mono O.data k2⟩
                rw [show rowA A' rw2 n = A' n by unfold rowA; rw [g]]; exact k1
              · refine ⟨[], ?_, DT.hs_nil⟩
                rw [show rowA A' rw2 n = (none, 0) by unfold rowA; rcases g with g | g <;> rw [g]]
                exact owns_nil
            · obtain ⟨d', g, _, gh⟩ := R.itr n d hn
              obtain ⟨b, o, k1, k2, k3⟩ := m2.itr n d' g
              exact ⟨b, o, by rw [show rowA A' rw2 n = A' n by unfold rowA; rw [g]]; exact k1, k2, OD.mono O.data (gh _ _ _ k3)⟩
          -- slots
          have hslots : ∃ ts4, subBE norowD pb (fun pb => setBs pb (boN j.bo) vss fun pb => K ts4 pb (roV j.ro y4)) = some q ∧ ∀ pb1, (∀ i, live pb1 i ↔ live pb i) → hL (env U0 B' (rowA A' rw2) pb1 (roV j.ro y4) w') ts4 a'.tmps.toList := by
            have hsl : ∀ pb1, (∀ i, live pb1 i ↔ live pb i) → hL (env U0 B' (rowA A' rw2) pb1 (roV j.ro y4) w') ts3 a'.tmps.toList := by
              intro pb1 hl
              have O := over pb1 hl
              have hlat : Later (Us U0 B A pb rw) (Us U0 B' (rowA A' rw2) pb1 (roV j.ro y4)) w w' := by
                refine ⟨fun b hb hn => mx.same b hb fun h => hn (.inr ((hLx b).1 h)), mx.size, fun b hb hu => ?_⟩
                rcases hUs pb1 hl b hu with g | ⟨kd, i, g⟩
                · exact .inl g
                · rcases (m2.low _ _ _ g).2 with g | g
                  · omega
                  · exact .inr ((hLx b).1 g)
              have hsub : Sub norowD (env U0 B A pb rw w) (env U0 B' (rowA A' rw2) pb1 (roV j.ro y4) w') :=
                ⟨hlat, fun i hi => ⟨(hl i).2 hi, (hbx i hi).2⟩, fun n e t l hn => (by cases hn), fun n d hn => (by cases hn), fun n p e t l hn _ => (by cases hn; simp only [DV.h]), fun n p d ad hn _ _ => (by cases hn; simp only [DV.h])⟩
              have hold := hL_subL hsub ts hts
              refine hj3 _ _ ?_ fun i p v hi hp hv => ?_
              · rw [← hL_len hold]; simp [hso.1]
              · have hm := maskOf_s hi
                rw [Nat.zero_add] at hm
                have hn : i ∉ writes x := fun h => by rw [(memN_iff _ _).2 h] at hm; cases hm
                have hs := hso.2 i hn
                obtain ⟨v', g1, g2⟩ := hL_get hold i p hp
                simp only [Array.getElem?_toList] at g1 hv
                rw [hs, g1] at hv
                cases hv
                exact g2
            exact ⟨_, setsE_eq hd, fun pb1 hl => setsE_h (hsl pb1 hl) (by
              have := (vsX_s (over pb1 hl) _ _ hz (gtVs_h hts2 hvs) ho1).2
              rw [hzz] at this; exact this)⟩
          obtain ⟨ts4, h4, hts4⟩ := hslots
          obtain ⟨pb1, h5, hl, m5⟩ := hset ts4 h4
          exact ⟨_, ts4, pb1, _, m5, hts4 pb1 hl, h5, hl, fun i hi => (hbx i hi).2⟩
        · cases h
      · cases h
    · cases h
  · cases h
end
end Go.Vc

namespace Go.Vc
open Go Go.RowKit
theorem dbV_clr : ∀ {pb : DBs} {i : Nat}, (dbV (clrB pb) i).isSome = (dbV pb i).isSome
  | [], _ => rfl
  | some b :: pb, 0 => rfl
  | none :: pb, 0 => rfl
  | some b :: pb, i + 1 => by simp only [clrB, dbV]; exact dbV_clr
  | none :: pb, i + 1 => by simp only [clrB, dbV]; exact dbV_clr
theorem ownDS_clr {pb : DBs} : ∀ {l : List DS}, ownDS (clrB pb) l = ownDS pb l
  | [] => rfl
  | d :: l => by
    simp only [ownDS]
    rw [ownDS_clr]
    cases d <;> simp only [dbV_clr]
theorem ownBo_clr {pb : DBs} : ∀ {l : List (Nat × List DS)}, ownBo (clrB pb) l = ownBo pb l
  | [] => rfl
  | (i, cs) :: l => by
    simp only [ownBo]
    rw [ownBo_clr, ownDS_clr, dbV_clr]
theorem okJ_clr {j : DJ} {x : Code} {ts : List DV} {pb : DBs} : okJ j x ts (clrB pb) = okJ j x ts pb := by
  unfold okJ; rw [ownDS_clr, ownBo_clr]
/-- how code may end here -/
def endX : Exit → Prop
  | .normal => True
  | .exit _ => True
  | .ret => True
  | _ => False
section
variable {P : Program} {T : List TI} {C : ESs} {O : DTs} {JC JL : List (Nat × DJ)} {β : Type} [EqB β] {q : β}
omit [EqB β] in
theorem Nx.more {V : World} {U0 L : Nat → Prop} {B B1 : Nat → Nat} {pb pb1 : DBs} {a a1 a' : Act} {w' : World} {K : DK β} (hl : ∀ i, live pb i → live pb1 i ∧ B1 i = B i) (hd : a1.defers = a.defers) (h : Nx V U0 L B1 pb1 a1 K q a' w') : Nx V U0 L B pb a K q a' w' :=
  let ⟨B', A', ts', pb', rw', m, h1, h2, h3, h4⟩ := h
  ⟨B', A', ts', pb', rw', m, h1, h2, h3.trans hd, fun i hi => let ⟨g1, g2⟩ := hl i hi; let ⟨g3, g4⟩ := h4 i g1; ⟨g3, g4.trans g2⟩⟩
/-- CODE -/
theorem ev_ok (hT : TableOk P T) (hC : CsOk P C) (hm : P.follows .mixedOrders = true) : ∀ (c : Code) {Q : Exit → DK β} {V : World} {U0 L : Nat → Prop} {B : Nat → Nat} {A : Asg} {ts : List DV} {pb : DBs} {rw : List DR} {a : Act} {w : World},
    ev stdW T C O JC JL c Q ts pb rw = some q → Mem V U0 L B A pb rw w → hL (env U0 B A pb rw w) ts a.tmps.toList → c.wp P (fun e a' w' => endX e ∧ Nx V U0 L B pb a (Q e) q a' w' ∧ SameOut (writes c) a a') a w
  | .skip, Q, V, U0, L, B, A, ts, pb, rw, a, w, h, m, hts => by
    simp only [ev] at h
    exact wp_skip ⟨trivial, ⟨B, A, ts, pb, rw, m, hts, h, rfl, fun i hi => ⟨hi, rfl⟩⟩, SameOut.refl _ _⟩
  | .label _, Q, V, U0, L, B, A, ts, pb, rw, a, w, h, m, hts => by
    simp only [ev] at h
    exact wp_label ⟨trivial, ⟨B, A, ts, pb, rw, m, hts, h, rfl, fun i hi => ⟨hi, rfl⟩⟩, SameOut.refl _ _⟩
  | .exit id, Q, V, U0, L, B, A, ts, pb, rw, a, w, h, m, hts => by
    simp only [ev] at h
    exact wp_exit ⟨trivial, ⟨B, A, ts, pb, rw, m, hts, h, rfl, fun i hi => ⟨hi, rfl⟩⟩, SameOut.refl _ _⟩
  | .ret, Q, V, U0, L, B, A, ts, pb, rw, a, w, h, m, hts => by
    simp only [ev] at h
    exact wp_ret ⟨trivial, ⟨B, A, ts, pb, rw, m, hts, h, rfl, fun i hi => ⟨hi, rfl⟩⟩, SameOut.refl _ _⟩
  | .seq x y, Q, V, U0, L, B, A, ts, pb, rw, a, w, h, m, hts => by
    have hwx : ∀ i ∈ writes x, i ∈ writes (.seq x y) := fun i hi => by simp [writes, hi]
    have hwy : ∀ i ∈ writes y, i ∈ writes (.seq x y) := fun i hi => by simp [writes, hi]
    unfold ev at h
    split at h
    · refine wp_seq (wp_mono (ev_ok hT hC hm x h m hts) fun e a1 w1 hq => ?_)
      obtain ⟨he, hn, hso⟩ := hq
      cases e with
      | normal =>
        obtain ⟨B1, A1, ts1, pb1, rw1, m1, hts1, h1, hd, hl⟩ := hn
        refine wp_mono (ev_ok hT hC hm y h1 m1 hts1) fun e a2 w2 hq => ?_
        exact ⟨hq.1, hq.2.1.more hl hd, (hso.mono hwx).trans (hq.2.2.mono hwy)⟩
      | exit i => exact ⟨he, hn, hso.mono hwx⟩
      | ret => exact ⟨he, hn, hso.mono hwx⟩
      | _ => exact he.elim
    · rename_i j hj
      split at h
      · rename_i hok
        obtain ⟨ma, sa⟩ := m.anchor
        have h : ev stdW T C O JC JL x (fun e ts' pb' rw' => match e with
          | .normal => outD j pb ts' pb' rw' fun z => headD j x ts pb z fun ts1 pb1 rw1 => ev stdW T C O JC JL y Q ts1 pb1 rw1
          | .exit i => Q (.exit i) ts' (orW pb pb') rw'
          | .ret => Q .ret ts' (orW pb pb') rw'
          | _ => none) ts (clrB pb) rw = some q := h
        refine wp_seq (wp_mono (ev_ok hT hC hm x h ma (noSub sa hts)) fun e a1 w1 hq => ?_)
        obtain ⟨he, ⟨B1, A1, ts1, pb1, rw1, mx, hx, h1, hd, hl⟩, hso⟩ := hq
        have hl : ∀ i, live pb i → live pb1 i ∧ B1 i = B i := fun i hi => hl i (clrB_live.2 hi)
        have out : ∀ {K : DK β}, K ts1 (orW pb pb1) rw1 = some q → Nx V U0 L B pb a K q a1 w1 := by
          intro K hK
          obtain ⟨mo, so⟩ := m.out2 (fun _ => Iff.rfl) mx fun i hi => (hl i hi).2
          exact ⟨B1, A1, ts1, _, rw1, mo, noSub so hx, hK, hd, fun i hi => ⟨orW_live.2 (hl i hi).1, (hl i hi).2⟩⟩
        cases e with
        | normal =>
          obtain ⟨z, hk, hh⟩ := join_ok m hts hok (fun _ => Iff.rfl) mx hx hso hl h1
          obtain ⟨A2, ts2, pb2, rw2, m2, hts2, h2, g1, g2⟩ := hh hk
          refine wp_mono (ev_ok hT hC hm y h2 m2 hts2) fun e a2 w2 hq => ?_
          exact ⟨hq.1, hq.2.1.more (fun i hi => ⟨(g1 i).2 hi, g2 i hi⟩) hd, (hso.mono hwx).trans (hq.2.2.mono hwy)⟩
        | exit i => exact ⟨he, out h1, hso.mono hwx⟩
        | ret => exact ⟨he, out h1, hso.mono hwx⟩
        | _ => exact he.elim
      · cases h
  | .cond c x y, Q, V, U0, L, B, A, ts, pb, rw, a, w, h, m, hts => by
    have hwx : ∀ i ∈ writes x, i ∈ writes (.cond c x y) := fun i hi => by simp [writes, hi]
    have hwy : ∀ i ∈ writes y, i ∈ writes (.cond c x y) := fun i hi => by simp [writes, hi]
    unfold ev at h
    split at h
    · rename_i hc
      have hc := opV_h hc hts
      simp only [DV.h] at hc
      exact wp_cond_true hc (wp_mono (ev_ok hT hC hm x h m hts) fun e a1 w1 hq => ⟨hq.1, hq.2.1, hq.2.2.mono hwx⟩)
    · rename_i hc
      have hc := opV_h hc hts
      simp only [DV.h] at hc
      exact wp_cond_false hc (wp_mono (ev_ok hT hC hm y h m hts) fun e a1 w1 hq => ⟨hq.1, hq.2.1, hq.2.2.mono hwy⟩)
    · rename_i b hc
      have hc := opV_h hc hts
      simp only [DV.h] at hc
      rcases cnd_s h with ⟨rfl, h⟩ | ⟨rfl, h⟩
      · exact wp_cond_true hc (wp_mono (ev_ok hT hC hm x h m hts) fun e a1 w1 hq => ⟨hq.1, hq.2.1, hq.2.2.mono hwx⟩)
      · exact wp_cond_false hc (wp_mono (ev_ok hT hC hm y h m hts) fun e a1 w1 hq => ⟨hq.1, hq.2.1, hq.2.2.mono hwy⟩)
    · cases h
  | .block id x, Q, V, U0, L, B, A, ts, pb, rw, a, w, h, m, hts => by
    simp only [ev] at h
    refine wp_block (wp_mono (ev_ok hT hC hm x h m hts) fun e a1 w1 hq => ?_)
    obtain ⟨he, hn, hso⟩ := hq
    cases e with
    | normal => exact ⟨he, hn, hso⟩
    | ret => exact ⟨he, hn, hso⟩
    | exit i =>
      unfold Exit.inBlock
      obtain ⟨B1, A1, ts1, pb1, rw1, m1, hts1, h1, hd, hl⟩ := hn
      by_cases hi : i = id
      · subst hi
        simp only [if_true]
        simp only [show Nat.beq i i = true from Nat.beq_refl i] at h1
        exact ⟨trivial, ⟨B1, A1, ts1, pb1, rw1, m1, hts1, h1, hd, hl⟩, hso⟩
      · simp only [hi, if_false]
        simp only [show Nat.beq i id = false from by cases hb : Nat.beq i id with | false => rfl | true => exact absurd (Nat.eq_of_beq_eq_true hb) hi] at h1
        exact ⟨trivial, ⟨B1, A1, ts1, pb1, rw1, m1, hts1, h1, hd, hl⟩, hso⟩
    | _ => exact he.elim
  | .scope x, Q, V, U0, L, B, A, ts, pb, rw, a, w, h, m, hts => by
    simp only [ev] at h
    refine wp_scope_straight (wp_mono (ev_ok hT hC hm x h m hts) fun e a1 w1 hq => ?_)
    cases e with
    | normal => exact hq
    | ret => exact hq
    | exit i => exact hq
    | _ => exact hq.1.elim
  | .region id ops draw, Q, V, U0, L, B, A, ts, pb, rw, a, w, h, m, hts => by
    unfold ev at h
    cases draw with
    | false => exact wp_region_list (evList_ok (al := fun _ => true) hT hC ops.toList h m hts fun a' w' hn hso => ⟨trivial, hn.nx, hso⟩)
    | true => exact drawD_ok hT hC hm h m hts fun a' w' hn hso => ⟨trivial, hn, hso⟩
  | .loop x, Q, V, U0, L, B, A, ts, pb, rw, a, w, h, m, hts => by
    unfold ev at h
    split at h
    · cases h
    · rename_i j hj
      split at h
      · rename_i hok
        obtain ⟨ma, sa⟩ := m.anchor
        have hok1 : okJ j x ts (clrB pb) = true := by rw [okJ_clr]; exact hok
        have hLx : ∀ b, Ow B A pb rw b ↔ Ow B A (clrB pb) rw b := fun b => ⟨fun ⟨k, i, h⟩ => ⟨k, i, (blk_live fun i => clrB_live).2 h⟩, fun ⟨k, i, h⟩ => ⟨k, i, (blk_live fun i => clrB_live).1 h⟩⟩
        have htsa := noSub sa hts
        rw [← outD_clr] at h
        obtain ⟨z0, h, hh0⟩ := join_ok ma htsa hok1 hLx ma htsa (SameOut.refl _ _) (fun i hi => ⟨hi, rfl⟩) h
        have h : loopF FU (fun z again => headD j x ts (clrB pb) z fun ts1 pb1 rw1 =>
          ev stdW T C O JC JL x (fun e ts' pb' rw' => match e with
            | .normal => outD j pb ts' pb' rw' again
            | .exit i => Q (.exit i) ts' (orW pb pb') rw'
            | .ret => Q .ret ts' (orW pb pb') rw'
            | _ => none) ts1 pb1 rw1) z0 = some q := h
        generalize FU = N at h
        refine wp_loop_ghost (fun n a1 w1 => ∃ z B1, loopF n (fun z again => headD j x ts (clrB pb) z fun ts1 pb1 rw1 =>
          ev stdW T C O JC JL x (fun e ts' pb' rw' => match e with
            | .normal => outD j pb ts' pb' rw' again
            | .exit i => Q (.exit i) ts' (orW pb pb') rw'
            | .ret => Q .ret ts' (orW pb pb') rw'
            | _ => none) ts1 pb1 rw1) z = some q ∧ SameOut (writes x) a a1 ∧ a1.defers = a.defers ∧
          ∀ {K : DK β}, headD j x ts (clrB pb) z K = some q → ∃ A2 ts1 pb1 rw1, Mem w U0 (Ow B A pb rw) B1 A2 pb1 rw1 w1 ∧ hL (env U0 B1 A2 pb1 rw1 w1) ts1 a1.tmps.toList ∧ K ts1 pb1 rw1 = some q ∧ (∀ i, live pb1 i ↔ live (clrB pb) i) ∧ ∀ i, live (clrB pb) i → B1 i = B i) N ⟨z0, B, h, SameOut.refl _ _, rfl, fun h => hh0 h⟩ ?_
        rintro n a1 w1 ⟨z, B1, hn, hso, hd, hh⟩
        cases n with
        | zero => cases hn
        | succ n =>
          simp only [loopF] at hn
          obtain ⟨A2, ts1, pb1, rw1, m1, hts1, h1, hl1, hB1⟩ := hh hn
          refine wp_mono (ev_ok hT hC hm x h1 m1 hts1) fun e a2 w2 hq => ?_
          obtain ⟨he, ⟨B2, A3, ts2, pb2, rw2, mx, hx, h2, hd2, hl2⟩, hso2⟩ := hq
          have hl : ∀ i, live (clrB pb) i → live pb2 i ∧ B2 i = B i := fun i hi => let ⟨g1, g2⟩ := hl2 i ((hl1 i).2 hi); ⟨g1, g2.trans (hB1 i hi)⟩
          have hl' : ∀ i, live pb i → live pb2 i ∧ B2 i = B i := fun i hi => hl i (clrB_live.2 hi)
          have out : ∀ {K : DK β}, K ts2 (orW pb pb2) rw2 = some q → Nx V U0 L B pb a K q a2 w2 := by
            intro K hK
            obtain ⟨mo, so⟩ := m.out2 (fun _ => Iff.rfl) mx fun i hi => (hl' i hi).2
            exact ⟨B2, A3, ts2, _, rw2, mo, noSub so hx, hK, hd2.trans hd, fun i hi => ⟨orW_live.2 (hl' i hi).1, (hl' i hi).2⟩⟩
          cases e with
          | normal =>
            have h2 : outD j pb ts2 pb2 rw2 _ = some q := h2
            rw [← outD_clr] at h2
            obtain ⟨z2, hk, hh2⟩ := join_ok ma htsa hok1 hLx mx hx (hso.trans hso2) hl h2
            exact ⟨n, Nat.lt_succ_self n, z2, B2, hk, hso.trans hso2, hd2.trans hd, fun h => hh2 h⟩
          | exit i => exact ⟨he, out h2, hso.trans hso2⟩
          | ret => exact ⟨he, out h2, hso.trans hso2⟩
          | _ => exact he.elim
      · cases h
  | .goto _, Q, V, U0, L, B, A, ts, pb, rw, a, w, h, m, hts => by simp only [ev] at h; cases h
end
end Go.Vc

namespace Go.Vc
open Go Go.RowKit
/-! ### Functions -/
section
variable {β : Type} {q : β}
mutual
theorem QT.x_s {am : List (Nat × Nat)} {E : Env} : (Q : QT) → (p : DV) → (m : MS) → (rw0 : List DR) → (y : Q.den) → (mF : MS) → Q.x am p m = some (y, mF) → MI E m rw0 →
    MI E mF (Q.mk y rw0).2 ∧ (∃ a, mF.rs = m.rs ++ a) ∧ ∀ E0 v rsF, (∃ a, rsF = mF.rs ++ a) → TrI am rsF E E0 → p.h E v → (Q.mk y rw0).1.h E0 v
  | .v t, p, m, rw0, y, mF, h, hm => by
    simp only [QT.x] at h
    split at h
    · rename_i x hx
      simp only [Option.some.injEq, Prod.mk.injEq] at h
      obtain ⟨rfl, rfl⟩ := h
      exact ⟨hm, ⟨[], by simp⟩, fun E0 v rsF _ s hp => t.val_h (DT.hv_mono s.sl (DT.ofV_h hx hp))⟩
    · cases h
  | .own e t, p, m, rw0, y, mF, h, hm => by
    simp only [QT.x] at h
    split at h
    · rename_i j
      split at h
      · rename_i e' t' xs hj
        rw [drV_spec] at hj
        split at h
        · rename_i hh he hs
          simp only [Option.some.injEq, Prod.mk.injEq] at h
          obtain ⟨rfl, rfl⟩ := h
          have he := Nat.eq_of_beq_eq_true he
          subst he hh
          obtain ⟨hm', hE⟩ := hm.take hj
          refine ⟨hm', ⟨_, rfl⟩, fun E0 v rsF ⟨a, ha⟩ s hp => ?_⟩
          have hn : rsF[rw0.length]? = some (some j) := by rw [ha]; simp [← hm.len]
          obtain ⟨g1, g2⟩ := s.row _ _ _ _ _ hn hE
          simp only [DV.h] at hp
          obtain ⟨e2, t2, l2, hj2, rfl⟩ := hp
          rw [hE] at hj2; simp only [Option.some.injEq, DR.own.injEq] at hj2
          obtain ⟨rfl, rfl, hl2⟩ := hj2
          cases hl2
          simp only [QT.mk, DV.h]
          exact ⟨_, _, _, g1, by rw [g2]⟩
        · cases h
      · cases h
    · simp only [Option.some.injEq, Prod.mk.injEq] at h
      obtain ⟨rfl, rfl⟩ := h
      refine ⟨hm.emp e t, ⟨_, rfl⟩, fun E0 v rsF ⟨a, ha⟩ s hp => ?_⟩
      have hn : rsF[rw0.length]? = some none := by rw [ha]; simp [← hm.len]
      obtain ⟨⟨e1, t1, g1⟩, g2⟩ := s.nil _ hn
      simp only [DV.h] at hp
      subst hp
      simp only [QT.mk, DV.h]
      exact ⟨_, _, _, g1, by rw [g2]; rfl⟩
    · cases h
  | .ptr n, p, m, rw0, y, mF, h, hm => by
    simp only [QT.x] at h
    split at h
    · rename_i i o
      split at h
      · rename_i i' hl
        split at h
        · rename_i hb
          have hb := Nat.eq_of_beq_eq_true hb
          subst hb
          simp only [Option.some.injEq, Prod.mk.injEq] at h
          obtain ⟨_, rfl⟩ := h
          refine ⟨hm, ⟨[], by simp⟩, fun E0 v rsF _ s hp => ?_⟩
          simp only [DV.h] at hp
          obtain ⟨g1, rfl⟩ := hp
          obtain ⟨g2, g3⟩ := s.bx _ _ hl g1
          simp only [QT.mk, DV.h]
          exact ⟨g2, by rw [g3]⟩
        · cases h
      · cases h
    · cases h
  | .unit, p, m, rw0, y, mF, h, hm => by
    simp only [QT.x] at h
    split at h
    · simp only [Option.some.injEq, Prod.mk.injEq] at h
      obtain ⟨_, rfl⟩ := h
      refine ⟨hm, ⟨[], by simp⟩, fun E0 v rsF _ s hp => ?_⟩
      simp only [DV.h, hL] at hp
      obtain ⟨vs, rfl, hp⟩ := hp
      simp only [QT.mk, DV.h, hL]
      exact ⟨vs, rfl, hp⟩
    · cases h
  | .pair a b, p, m, rw0, y, mF, h, hm => by
    simp only [QT.x] at h
    split at h
    · rename_i p ps
      split at h
      · rename_i x m1 hx
        split at h
        · rename_i y2 m2 hy
          simp only [Option.some.injEq, Prod.mk.injEq] at h
          obtain ⟨rfl, rfl⟩ := h
          obtain ⟨h1, ⟨a1, h2⟩, h3⟩ := QT.x_s a p m rw0 x m1 hx hm
          obtain ⟨k1, ⟨a2, k2⟩, k3⟩ := QT.xs_s b ps m1 _ y2 m2 hy h1
          refine ⟨k1, ⟨a1 ++ a2, by rw [k2, h2, List.append_assoc]⟩, fun E0 v rsF ⟨c, hc⟩ s hp => ?_⟩
          simp only [DV.h, hL] at hp
          obtain ⟨vs, rfl, u, us, hv, hp1, hp2⟩ := hp
          simp only [QT.mk, DV.h, hL]
          exact ⟨vs, rfl, u, us, hv, h3 E0 u rsF ⟨a2 ++ c, by rw [hc, k2, List.append_assoc]⟩ s hp1, k3 E0 us rsF ⟨c, hc⟩ s hp2⟩
        · cases h
      · cases h
    · cases h
theorem QT.xs_s {am : List (Nat × Nat)} {E : Env} : (Q : QT) → (ps : List DV) → (m : MS) → (rw0 : List DR) → (y : Q.den) → (mF : MS) → Q.xs am ps m = some (y, mF) → MI E m rw0 →
    MI E mF (Q.mks y rw0).2 ∧ (∃ a, mF.rs = m.rs ++ a) ∧ ∀ E0 vs rsF, (∃ a, rsF = mF.rs ++ a) → TrI am rsF E E0 → hL E ps vs → hL E0 (Q.mks y rw0).1 vs
  | .unit, ps, m, rw0, y, mF, h, hm => by
    simp only [QT.xs] at h
    split at h
    · simp only [Option.some.injEq, Prod.mk.injEq] at h
      obtain ⟨_, rfl⟩ := h
      exact ⟨hm, ⟨[], by simp⟩, fun E0 vs rsF _ s hp => by simpa only [QT.mks, hL] using hp⟩
    · cases h
  | .pair a b, ps, m, rw0, y, mF, h, hm => by
    simp only [QT.xs] at h
    split at h
    · rename_i p ps
      split at h
      · rename_i x m1 hx
        split at h
        · rename_i y2 m2 hy
          simp only [Option.some.injEq, Prod.mk.injEq] at h
          obtain ⟨rfl, rfl⟩ := h
          obtain ⟨h1, ⟨a1, h2⟩, h3⟩ := QT.x_s a p m rw0 x m1 hx hm
          obtain ⟨k1, ⟨a2, k2⟩, k3⟩ := QT.xs_s b ps m1 _ y2 m2 hy h1
          refine ⟨k1, ⟨a1 ++ a2, by rw [k2, h2, List.append_assoc]⟩, fun E0 v rsF ⟨c, hc⟩ s hp => ?_⟩
          simp only [hL] at hp
          obtain ⟨u, us, hv, hp1, hp2⟩ := hp
          simp only [QT.mks, hL]
          exact ⟨u, us, hv, h3 E0 u rsF ⟨a2 ++ c, by rw [hc, k2, List.append_assoc]⟩ s hp1, k3 E0 us rsF ⟨c, hc⟩ s hp2⟩
        · cases h
      · cases h
    · cases h
  | .v _, ps, m, rw0, y, mF, h, _ => by simp [QT.xs] at h
  | .own _ _, ps, m, rw0, y, mF, h, _ => by simp [QT.xs] at h
  | .ptr _, ps, m, rw0, y, mF, h, _ => by simp [QT.xs] at h
end
theorem selfA_s {am : List (Nat × Nat)} : ∀ {n : Nat}, selfA am n = true → ∀ {k : Nat}, k < n → lkA am k = some k
  | 0, _, k, hk => by omega
  | n + 1, h, k, hk => by
    simp only [selfA, Bool.and_eq_true] at h
    by_cases hkn : k = n
    · subst hkn
      have h1 := h.1
      split at h1
      · rename_i i hi; rw [hi, Nat.eq_of_beq_eq_true h1]
      · cases h1
    · exact selfA_s h.2 (by omega)
end
end Go.Vc
