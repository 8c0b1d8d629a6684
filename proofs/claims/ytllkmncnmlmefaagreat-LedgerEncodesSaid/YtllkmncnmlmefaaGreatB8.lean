import Derived.Test.YtllkmncnmlmefaaGreatB7
namespace Go.Proofs.YtllkmncnmlmefaaGreat
open Go Go.Vc Go.RowKit
set_option synthInstance.maxSize 100000
set_option synthInstance.maxHeartbeats 0
/-! ### which states may be: the document's answer -/
theorem rf_has {s : AState'} (L : LenS s 1000) (u : AUnit') : ref33_Has s u = some (hasS s u) := r_has33 L.ac fun a ha => L.acm a ha
theorem rf_inst {s : AState'} (L : LenS s 1000) (id : Int) : ref33_inst s id = some (instS s id) := by
  show ref33_instW stdW s id = _
  unfold ref33_instW
  obtain ⟨x, hx⟩ := r_find13 (l := s.2.2.1) (id := id) (by have := L.i; omega)
  exact call_eq hx _
theorem rf_tables {s : AState'} (L : LenS s 1000) : ref33_tables s = some (allL s.2.1 (pM s) && (allL s.2.2.1 (pI s) && (allL s.2.2.2.1 (pA s) && (allL s.2.2.2.2.1 (pAc s) && (allL s.2.2.2.2.2.1 (pCh s) && allL s.2.2.2.2.2.1 (chP s.2.2.2.2.2.1)))))) := by
  show ref33_tablesW stdW s = _
  unfold ref33_tablesW
  refine (loop_all (l := s.2.1) (by have := L.m; omega) (fun i => ((i : Int), ())) (pM s) (no := some false) rfl (fun again => cnd_end _ _) (fun i hi again => ?_)).trans (bif_and ?_)
  · show stdW.cnd (decide ((i : Int) < (s.2.1.length : Int))) _ _ = _
    have hl := L.m
    rw [cnd_lt hi]
    refine join_g fun k hk => ?_
    have k1 : k (true, ()) = some false := by subst hk; rfl
    have k2 : k (false, ()) = again (((i + 1 : Nat) : Int), ()) := by rw [← i64_s i (by omega)]; subst hk; rfl
    clear hk
    show stdW.idx s.2.1 (i : Int) _ = _
    rw [idx_w hi]
    refine (call_eq (r_is14 _) _).trans ?_
    unfold pM
    by_cases h2 : okM1 s.2.1[i]
    · rw [decide_eq_true h2]
      refine (cnd_n rfl _ _).trans ?_
      exact (ordR hi (by omega) (fun a : AMember' => a.1) k).trans (k_fin k1 k2 _)
    · rw [decide_eq_false h2]
      exact (cnd_y rfl _ _).trans ((all4 _).trans k1)
  refine (loop_all (l := s.2.2.1) (by have := L.i; omega) (fun i => ((i : Int), ())) (pI s) (no := some false) rfl (fun again => cnd_end _ _) (fun i hi again => ?_)).trans (bif_and ?_)
  · show stdW.cnd (decide ((i : Int) < (s.2.2.1.length : Int))) _ _ = _
    have hl := L.i
    rw [cnd_lt hi]
    refine join_g fun k hk => ?_
    have k1 : k (true, ()) = some false := by subst hk; rfl
    have k2 : k (false, ()) = again (((i + 1 : Nat) : Int), ()) := by rw [← i64_s i (by omega)]; subst hk; rfl
    clear hk
    show stdW.idx s.2.2.1 (i : Int) _ = _
    rw [idx_w hi]
    refine (call_eq (r_is13 (by have := L.im _ (List.getElem_mem hi); omega)) _).trans ?_
    unfold pI
    cases h2 : okJ s.2.2.1[i] with
    | true =>
      refine (cnd_n rfl _ _).trans ?_
      exact (ordR hi (by omega) (fun a : AInst' => a.1) k).trans (k_fin k1 k2 _)
    | false => exact (cnd_y rfl _ _).trans ((all4 _).trans k1)
  refine (loop_all (l := s.2.2.2.1) (by have := L.a; omega) (fun i => ((i : Int), ())) (pA s) (no := some false) rfl (fun again => cnd_end _ _) (fun i hi again => ?_)).trans (bif_and ?_)
  · show stdW.cnd (decide ((i : Int) < (s.2.2.2.1.length : Int))) _ _ = _
    have hl := L.a
    rw [cnd_lt hi]
    refine join_g fun k hk => ?_
    have k1 : k (true, ()) = some false := by subst hk; rfl
    have k2 : k (false, ()) = again (((i + 1 : Nat) : Int), ()) := by rw [← i64_s i (by omega)]; subst hk; rfl
    clear hk
    show stdW.idx s.2.2.2.1 (i : Int) _ = _
    rw [idx_w hi]
    refine (call_eq (r_is12b _) _).trans ?_
    unfold pA
    by_cases h2 : okA1 s.2.2.2.1[i]
    · rw [decide_eq_true h2]
      refine (cnd_n rfl _ _).trans ?_
      exact (ordR hi (by omega) (fun a : ALot' => a.1) k).trans (k_fin k1 k2 _)
    · rw [decide_eq_false h2]
      exact (cnd_y rfl _ _).trans ((all4 _).trans k1)
  refine (loop_all (l := s.2.2.2.2.1) (by have := L.ac; omega) (fun i => ((i : Int), ())) (pAc s) (no := some false) rfl (fun again => cnd_end _ _) (fun i hi again => ?_)).trans (bif_and ?_)
  · show stdW.cnd (decide ((i : Int) < (s.2.2.2.2.1.length : Int))) _ _ = _
    have hl := L.ac
    rw [cnd_lt hi]
    refine join_g fun k50 hk50 => ?_
    have kk : ∀ c, k50 (c, ()) = bif (c && (okA s.2.2.2.2.1[i] && ordB (·.1) s.2.2.2.2.1 i s.2.2.2.2.1[i])) then again (((i + 1 : Nat) : Int), ()) else some false := by
      intro c
      subst hk50
      show stdW.join _ _ = _
      refine join_g fun k hk => ?_
      have k1 : k (true, ()) = some false := by subst hk; rfl
      have k2 : k (false, ()) = again (((i + 1 : Nat) : Int), ()) := by rw [← i64_s i (by omega)]; subst hk; rfl
      clear hk
      cases c with
      | false => exact (cnd_y rfl _ _).trans ((all4 _).trans k1)
      | true =>
        refine (cnd_n rfl _ _).trans ?_
        show stdW.idx s.2.2.2.2.1 (i : Int) _ = _
        rw [idx_w hi]
        refine (call_eq (r_is15b (by have := L.acm _ (List.getElem_mem hi); omega)) _).trans ?_
        cases h2 : okA s.2.2.2.2.1[i] with
        | false => exact (cnd_y rfl _ _).trans ((all4 _).trans k1)
        | true =>
          refine (cnd_n rfl _ _).trans ?_
          exact (ordR hi (by omega) (fun a : AAccount' => a.1) k).trans (k_fin k1 k2 _)
    clear hk50
    show stdW.idx s.2.2.2.2.1 (i : Int) _ = _
    rw [idx_w hi, two_w]
    obtain ⟨x, hx⟩ := r_find14 (l := s.2.1) (id := s.2.2.2.2.1[i].2.1) (by have := L.m; omega)
    exact (call_eq hx _).trans (kk _)
  refine (loop_all (l := s.2.2.2.2.2.1) (by have := L.c; omega) (fun i => ((i : Int), ())) (pCh s) (no := some false) rfl (fun again => cnd_end _ _) (fun i hi again => ?_)).trans (bif_and (call_eq (r_is16 (by have := L.c; show s.2.2.2.2.2.1.length ≤ _; omega)) _))
  show stdW.cnd (decide ((i : Int) < (s.2.2.2.2.2.1.length : Int))) _ _ = _
  have hl := L.c
  rw [cnd_lt hi]
  refine join_g fun k hk => ?_
  have k1 : k (true, ()) = some false := by subst hk; rfl
  have k2 : k (false, ()) = again (((i + 1 : Nat) : Int), ()) := by rw [← i64_s i (by omega)]; subst hk; rfl
  clear hk
  show stdW.idx s.2.2.2.2.2.1 (i : Int) _ = _
  rw [idx_w hi]
  refine (call_eq (rf_has L _) _).trans ?_
  unfold pCh
  cases hasS s s.2.2.2.2.2.1[i].1 with
  | false => exact (cnd_y rfl _ _).trans ((both_of rfl (two_w _)).trans k1)
  | true =>
    refine (cnd_n rfl _ _).trans ?_
    show stdW.both (stdW.idx s.2.2.2.2.2.1 (i : Int) _) (stdW.idx s.2.2.2.2.2.1 (i : Int) _) = _
    rw [idx_w hi, idx_w hi, two_w]
    exact both_of ((call_eq (rf_has L _) _).trans (k_fin k1 k2 _)) ((call_eq (rf_has L _) _).trans (k_fin k1 k2 _))
theorem rf_deals {s : AState'} (L : LenS s 1000) : ref33_deals s = some ((decide ((s.2.2.2.2.2.2.1.length : Int) ≤ 64) && decide ((s.2.2.2.2.2.2.2.1.length : Int) ≤ 64)) && (allL s.2.2.2.2.2.2.1 (pG s) && allL s.2.2.2.2.2.2.2.1 (pV s))) := by
  show ref33_dealsW stdW s = _
  unfold ref33_dealsW
  refine join_g fun k19 hk19 => ?_
  have kt : k19 (true, ()) = some false := by subst hk19; rfl
  have kf : k19 (false, ()) = some (allL s.2.2.2.2.2.2.1 (pG s) && allL s.2.2.2.2.2.2.2.1 (pV s)) := by
    subst hk19
    refine (cnd_n (c := false) rfl _ _).trans ?_
    refine (loop_all (l := s.2.2.2.2.2.2.1) (by have := L.g; omega) (fun i => ((i : Int), ())) (pG s) (no := some false) rfl (fun again => cnd_end _ _) (fun i hi again => ?_)).trans (bif_and ?_)
    · show stdW.cnd (decide ((i : Int) < (s.2.2.2.2.2.2.1.length : Int))) (stdW.idx s.2.2.2.2.2.2.1 (i : Int) _) _ = _
      have hl := L.g
      rw [cnd_lt hi, idx_w hi]
      refine join_g fun k hk => ?_
      have k1 : k (true, ()) = some false := by subst hk; rfl
      have k2 : k (false, ()) = again (((i + 1 : Nat) : Int), ()) := by rw [← i64_s i (by omega)]; subst hk; rfl
      clear hk
      show stdW.cnd (s.2.2.2.2.2.2.1[i].1 != IntKind.i64.wrap ((i : Int) + 1)) _ _ = _
      rw [i64_s i (by omega)]
      unfold pG
      cases h1 : (s.2.2.2.2.2.2.1[i].1 == ((i + 1 : Nat) : Int)) with
      | false => exact (cnd_y (by rw [bne, h1]; rfl) _ _).trans k1
      | true =>
        refine (cnd_n (by rw [bne, h1]; rfl) _ _).trans ((call_eq (rf_has L _) _).trans ?_)
        cases hasS s s.2.2.2.2.2.2.1[i].2.1 with
        | false => exact (cnd_y rfl _ _).trans k1
        | true =>
          refine (cnd_n rfl _ _).trans ((call_eq (rf_inst L _) _).trans ?_)
          cases instS s s.2.2.2.2.2.2.1[i].2.2.1 with
          | false => exact (cnd_y rfl _ _).trans k1
          | true =>
            refine (cnd_n rfl _ _).trans ?_
            show stdW.cnd (decide (s.2.2.2.2.2.2.1[i].2.2.2.1 < 0)) _ _ = bif (prB s.2.2.2.2.2.2.1[i].2.2.2.1 && fwB s.2.2.2.2.2.2.1[i].2.2.2.2.1) then _ else _
            unfold prB fwB
            by_cases g1 : s.2.2.2.2.2.2.1[i].2.2.2.1 < 0
            · rw [cnd_y (decide_eq_true g1), decide_eq_false (p := _ ∧ _) (by omega), Bool.false_and]; exact k1
            rw [cnd_n (decide_eq_false g1)]
            by_cases g2 : 2147483647 < s.2.2.2.2.2.2.1[i].2.2.2.1
            · rw [cnd_y (decide_eq_true g2), decide_eq_false (p := 0 ≤ _ ∧ _) (by omega), Bool.false_and]; exact k1
            rw [cnd_n (decide_eq_false g2), decide_eq_true (p := 0 ≤ s.2.2.2.2.2.2.1[i].2.2.2.1 ∧ s.2.2.2.2.2.2.1[i].2.2.2.1 ≤ 2147483647) (by omega), Bool.true_and]
            by_cases g3 : s.2.2.2.2.2.2.1[i].2.2.2.2.1 < -1099511627776
            · rw [cnd_y (decide_eq_true g3), decide_eq_false (p := _ ∧ _) (by omega)]; exact k1
            rw [cnd_n (decide_eq_false g3)]
            by_cases g4 : 1099511627776 < s.2.2.2.2.2.2.1[i].2.2.2.2.1
            · rw [decide_eq_true g4, decide_eq_false (p := _ ∧ _) (by omega)]; exact k1
            · rw [decide_eq_false g4, decide_eq_true (p := _ ∧ _) (by omega)]; exact k2
    refine (loop_all (l := s.2.2.2.2.2.2.2.1) (by have := L.v; omega) (fun i => ((i : Int), ())) (pV s) (r := some true) (no := some false) rfl (fun again => cnd_end _ _) (fun i hi again => ?_)).trans (by cases allL s.2.2.2.2.2.2.2.1 (pV s) <;> rfl)
    show stdW.cnd (decide ((i : Int) < (s.2.2.2.2.2.2.2.1.length : Int))) (stdW.idx s.2.2.2.2.2.2.2.1 (i : Int) _) _ = _
    have hl := L.v
    rw [cnd_lt hi, idx_w hi]
    refine join_g fun k hk => ?_
    have k1 : k (true, ()) = some false := by subst hk; exact cnd_y rfl _ _
    have k2 : k (false, ()) = bif (prB s.2.2.2.2.2.2.2.1[i].2.2.2.2.1 && pV2 s s.2.2.2.2.2.2.2.1[i]) then again (((i + 1 : Nat) : Int), ()) else some false := by
      subst hk
      refine (cnd_n (c := false) rfl _ _).trans ?_
      refine join_g fun k hk => ?_
      have k1 : k (true, ()) = some false := by subst hk; rfl
      have k2 : k (false, ()) = again (((i + 1 : Nat) : Int), ()) := by rw [← i64_s i (by omega)]; subst hk; rfl
      clear hk
      show stdW.cnd (decide (s.2.2.2.2.2.2.2.1[i].2.2.2.2.1 < 0)) _ _ = _
      unfold prB
      by_cases g1 : s.2.2.2.2.2.2.2.1[i].2.2.2.2.1 < 0
      · rw [cnd_y (decide_eq_true g1), decide_eq_false (p := _ ∧ _) (by omega), Bool.false_and]; exact k1
      rw [cnd_n (decide_eq_false g1)]
      by_cases g2 : 2147483647 < s.2.2.2.2.2.2.2.1[i].2.2.2.2.1
      · rw [cnd_y (decide_eq_true g2), decide_eq_false (p := _ ∧ _) (by omega), Bool.false_and]; exact k1
      rw [cnd_n (decide_eq_false g2), decide_eq_true (p := _ ∧ _) (by omega), Bool.true_and]
      exact pv2_steps k1 k2 s _
    clear hk
    show stdW.cnd (s.2.2.2.2.2.2.2.1[i].1 != IntKind.i64.wrap ((i : Int) + 1)) _ _ = _
    rw [i64_s i (by omega)]
    unfold pV
    cases h1 : (s.2.2.2.2.2.2.2.1[i].1 == ((i + 1 : Nat) : Int)) with
    | false => exact (cnd_y (by rw [bne, h1]; rfl) _ _).trans k1
    | true =>
      refine (cnd_n (by rw [bne, h1]; rfl) _ _).trans ((call_eq (rf_has L _) _).trans ?_)
      unfold pV1
      cases hasS s s.2.2.2.2.2.2.2.1[i].2.1 with
      | false => exact (cnd_y rfl _ _).trans k1
      | true =>
        refine (cnd_n rfl _ _).trans ((call_eq (rf_has L _) _).trans ?_)
        cases hasS s s.2.2.2.2.2.2.2.1[i].2.2.1 with
        | false => exact (cnd_y rfl _ _).trans k1
        | true =>
          refine (cnd_n rfl _ _).trans ?_
          show stdW.cnd (notIf false ((s.2.2.2.2.2.2.2.1[i].2.1.1 == s.2.2.2.2.2.2.2.1[i].2.2.1.1) && (s.2.2.2.2.2.2.2.1[i].2.1.2.1 == s.2.2.2.2.2.2.2.1[i].2.2.1.2.1))) _ _ = _
          rw [eqUL2]
          cases decide (s.2.2.2.2.2.2.2.1[i].2.1 = s.2.2.2.2.2.2.2.1[i].2.2.1) with
          | true => exact (cnd_y rfl _ _).trans k1
          | false =>
            refine (cnd_n rfl _ _).trans ((call_eq (rf_inst L _) _).trans ?_)
            cases instS s s.2.2.2.2.2.2.2.1[i].2.2.2.1.1 with
            | false => exact (cnd_y rfl _ _).trans k1
            | true =>
              refine (cnd_n rfl _ _).trans ?_
              unfold pV3
              cases h2 : (s.2.2.2.2.2.2.2.1[i].2.2.2.1.2.1 == 0) with
              | true => exact (cnd_y rfl _ _).trans k1
              | false =>
                refine (cnd_n rfl _ _).trans ?_
                show stdW.cnd (decide (s.2.2.2.2.2.2.2.1[i].2.2.2.1.2.1 < -1099511627776)) _ _ = bif (fwB s.2.2.2.2.2.2.2.1[i].2.2.2.1.2.1 && (prB s.2.2.2.2.2.2.2.1[i].2.2.2.2.1 && pV2 s s.2.2.2.2.2.2.2.1[i])) then _ else _
                unfold fwB
                by_cases g3 : s.2.2.2.2.2.2.2.1[i].2.2.2.1.2.1 < -1099511627776
                · rw [cnd_y (decide_eq_true g3), decide_eq_false (p := _ ∧ _) (by omega)]; exact k1
                rw [cnd_n (decide_eq_false g3)]
                by_cases g4 : 1099511627776 < s.2.2.2.2.2.2.2.1[i].2.2.2.1.2.1
                · rw [decide_eq_true g4, decide_eq_false (p := _ ∧ _) (by omega)]; exact k1
                · rw [decide_eq_false g4, decide_eq_true (p := _ ∧ _) (by omega)]; exact k2
  clear hk19
  by_cases h1 : 64 < (s.2.2.2.2.2.2.1.length : Int)
  · rw [cnd_y (decide_eq_true h1), kt, decide_eq_false (p := (s.2.2.2.2.2.2.1.length : Int) ≤ 64) (by omega)]; rfl
  · rw [cnd_n (decide_eq_false h1), decide_eq_true (p := (s.2.2.2.2.2.2.1.length : Int) ≤ 64) (by omega), Bool.true_and]
    by_cases h2 : 64 < (s.2.2.2.2.2.2.2.1.length : Int)
    · rw [decide_eq_true h2, kt, decide_eq_false (p := (s.2.2.2.2.2.2.2.1.length : Int) ≤ 64) (by omega)]; rfl
    · rw [decide_eq_false h2, kf, decide_eq_true (p := (s.2.2.2.2.2.2.2.1.length : Int) ≤ 64) (by omega), Bool.true_and]
end Go.Proofs.YtllkmncnmlmefaaGreat

namespace Go.Proofs.YtllkmncnmlmefaaGreat
open Go Go.Vc Go.RowKit
set_option synthInstance.maxSize 100000
set_option synthInstance.maxHeartbeats 0
/-! ### which states may be: the document's answer, joined -/
theorem rf_book {s : AState'} (L : LenS s 1000) {l : List APos'} (hb : okBk l) : ref33_book s l = some (l.all (pB s) && isB l) := by
  show ref33_bookW stdW s l = _
  unfold ref33_bookW
  have hl := hb.2
  rw [← allL_all]
  refine (loop_all (l := l) (by omega) (fun i => ((i : Int), ())) (fun _ p => pB s p) (no := some false) rfl (fun again => cnd_end _ _) (fun i hi again => ?_)).trans (bif_and (call_eq (r_isB19k hb) _))
  show stdW.cnd (decide ((i : Int) < (l.length : Int))) (stdW.idx l (i : Int) _) _ = _
  rw [cnd_lt hi, idx_w hi]
  refine (call_eq (rf_has L _) _).trans ?_
  unfold pB
  have hm := hb.1 _ (List.getElem_mem hi)
  cases hasS s l[i].1 with
  | false => exact cnd_y rfl _ _
  | true =>
    refine (cnd_n rfl _ _).trans ?_
    rw [Bool.true_and, ← allL_all]
    refine (loop_all (l := l[i].2.1) (by omega) (fun j => ((j : Int), ())) (fun _ x => instS s x.1) (r := again (((i + 1 : Nat) : Int), ())) (no := some false) rfl (fun ag => ?_) (fun j hj ag => ?_)).trans rfl
    · show stdW.idx l (i : Int) (fun x7 => stdW.cnd (decide ((l[i].2.1.length : Int) < (x7.2.1.length : Int))) _ (again (IntKind.i64.wrap ((i : Int) + 1), ()))) = _
      rw [idx_w hi, cnd_end, i64_s i (by omega)]
    · show stdW.idx l (i : Int) (fun x7 => stdW.cnd (decide ((j : Int) < (x7.2.1.length : Int))) (stdW.idx l (i : Int) fun x8 => stdW.idx x8.2.1 (j : Int) _) _) = _
      rw [idx_w hi, cnd_lt hj, idx_w hi, idx_w hj]
      refine (call_eq (rf_inst L _) _).trans ?_
      show stdW.cnd (!instS s l[i].2.1[j].1) (some false) (ag (IntKind.i64.wrap ((j : Int) + 1), ())) = _
      rw [i64_s j (by omega)]
      cases instS s l[i].2.1[j].1 <;> rfl
theorem rf_owner {s : AState'} (L : LenS s 1000) (u : AUnit') : ref33_owner s u = some (ownS s u) := by
  show ref33_ownerW stdW s u = _
  unfold ref33_ownerW ownS
  refine (call_eq (rf_has L _) _).trans ?_
  cases hasS s u with
  | true => exact cnd_y rfl _ _
  | false =>
    refine (cnd_n rfl _ _).trans ?_
    by_cases h1 : u.1 = 0
    · by_cases h2 : u.2.1 = 0
      · rw [cnd_y (by simp [h1, h2, notIf])]; simp [h1, h2]
      · rw [cnd_n (by simp [h2, notIf])]
        by_cases h3 : u.2.1 = 1 <;> simp [h1, h2, h3, notIf]
    · rw [cnd_n (by simp [h1, notIf])]; simp [h1, notIf]
theorem okS_ref (s : AState') : okS33 s = (dayB s && ((allL s.2.1 (pM s) && (allL s.2.2.1 (pI s) && (allL s.2.2.2.1 (pA s) && (allL s.2.2.2.2.1 (pAc s) && (allL s.2.2.2.2.2.1 (pCh s) && allL s.2.2.2.2.2.1 (chP s.2.2.2.2.2.1)))))) &&
    (((decide ((s.2.2.2.2.2.2.1.length : Int) ≤ 64) && decide ((s.2.2.2.2.2.2.2.1.length : Int) ≤ 64)) && (allL s.2.2.2.2.2.2.1 (pG s) && allL s.2.2.2.2.2.2.2.1 (pV s))) && (bokB s s.2.2.2.2.2.2.2.2.1 && (bokB s s.2.2.2.2.2.2.2.2.2.1 && (isP s.2.2.2.2.2.2.2.2.2.2.1 && (isH s.2.2.2.2.2.2.2.2.2.2.2.1 &&
    ((s.2.2.2.2.2.2.2.2.2.2.1.all fun f => ownS s f.1) && s.2.2.2.2.2.2.2.2.2.2.2.1.all (pH s))))))))) := by
  apply Bool.eq_iff_iff.2
  unfold okS33 tabB choB groB givB monB
  simp only [Bool.and_eq_true]
  constructor
  · rintro ⟨d, ⟨m, i, a, ac⟩, ⟨c1, c2⟩, ⟨g1, g2⟩, ⟨v1, v2⟩, b1, b2, p, h, ip, ih⟩
    exact ⟨d, ⟨m, i, a, ac, c1, c2⟩, ⟨⟨g2, v2⟩, g1, v1⟩, b1, b2, ip, ih, p, h⟩
  · rintro ⟨d, ⟨m, i, a, ac, c1, c2⟩, ⟨⟨g2, v2⟩, g1, v1⟩, b1, b2, ip, ih, p, h⟩
    exact ⟨d, ⟨m, i, a, ac⟩, ⟨c1, c2⟩, ⟨g1, g2⟩, ⟨v1, v2⟩, b1, b2, p, h, ip, ih⟩
theorem r_is33 {s : AState'} (L : LenS s 1000) : ref33_Is s = some (okS33 s) := by
  show ref33_IsW stdW s = _
  unfold ref33_IsW
  rw [okS_ref]
  have hp := L.p
  have hh := L.h
  refine join_g fun k hk => ?_
  have k1 : k (true, ()) = some false := by subst hk; exact cnd_y rfl _ _
  have k2 : k (false, ()) = some ((s.2.2.2.2.2.2.2.2.2.2.1.all fun f => ownS s f.1) && s.2.2.2.2.2.2.2.2.2.2.2.1.all (pH s)) := by
    subst hk
    refine (cnd_n (c := false) rfl _ _).trans ?_
    rw [← allL_all (p := fun f : AFlow' => ownS s f.1), ← allL_all (p := pH s)]
    refine (loop_all (l := s.2.2.2.2.2.2.2.2.2.2.1) (by omega) (fun i => ((i : Int), ())) (fun _ f => ownS s f.1) (no := some false) rfl (fun again => cnd_end _ _) (fun i hi again => ?_)).trans (bif_and ?_)
    · show stdW.cnd (decide ((i : Int) < (s.2.2.2.2.2.2.2.2.2.2.1.length : Int))) (stdW.idx s.2.2.2.2.2.2.2.2.2.2.1 (i : Int) _) _ = _
      rw [cnd_lt hi, idx_w hi]
      refine (call_eq (rf_owner L _) _).trans ?_
      show stdW.cnd (!ownS s s.2.2.2.2.2.2.2.2.2.2.1[i].1) (some false) (again (IntKind.i64.wrap ((i : Int) + 1), ())) = _
      rw [i64_s i (by omega)]
      cases ownS s s.2.2.2.2.2.2.2.2.2.2.1[i].1 <;> rfl
    refine (loop_all (l := s.2.2.2.2.2.2.2.2.2.2.2.1) (by omega) (fun i => ((i : Int), ())) (fun _ h => pH s h) (r := some true) (no := some false) rfl (fun again => cnd_end _ _) (fun i hi again => ?_)).trans (by cases allL s.2.2.2.2.2.2.2.2.2.2.2.1 (fun _ h => pH s h) <;> rfl)
    show stdW.cnd (decide ((i : Int) < (s.2.2.2.2.2.2.2.2.2.2.2.1.length : Int))) (stdW.idx s.2.2.2.2.2.2.2.2.2.2.2.1 (i : Int) _) _ = _
    rw [cnd_lt hi, idx_w hi]
    refine (call_eq (rf_owner L _) _).trans ?_
    unfold pH
    have hm := L.hm _ (List.getElem_mem hi)
    cases ownS s s.2.2.2.2.2.2.2.2.2.2.2.1[i].1 with
    | false => exact cnd_y rfl _ _
    | true =>
      refine (cnd_n rfl _ _).trans ?_
      rw [Bool.true_and, ← allL_all]
      refine (loop_all (l := s.2.2.2.2.2.2.2.2.2.2.2.1[i].2.1) (by omega) (fun j => ((j : Int), ())) (fun _ x => asS' s x.1) (r := again (((i + 1 : Nat) : Int), ())) (no := some false) rfl (fun ag => ?_) (fun j hj ag => ?_)).trans rfl
      · show stdW.idx s.2.2.2.2.2.2.2.2.2.2.2.1 (i : Int) (fun x7 => stdW.cnd (decide ((s.2.2.2.2.2.2.2.2.2.2.2.1[i].2.1.length : Int) < (x7.2.1.length : Int))) _ (again (IntKind.i64.wrap ((i : Int) + 1), ()))) = _
        rw [idx_w hi, cnd_end, i64_s i (by omega)]
      · show stdW.idx s.2.2.2.2.2.2.2.2.2.2.2.1 (i : Int) (fun x7 => stdW.cnd (decide ((j : Int) < (x7.2.1.length : Int))) _ _) = _
        rw [idx_w hi, cnd_lt hj]
        refine join_g fun k hk => ?_
        have kk : ∀ c, k (c, ()) = bif c then ag (((j + 1 : Nat) : Int), ()) else some false := by intro c; rw [← i64_s j (by omega)]; subst hk; cases c <;> rfl
        clear hk
        show stdW.idx s.2.2.2.2.2.2.2.2.2.2.2.1 (i : Int) (fun x15 => stdW.idx x15.2.1 (j : Int) _) = _
        rw [idx_w hi, idx_w hj, two_w]
        obtain ⟨x, hx⟩ := r_find12b (l := s.2.2.2.1) (id := s.2.2.2.2.2.2.2.2.2.2.2.1[i].2.1[j].1) (by have := L.a; omega)
        exact (call_eq hx _).trans (kk _)
  clear hk
  have fin : ∀ A : Bool, A = false → k (true, ()) = some (A && ((s.2.2.2.2.2.2.2.2.2.2.1.all fun f => ownS s f.1) && s.2.2.2.2.2.2.2.2.2.2.2.1.all (pH s))) := fun A h => by rw [h]; exact k1
  unfold dayB
  by_cases h1 : s.1 < 0
  · rw [cnd_y (decide_eq_true h1), decide_eq_false (p := 0 ≤ s.1 ∧ s.1 ≤ 1048576) (by omega)]; exact k1
  rw [cnd_n (decide_eq_false h1)]
  by_cases h2 : 1048576 < s.1
  · rw [cnd_y (decide_eq_true h2), decide_eq_false (p := 0 ≤ s.1 ∧ s.1 ≤ 1048576) (by omega)]; exact k1
  rw [cnd_n (decide_eq_false h2), decide_eq_true (p := 0 ≤ s.1 ∧ s.1 ≤ 1048576) (by omega), Bool.true_and]
  refine (call_eq (rf_tables L) _).trans ?_
  generalize (allL s.2.1 (pM s) && (allL s.2.2.1 (pI s) && (allL s.2.2.2.1 (pA s) && (allL s.2.2.2.2.1 (pAc s) && (allL s.2.2.2.2.2.1 (pCh s) && allL s.2.2.2.2.2.1 (chP s.2.2.2.2.2.1)))))) = t1
  cases t1 with
  | false => exact (cnd_y rfl _ _).trans k1
  | true =>
    refine (cnd_n rfl _ _).trans ((call_eq (rf_deals L) _).trans ?_)
    generalize ((decide ((s.2.2.2.2.2.2.1.length : Int) ≤ 64) && decide ((s.2.2.2.2.2.2.2.1.length : Int) ≤ 64)) && (allL s.2.2.2.2.2.2.1 (pG s) && allL s.2.2.2.2.2.2.2.1 (pV s))) = t2
    cases t2 with
    | false => exact (cnd_y rfl _ _).trans k1
    | true =>
      refine (cnd_n rfl _ _).trans ((call_eq (rf_book L L.bk) _).trans ?_)
      show stdW.cnd (!bokB s s.2.2.2.2.2.2.2.2.1) _ _ = _
      cases bokB s s.2.2.2.2.2.2.2.2.1 with
      | false => exact (cnd_y rfl _ _).trans k1
      | true =>
        refine (cnd_n rfl _ _).trans ((call_eq (rf_book L L.sk) _).trans ?_)
        show stdW.cnd (!bokB s s.2.2.2.2.2.2.2.2.2.1) _ _ = _
        cases bokB s s.2.2.2.2.2.2.2.2.2.1 with
        | false => exact (cnd_y rfl _ _).trans k1
        | true =>
          refine (cnd_n rfl _ _).trans ((call_eq (r_is17 (by omega)) _).trans ?_)
          cases isP s.2.2.2.2.2.2.2.2.2.2.1 with
          | false => exact (cnd_y rfl _ _).trans k1
          | true =>
            refine (cnd_n rfl _ _).trans ((call_eq (r_is26k ⟨fun h hh => by have := L.hm h hh; omega, by omega⟩) _).trans ?_)
            cases isH s.2.2.2.2.2.2.2.2.2.2.2.1 with
            | false => exact k1
            | true => exact k2
end Go.Proofs.YtllkmncnmlmefaaGreat

namespace Go.Proofs.YtllkmncnmlmefaaGreat
open Go Go.Vc Go.RowKit
set_option synthInstance.maxSize 100000
set_option synthInstance.maxHeartbeats 0
/-! ### the same as itself -/
theorem s14 {a : List AMember'} (hl : a.length ≤ 1000000) : ref14_Same a a = some true := by
  show ref14_SameW stdW a a = _
  unfold ref14_SameW
  rw [cnd_n (by simp)]
  refine loop_list (l := a) (by omega) (s0 := ()) (fun _ _ => True) (fun _ _ => some true) trivial ?_ ?_
  · rintro _ again _
    rw [cnd_end]
  · rintro i hi _ _ again ha
    rw [cnd_lt hi, idx_w hi, idx_w hi, cnd_n (by simp [notIf])]
    show again (IntKind.i64.wrap ((i : Int) + 1), ()) = _
    rw [i64_s i (by omega)]
    exact ha _ trivial
theorem sNu {a : List Int} (hl : a.length ≤ 1000000) : ref01_SameNumbers a a = some true := by
  show ref01_SameNumbersW stdW a a = _
  unfold ref01_SameNumbersW
  rw [cnd_n (by simp)]
  refine loop_list (l := a) (by omega) (s0 := ()) (fun _ _ => True) (fun _ _ => some true) trivial ?_ ?_
  · rintro _ again _
    rw [cnd_end]
  · rintro i hi _ _ again ha
    rw [cnd_lt hi, idx_w hi, idx_w hi, cnd_n (by simp [notIf])]
    show again (IntKind.i64.wrap ((i : Int) + 1), ()) = _
    rw [i64_s i (by omega)]
    exact ha _ trivial
theorem s12 {a : List ALot'} (hl : a.length ≤ 1000000) : ref12_Same a a = some true := by
  show ref12_SameW stdW a a = _
  unfold ref12_SameW
  rw [cnd_n (by simp)]
  refine loop_list (l := a) (by omega) (s0 := ()) (fun _ _ => True) (fun _ _ => some true) trivial ?_ ?_
  · rintro _ again _
    rw [cnd_end]
  · rintro i hi _ _ again ha
    rw [cnd_lt hi, idx_w hi, idx_w hi, cnd_n (by simp [notIf])]
    show again (IntKind.i64.wrap ((i : Int) + 1), ()) = _
    rw [i64_s i (by omega)]
    exact ha _ trivial
theorem s16 {a : List AChoice'} (hl : a.length ≤ 1000000) : ref16_Same a a = some true := by
  show ref16_SameW stdW a a = _
  unfold ref16_SameW
  rw [cnd_n (by simp)]
  refine loop_list (l := a) (by omega) (s0 := ()) (fun _ _ => True) (fun _ _ => some true) trivial ?_ ?_
  · rintro _ again _
    rw [cnd_end]
  · rintro i hi _ _ again ha
    rw [cnd_lt hi, idx_w hi, idx_w hi, cnd_n (by simp [notIf])]
    show again (IntKind.i64.wrap ((i : Int) + 1), ()) = _
    rw [i64_s i (by omega)]
    exact ha _ trivial
theorem s22 {a : List AGroup'} (hl : a.length ≤ 1000000) : ref22_Same a a = some true := by
  show ref22_SameW stdW a a = _
  unfold ref22_SameW
  rw [cnd_n (by simp)]
  refine loop_list (l := a) (by omega) (s0 := ()) (fun _ _ => True) (fun _ _ => some true) trivial ?_ ?_
  · rintro _ again _
    rw [cnd_end]
  · rintro i hi _ _ again ha
    rw [cnd_lt hi, idx_w hi, idx_w hi, cnd_n (by simp [notIf])]
    show again (IntKind.i64.wrap ((i : Int) + 1), ()) = _
    rw [i64_s i (by omega)]
    exact ha _ trivial
theorem s23 {a : List AGive'} (hl : a.length ≤ 1000000) : ref23_Same a a = some true := by
  show ref23_SameW stdW a a = _
  unfold ref23_SameW
  rw [cnd_n (by simp)]
  refine loop_list (l := a) (by omega) (s0 := ()) (fun _ _ => True) (fun _ _ => some true) trivial ?_ ?_
  · rintro _ again _
    rw [cnd_end]
  · rintro i hi _ _ again ha
    rw [cnd_lt hi, idx_w hi, idx_w hi, cnd_n (by simp [notIf])]
    show again (IntKind.i64.wrap ((i : Int) + 1), ()) = _
    rw [i64_s i (by omega)]
    exact ha _ trivial
theorem s11 {a : List AUnit'} (hl : a.length ≤ 1000000) : ref11_Same a a = some true := by
  show ref11_SameW stdW a a = _
  unfold ref11_SameW
  rw [cnd_n (by simp)]
  refine loop_list (l := a) (by omega) (s0 := ()) (fun _ _ => True) (fun _ _ => some true) trivial ?_ ?_
  · rintro _ again _
    rw [cnd_end]
  · rintro i hi _ _ again ha
    rw [cnd_lt hi, idx_w hi, idx_w hi, cnd_n (by simp [notIf])]
    show again (IntKind.i64.wrap ((i : Int) + 1), ()) = _
    rw [i64_s i (by omega)]
    exact ha _ trivial
theorem s17 {a : List AFlow'} (hl : a.length ≤ 1000000) : ref17_Same a a = some true := by
  show ref17_SameW stdW a a = _
  unfold ref17_SameW
  rw [cnd_n (by simp)]
  refine loop_list (l := a) (by omega) (s0 := ()) (fun _ _ => True) (fun _ _ => some true) trivial ?_ ?_
  · rintro _ again _
    rw [cnd_end]
  · rintro i hi _ _ again ha
    rw [cnd_lt hi, idx_w hi, idx_w hi, cnd_n (by simp [notIf])]
    show again (IntKind.i64.wrap ((i : Int) + 1), ()) = _
    rw [i64_s i (by omega)]
    exact ha _ trivial
theorem s18 {a : List ALot'} (hl : a.length ≤ 1000000) : ref18_Same a a = some true := by
  show ref18_SameW stdW a a = _
  unfold ref18_SameW
  rw [cnd_n (by simp)]
  refine loop_list (l := a) (by omega) (s0 := ()) (fun _ _ => True) (fun _ _ => some true) trivial ?_ ?_
  · rintro _ again _
    rw [cnd_end]
  · rintro i hi _ _ again ha
    rw [cnd_lt hi, idx_w hi, idx_w hi, cnd_n (by simp [notIf])]
    show again (IntKind.i64.wrap ((i : Int) + 1), ()) = _
    rw [i64_s i (by omega)]
    exact ha _ trivial
theorem s13o {x : AInst'} (h : x.2.2.2.2.1.length ≤ 1000000) : ref13_SameOne x x = some true := by
  show ref13_SameOneW stdW x x = _
  unfold ref13_SameOneW
  rw [cnd_y (by simp), cnd_y (by simp), cnd_y (by simp), cnd_y (by simp)]
  exact call_eq (sNu h) _
theorem s15o {x : AAccount'} (h : x.2.2.2.1.length ≤ 1000000) : ref15_SameOne x x = some true := by
  show ref15_SameOneW stdW x x = _
  unfold ref15_SameOneW
  refine join_g fun k hk => ?_
  have k2 : k (false, ()) = some true := by
    subst hk
    refine (cnd_n (c := false) rfl _ _).trans ?_
    refine loop_list (l := x.2.2.2.1) (by omega) (s0 := ()) (fun _ _ => True) (fun _ _ => some true) trivial ?_ ?_
    · rintro _ again _
      rw [cnd_end]
    · rintro i hi _ _ again ha
      rw [cnd_lt hi, idx_w hi, idx_w hi, cnd_n (by simp)]
      show again (IntKind.i64.wrap ((i : Int) + 1), ()) = _
      rw [i64_s i (by omega)]
      exact ha _ trivial
  clear hk
  rw [cnd_n (by simp), cnd_n (by simp), cnd_n (by simp), show (((x.2.2.2.1.length : Int) != (x.2.2.2.1.length : Int)) = false) by simp]
  exact k2
theorem s13 {a : List AInst'} (hl : a.length ≤ 1000000) (hm : ∀ x ∈ a, x.2.2.2.2.1.length ≤ 1000000) : ref13_Same a a = some true := by
  show ref13_SameW stdW a a = _
  unfold ref13_SameW
  rw [cnd_n (by simp)]
  refine loop_list (l := a) (by omega) (s0 := ()) (fun _ _ => True) (fun _ _ => some true) trivial ?_ ?_
  · rintro _ again _
    rw [cnd_end]
  · rintro i hi _ _ again ha
    rw [cnd_lt hi, idx_w hi, idx_w hi, call_eq (s13o (hm _ (List.getElem_mem hi))), cnd_n (by rfl)]
    show again (IntKind.i64.wrap ((i : Int) + 1), ()) = _
    rw [i64_s i (by omega)]
    exact ha _ trivial
theorem s15 {a : List AAccount'} (hl : a.length ≤ 1000000) (hm : ∀ x ∈ a, x.2.2.2.1.length ≤ 1000000) : ref15_Same a a = some true := by
  show ref15_SameW stdW a a = _
  unfold ref15_SameW
  rw [cnd_n (by simp)]
  refine loop_list (l := a) (by omega) (s0 := ()) (fun _ _ => True) (fun _ _ => some true) trivial ?_ ?_
  · rintro _ again _
    rw [cnd_end]
  · rintro i hi _ _ again ha
    rw [cnd_lt hi, idx_w hi, idx_w hi, call_eq (s15o (hm _ (List.getElem_mem hi))), cnd_n (by rfl)]
    show again (IntKind.i64.wrap ((i : Int) + 1), ()) = _
    rw [i64_s i (by omega)]
    exact ha _ trivial
theorem s19 {a : List APos'} (hl : a.length ≤ 1000000) (hm : ∀ x ∈ a, x.2.1.length ≤ 1000000) : ref19_Same a a = some true := by
  show ref19_SameW stdW a a = _
  unfold ref19_SameW
  rw [cnd_n (by simp)]
  refine loop_list (l := a) (by omega) (s0 := ()) (fun _ _ => True) (fun _ _ => some true) trivial ?_ ?_
  · rintro _ again _
    rw [cnd_end]
  · rintro i hi _ _ again ha
    rw [cnd_lt hi]
    refine join_g fun k hk => ?_
    have kk : k (false, ()) = some true := by
      subst hk
      show again (IntKind.i64.wrap ((i : Int) + 1), ()) = _
      rw [i64_s i (by omega)]
      exact ha _ trivial
    clear hk ha
    rw [idx_w hi, idx_w hi, cnd_n (by simp [notIf]), idx_w hi, idx_w hi, call_eq (s11 (hm _ (List.getElem_mem hi)))]
    exact kk
theorem s26 {a : List AHold'} (hl : a.length ≤ 1000000) (hm : ∀ x ∈ a, x.2.1.length ≤ 1000000) : ref26_Same a a = some true := by
  show ref26_SameW stdW a a = _
  unfold ref26_SameW
  rw [cnd_n (by simp)]
  refine loop_list (l := a) (by omega) (s0 := ()) (fun _ _ => True) (fun _ _ => some true) trivial ?_ ?_
  · rintro _ again _
    rw [cnd_end]
  · rintro i hi _ _ again ha
    rw [cnd_lt hi]
    refine join_g fun k hk => ?_
    have kk : k (false, ()) = some true := by
      subst hk
      show again (IntKind.i64.wrap ((i : Int) + 1), ()) = _
      rw [i64_s i (by omega)]
      exact ha _ trivial
    clear hk ha
    rw [idx_w hi, idx_w hi, cnd_n (by simp [notIf]), idx_w hi, idx_w hi, call_eq (s18 (hm _ (List.getElem_mem hi)))]
    exact kk
theorem r_same33 {s : AState'} (L : LenS s 1000) : ref33_Same s s = some true := by
  show ref33_SameW stdW s s = _
  unfold ref33_SameW
  have up : ∀ {n : Nat}, n ≤ 1000 → n ≤ 1000000 := fun h => by omega
  refine join_g fun k hk => ?_
  have k2 : k (false, ()) = some true := by
    subst hk
    refine (cnd_n (c := false) rfl _ _).trans ?_
    refine (call_eq (s22 (up L.g)) _).trans ((cnd_y rfl _ _).trans ?_)
    refine (call_eq (s23 (up L.v)) _).trans ((cnd_y rfl _ _).trans ?_)
    refine (call_eq (s19 (up L.b) fun x hx => up (L.bm x hx)) _).trans ((cnd_y rfl _ _).trans ?_)
    refine (call_eq (s19 (up L.s') fun x hx => up (L.sm x hx)) _).trans ((cnd_y rfl _ _).trans ?_)
    refine (call_eq (s17 (up L.p)) _).trans ((cnd_y rfl _ _).trans ?_)
    exact call_eq (s26 (up L.h) fun x hx => up (L.hm x hx)) _
  clear hk
  rw [cnd_n (by simp)]
  refine (call_eq (s14 (up L.m)) _).trans ((cnd_n rfl _ _).trans ?_)
  refine (call_eq (s13 (up L.i) fun x hx => up (L.im x hx)) _).trans ((cnd_n rfl _ _).trans ?_)
  refine (call_eq (s12 (up L.a)) _).trans ((cnd_n rfl _ _).trans ?_)
  refine (call_eq (s15 (up L.ac) fun x hx => up (L.acm x hx)) _).trans ((cnd_n rfl _ _).trans ?_)
  exact (call_eq (s16 (up L.c)) _).trans k2
end Go.Proofs.YtllkmncnmlmefaaGreat

namespace Go.Proofs.YtllkmncnmlmefaaGreat
open Go Go.Vc Go.RowKit
set_option synthInstance.maxSize 100000
set_option synthInstance.maxHeartbeats 0
/-! ### decoding -/
def zS33 : AState' := (0, ([], ([], ([], ([], ([], ([], ([], ([], ([], ([], ([], ()))))))))))))
theorem r_tablesR (s : Rs) (h : okR s) (s0 s1 s2 s3 s4 s5 s6 s7 s8 s9 s10 s11) :
    ledger_reader_tables true s.1 s.2 s0 s1 s2 s3 s4 s5 s6 s7 s8 s9 s10 s11 = some ((), (true, ((rList rA (rList rI (rList rM s).2).2).2.1, ((rList rA (rList rI (rList rM s).2).2).2.2, (s0, ((rList rM s).1, ((rList rI (rList rM s).2).1, ((rList rA (rList rI (rList rM s).2).2).1, (s4, (s5, (s6, (s7, (s8, (s9, (s10, (s11, ())))))))))))))))) := by
  show ledger_reader_tablesW stdW true s.1 s.2 s0 s1 s2 s3 s4 s5 s6 s7 s8 s9 s10 s11 = _
  unfold ledger_reader_tablesW
  refine (call_eq (rl_Ms.run s h) _).trans ?_
  have h1 := rl_Ms.ok s h
  refine (call_eq (rl_Is.run _ h1) _).trans ?_
  have h2 := rl_Is.ok _ h1
  exact call_eq (rl_As.run _ h2) _
theorem r_accountsR (s : Rs) (h : okR s) (s0 s1 s2 s3 s4 s5 s6 s7 s8 s9 s10 s11) :
    ledger_reader_accounts true s.1 s.2 s0 s1 s2 s3 s4 s5 s6 s7 s8 s9 s10 s11 = some ((), (true, ((rList rC (rList rAc s).2).2.1, ((rList rC (rList rAc s).2).2.2, (s0, (s1, (s2, (s3, ((rList rAc s).1, ((rList rC (rList rAc s).2).1, (s6, (s7, (s8, (s9, (s10, (s11, ())))))))))))))))) := by
  show ledger_reader_accountsW stdW true s.1 s.2 s0 s1 s2 s3 s4 s5 s6 s7 s8 s9 s10 s11 = _
  unfold ledger_reader_accountsW
  refine (call_eq (rl_Acs.run s h) _).trans ?_
  have h1 := rl_Acs.ok s h
  exact call_eq (rl_Cs.run _ h1) _
theorem r_dealsR (s : Rs) (h : okR s) (s0 s1 s2 s3 s4 s5 s6 s7 s8 s9 s10 s11) :
    ledger_reader_deals true s.1 s.2 s0 s1 s2 s3 s4 s5 s6 s7 s8 s9 s10 s11 = some ((), (true, ((rList rV (rList rG s).2).2.1, ((rList rV (rList rG s).2).2.2, (s0, (s1, (s2, (s3, (s4, (s5, ((rList rG s).1, ((rList rV (rList rG s).2).1, (s8, (s9, (s10, (s11, ())))))))))))))))) := by
  show ledger_reader_dealsW stdW true s.1 s.2 s0 s1 s2 s3 s4 s5 s6 s7 s8 s9 s10 s11 = _
  unfold ledger_reader_dealsW
  refine (call_eq (rl_Gs.run s h) _).trans ?_
  have h1 := rl_Gs.ok s h
  exact call_eq (rl_Vs.run _ h1) _
def decO (b : List Int) (s : AState' × Rs) : Option (AState' × Int × Unit) :=
  if endE s.2 ≠ 0 then some (zS33, (3, ())) else
    stdW.call (ledger_Check s.1) fun v13 => if v13 ≠ 0 then some (zS33, (3, ())) else
      stdW.call (ledger_Encode s.1) fun v14 => stdW.call (bytes_EqualW stdW v14 b) fun v15 => if v15 = true then some (s.1, (0, ())) else some (zS33, (3, ()))
theorem r_decode0 {b : List Int} (hb : okR (b, 0)) : ledger_Decode b = decO b (rS (b, 0)) := by
  obtain ⟨t0, e0⟩ : ∃ t, rNum (b, 0) = t := ⟨_, rfl⟩
  have h0 : okR t0.2 := by have := rl_num.ok (b, 0) hb; rwa [e0] at this
  obtain ⟨t1, e1⟩ : ∃ t, rList rM t0.2 = t := ⟨_, rfl⟩
  have h1 : okR t1.2 := by have := rl_Ms.ok t0.2 h0; rwa [e1] at this
  obtain ⟨t2, e2⟩ : ∃ t, rList rI t1.2 = t := ⟨_, rfl⟩
  have h2 : okR t2.2 := by have := rl_Is.ok t1.2 h1; rwa [e2] at this
  obtain ⟨t3, e3⟩ : ∃ t, rList rA t2.2 = t := ⟨_, rfl⟩
  have h3 : okR t3.2 := by have := rl_As.ok t2.2 h2; rwa [e3] at this
  obtain ⟨t4, e4⟩ : ∃ t, rList rAc t3.2 = t := ⟨_, rfl⟩
  have h4 : okR t4.2 := by have := rl_Acs.ok t3.2 h3; rwa [e4] at this
  obtain ⟨t5, e5⟩ : ∃ t, rList rC t4.2 = t := ⟨_, rfl⟩
  have h5 : okR t5.2 := by have := rl_Cs.ok t4.2 h4; rwa [e5] at this
  obtain ⟨t6, e6⟩ : ∃ t, rList rG t5.2 = t := ⟨_, rfl⟩
  have h6 : okR t6.2 := by have := rl_Gs.ok t5.2 h5; rwa [e6] at this
  obtain ⟨t7, e7⟩ : ∃ t, rList rV t6.2 = t := ⟨_, rfl⟩
  have h7 : okR t7.2 := by have := rl_Vs.ok t6.2 h6; rwa [e7] at this
  obtain ⟨t8, e8⟩ : ∃ t, rList rP t7.2 = t := ⟨_, rfl⟩
  have h8 : okR t8.2 := by have := rl_book.ok t7.2 h7; rwa [e8] at this
  obtain ⟨t9, e9⟩ : ∃ t, rList rP t8.2 = t := ⟨_, rfl⟩
  have h9 : okR t9.2 := by have := rl_book.ok t8.2 h8; rwa [e9] at this
  obtain ⟨t10, e10⟩ : ∃ t, rList rF t9.2 = t := ⟨_, rfl⟩
  have h10 : okR t10.2 := by have := rl_Fs.ok t9.2 h9; rwa [e10] at this
  obtain ⟨t11, e11⟩ : ∃ t, rList rH t10.2 = t := ⟨_, rfl⟩
  have h11 : okR t11.2 := by have := rl_Hs.ok t10.2 h10; rwa [e11] at this
  have r0 := rl_num.run (b, 0) hb; rw [e0] at r0
  have rT := r_tablesR t0.2 h0 t0.1 [] [] [] [] [] [] [] [] [] [] []; rw [e1, e2, e3] at rT
  have rA := r_accountsR t3.2 h3 t0.1 t1.1 t2.1 t3.1 [] [] [] [] [] [] [] []; rw [e4, e5] at rA
  have rD := r_dealsR t5.2 h5 t0.1 t1.1 t2.1 t3.1 t4.1 t5.1 [] [] [] [] [] []; rw [e6, e7] at rD
  have r8 := rl_book.run t7.2 h7; rw [e8] at r8
  have r9 := rl_book.run t8.2 h8; rw [e9] at r9
  have r10 := rl_Fs.run t9.2 h9; rw [e10] at r10
  have r11 := rl_Hs.run t10.2 h10; rw [e11] at r11
  have eS : rS (b, 0) = ((t0.1, (t1.1, (t2.1, (t3.1, (t4.1, (t5.1, (t6.1, (t7.1, (t8.1, (t9.1, (t10.1, (t11.1, ())))))))))))), t11.2) := by
    unfold rS rX rU
    simp only [e0, e1, e2, e3, e4, e5, e6, e7, e8, e9, e10, e11]
  rw [eS]
  clear eS e0 e1 e2 e3 e4 e5 e6 e7 e8 e9 e10 e11
  show ledger_DecodeW stdW b = _
  unfold ledger_DecodeW
  refine (call_eq (r_open hb.2) _).trans ?_
  refine (call_eq r0 _).trans ?_
  refine (call_eq rT _).trans ?_
  refine (call_eq rA _).trans ?_
  refine (call_eq rD _).trans ?_
  refine (call_eq r8 _).trans ?_
  refine (call_eq r9 _).trans ?_
  refine (call_eq r10 _).trans ?_
  refine (call_eq r11 _).trans ?_
  refine join_g fun k hk => ?_
  have kt : ∀ z, k (true, z) = some (zS33, (3, ())) := by intro z; subst hk; rfl
  have kf : ∀ z, k (false, z) = some ((z.2.2.2.1, (U4 z.2.2.2.2.2 (z.2.2.2.2.1, z.2.2.2.2.2.2.2.2.2))), (0, ())) := by intro z; subst hk; rfl
  clear hk
  refine (call_eq (r_pEnd t11.2) _).trans ?_
  unfold decO
  show stdW.cnd (endE t11.2 != 0) _ _ = if endE t11.2 ≠ 0 then _ else _
  by_cases he : endE t11.2 = 0
  · rw [if_neg (by simpa using he), cnd_n (by rw [he]; rfl)]
    show stdW.call (ledger_Check (t0.1, (t1.1, (t2.1, (t3.1, (t4.1, (t5.1, (t6.1, (t7.1, (t8.1, (t9.1, (t10.1, (t11.1, ())))))))))))) ) _ = stdW.call (ledger_Check (t0.1, (t1.1, (t2.1, (t3.1, (t4.1, (t5.1, (t6.1, (t7.1, (t8.1, (t9.1, (t10.1, (t11.1, ())))))))))))) ) _
    cases ledger_Check (t0.1, (t1.1, (t2.1, (t3.1, (t4.1, (t5.1, (t6.1, (t7.1, (t8.1, (t9.1, (t10.1, (t11.1, ())))))))))))) with
    | none => rfl
    | some v =>
      rw [call_eq rfl, call_eq rfl]
      by_cases hv : v = 0
      · rw [if_neg (by simpa using hv), cnd_n (by rw [hv]; rfl)]
        show stdW.call (ledger_Encode (t0.1, (t1.1, (t2.1, (t3.1, (t4.1, (t5.1, (t6.1, (t7.1, (t8.1, (t9.1, (t10.1, (t11.1, ())))))))))))) ) _ = stdW.call (ledger_Encode (t0.1, (t1.1, (t2.1, (t3.1, (t4.1, (t5.1, (t6.1, (t7.1, (t8.1, (t9.1, (t10.1, (t11.1, ())))))))))))) ) _
        cases ledger_Encode (t0.1, (t1.1, (t2.1, (t3.1, (t4.1, (t5.1, (t6.1, (t7.1, (t8.1, (t9.1, (t10.1, (t11.1, ())))))))))))) with
        | none => rfl
        | some w =>
          rw [call_eq rfl, call_eq rfl]
          cases bytes_EqualW stdW w b with
          | none => rfl
          | some q =>
            rw [call_eq rfl, call_eq rfl]
            cases q with
            | true => rw [if_pos rfl]; exact kf _
            | false => rw [if_neg (by simp)]; exact kt _
      · rw [if_pos hv, cnd_y (by simpa using hv)]; exact kt _
  · rw [if_pos he, cnd_y (by simpa using he)]; exact kt _
theorem encs_ge (l : List Int) : l.length ≤ (encs l).length := by
  unfold encs
  exact flat_len1 (fun n => encU_pos (fold n)) l
theorem flat_in {α : Type} {f : α → List Int} : ∀ {l : List α} {x : α}, x ∈ l → (f x).length ≤ (l.flatMap f).length
  | y :: l, x, h => by
    rw [List.flatMap_cons, List.length_append]
    rcases List.mem_cons.1 h with rfl | h
    · omega
    · have := flat_in (f := f) h; omega
theorem nL_ge {α : Type} {f : α → List Int} (hf : ∀ x, 0 < (f x).length) {l : List α} {n : Nat} (h : (nL f l).length ≤ n) : l.length ≤ n ∧ ∀ x ∈ l, (f x).length ≤ n := by
  unfold nL at h
  rw [List.length_cons] at h
  have := flat_len1 hf l
  exact ⟨by omega, fun x hx => by have := flat_in (f := f) hx; omega⟩
theorem LenS.of {s : AState'} {n : Nat} (h : (nS s).length ≤ n) : LenS s n := by
  unfold nS nT nAs nDs nMo at h
  simp only [List.length_append] at h
  obtain ⟨m, _⟩ := nL_ge (f := nM) (l := s.2.1) (n := n) (fun x => by simp [nM]) (by omega)
  obtain ⟨i, im⟩ := nL_ge (f := nI) (l := s.2.2.1) (n := n) (fun x => by simp [nI]) (by omega)
  obtain ⟨a, _⟩ := nL_ge (f := nA) (l := s.2.2.2.1) (n := n) (fun x => by simp [nA]) (by omega)
  obtain ⟨ac, acm⟩ := nL_ge (f := nAc) (l := s.2.2.2.2.1) (n := n) (fun x => by simp [nAc]) (by omega)
  obtain ⟨c, _⟩ := nL_ge (f := nC) (l := s.2.2.2.2.2.1) (n := n) (fun x => by simp [nC, nU]) (by omega)
  obtain ⟨g, _⟩ := nL_ge (f := nG) (l := s.2.2.2.2.2.2.1) (n := n) (fun x => by simp [nG]) (by omega)
  obtain ⟨v, _⟩ := nL_ge (f := nV) (l := s.2.2.2.2.2.2.2.1) (n := n) (fun x => by simp [nV]) (by omega)
  obtain ⟨b, bm⟩ := nL_ge (f := nP) (l := s.2.2.2.2.2.2.2.2.1) (n := n) (fun x => by simp [nP, nU]) (by omega)
  obtain ⟨b2, sm⟩ := nL_ge (f := nP) (l := s.2.2.2.2.2.2.2.2.2.1) (n := n) (fun x => by simp [nP, nU]) (by omega)
  obtain ⟨p, _⟩ := nL_ge (f := nF) (l := s.2.2.2.2.2.2.2.2.2.2.1) (n := n) (fun x => by simp [nF, nU]) (by omega)
  obtain ⟨hh, hm⟩ := nL_ge (f := nH) (l := s.2.2.2.2.2.2.2.2.2.2.2.1) (n := n) (fun x => by simp [nH, nU]) (by omega)
  have one : ∀ {l : List Int} {k : Nat}, (nL (fun n => [n]) l).length ≤ k → l.length ≤ k := fun h => (nL_ge (f := fun n => [n]) (fun x => by simp) h).1
  refine ⟨m, i, fun x hx => ?_, a, ac, fun x hx => ?_, c, g, v, b, fun x hx => ?_, b2, fun x hx => ?_, p, hh, fun x hx => ?_⟩
  · have := im x hx; unfold nI at this; rw [List.length_append] at this; exact one (by omega)
  · have := acm x hx; unfold nAc at this; rw [List.length_append] at this; exact one (by omega)
  · have := bm x hx; unfold nP at this; rw [List.length_append] at this; exact (nL_ge (f := nU) (fun x => by simp [nU]) (by omega)).1
  · have := sm x hx; unfold nP at this; rw [List.length_append] at this; exact (nL_ge (f := nU) (fun x => by simp [nU]) (by omega)).1
  · have := hm x hx; unfold nH at this; rw [List.length_append] at this; exact (nL_ge (f := nA) (fun x => by simp [nA]) (by omega)).1
theorem LenS.mono {s : AState'} {n m : Nat} (L : LenS s n) (h : n ≤ m) : LenS s m :=
  ⟨Nat.le_trans L.m h, Nat.le_trans L.i h, fun x hx => Nat.le_trans (L.im x hx) h, Nat.le_trans L.a h, Nat.le_trans L.ac h, fun x hx => Nat.le_trans (L.acm x hx) h, Nat.le_trans L.c h, Nat.le_trans L.g h, Nat.le_trans L.v h, Nat.le_trans L.b h, fun x hx => Nat.le_trans (L.bm x hx) h, Nat.le_trans L.s' h, fun x hx => Nat.le_trans (L.sm x hx) h, Nat.le_trans L.p h, Nat.le_trans L.h h, fun x hx => Nat.le_trans (L.hm x hx) h⟩
theorem LenS.okR {s : AState'} (L : LenS s 4096) : okSR s := by
  have t : ∀ {α : Type} {P : α → Prop} {l : List α}, l.length ≤ 4096 → (∀ x ∈ l, P x) → okLs P l := fun h k => ⟨h, k⟩
  refine ⟨trivial, t L.m fun _ _ => ⟨trivial, trivial, trivial, trivial, trivial⟩, t L.i fun x hx => ⟨trivial, trivial, trivial, trivial, t (L.im x hx) fun _ _ => trivial, trivial⟩, t L.a fun _ _ => ⟨trivial, trivial, trivial, trivial⟩,
    t L.ac fun x hx => ⟨trivial, trivial, trivial, t (L.acm x hx) fun _ _ => trivial, trivial⟩, t L.c fun _ _ => ⟨⟨trivial, trivial, trivial⟩, ⟨trivial, trivial, trivial⟩, trivial, trivial⟩, t L.g fun _ _ => ⟨trivial, ⟨trivial, trivial, trivial⟩, trivial, trivial, trivial, trivial⟩,
    t L.v fun _ _ => ⟨trivial, ⟨trivial, trivial, trivial⟩, ⟨trivial, trivial, trivial⟩, ⟨trivial, trivial, trivial⟩, trivial, trivial, trivial, trivial, trivial⟩, t L.b fun x hx => ⟨⟨trivial, trivial, trivial⟩, t (L.bm x hx) fun _ _ => ⟨trivial, trivial, trivial⟩, trivial⟩, t L.s' fun x hx => ⟨⟨trivial, trivial, trivial⟩, t (L.sm x hx) fun _ _ => ⟨trivial, trivial, trivial⟩, trivial⟩,
    t L.p fun _ _ => ⟨⟨trivial, trivial, trivial⟩, trivial, trivial⟩, t L.h fun x hx => ⟨⟨trivial, trivial, trivial⟩, t (L.hm x hx) fun _ _ => ⟨trivial, trivial, trivial, trivial⟩, trivial⟩, trivial⟩
theorem byEq (a : List Int) : bytes_EqualW stdW a a = some true := by
  unfold bytes_EqualW
  simp [notIf]
/-- what is decoded of a state's own bytes -/
theorem r_decodeS {b : List Int} {y : AState'} {r : Rs} (hb : okR (b, 0)) (hr : rS (b, 0) = (y, r)) (he : endE r = 0) (L : LenS y 1000) (k : okN [] (nS y)) (e : encs (nS y) = b) :
    ledger_Decode b = some (if okS33 y = true then (y, (0, ())) else (zS33, (3, ()))) := by
  rw [r_decode0 hb, hr]
  unfold decO
  rw [if_neg (by simpa using he), call_eq (r_ledCheck L)]
  cases okS33 y with
  | false => rfl
  | true =>
    rw [if_pos rfl, if_neg (by simp), call_eq (w_encode k), e, call_eq (byEq b), if_pos rfl, if_pos rfl]
theorem r_decodeE {b : List Int} (hb : okR (b, 0)) (he : endE (rS (b, 0)).2 ≠ 0) : ledger_Decode b = some (zS33, (3, ())) := by
  rw [r_decode0 hb]
  unfold decO
  rw [if_pos he]
end Go.Proofs.YtllkmncnmlmefaaGreat

namespace Go.Proofs.YtllkmncnmlmefaaGreat
open Go Go.Vc Go.RowKit
set_option synthInstance.maxSize 100000
set_option synthInstance.maxHeartbeats 0
/-! ### the law of decoding -/
theorem encU_btK : ∀ (u : Nat), Bt (encU u) := by
  intro u
  induction u using Nat.strongRecOn with
  | ind u ih =>
    by_cases h : u < 128
    · rw [encU_lt h]; intro b hb; rw [List.mem_singleton.1 hb]; omega
    · rw [encU_ge (by omega)]
      intro b hb
      rcases List.mem_cons.1 hb with rfl | hb
      · omega
      · exact ih (u / 128) (by omega) b hb
theorem encs_btK (l : List Int) : Bt (encs l) := fun b hb => by
  obtain ⟨n, _, h⟩ := List.mem_flatMap.1 hb
  exact encU_btK _ b h
theorem r_zero33 : ref33_Same zS33 zS33 = some true := r_same33 (LenS.of (by decide))
theorem r_cutB {b : List Int} : ref01_Cut b 600 = some (b.take 600) := by
  show ref01_CutW stdW b 600 = _
  unfold ref01_CutW
  by_cases h : 600 < b.length
  · rw [cnd_y (decide_eq_true (by omega)), bnd_w (by omega) (by omega)]; rfl
  · rw [cnd_n (decide_eq_false (by omega)), List.take_of_length_le (by omega)]
theorem decodes_true (x0 : DT.den (.slc (.int .u8))) (x1 : DT.den tAState) (o0 : DT.okD (.slc (.int .u8)) x0) (o1 : DT.okD tAState x1) : law33_LedgerDecodesW stdW x0 x1 = some true := by
  obtain ⟨N, L0⟩ := okD_led o1
  have hB0 : Bt x0 := fun b h => by have := wf_u8 (o0.1 b h); omega
  have hB : Bt (x0.take 600) := fun b h => hB0 b (List.mem_of_mem_take h)
  have hBl : (x0.take 600).length ≤ 600 := take_le x0 (Nat.le_refl _)
  have k := few33_okN N
  have L := few33_len x1
  unfold law33_LedgerDecodesW
  refine join_g fun k17 hk17 => ?_
  refine (two_w _).trans ?_
  refine (call_eq (show ref01_CutW stdW x0 600 = some (x0.take 600) from r_cutB) _).trans ?_
  refine (call_eq (show law33_FewW stdW x1 = some (few33 x1) from r_few33L L0) _).trans ?_
  generalize few33 x1 = s at k L
  generalize (x0.take 600 : List Int) = b at hB hBl
  clear L0 N hB0 o0 o1
  have hb := k.bytes
  rw [List.nil_append] at hb
  have hR : okR (b, 0) := ⟨hB, by show b.length ≤ _; omega⟩
  -- the state's own bytes
  have h1 : rS (encs (nS s), 0) = (s, ([], 0)) := by
    have := gd_S.enc s [] (L.mono (by decide)).okR k.1
    rwa [List.append_nil] at this
  have hD := r_decodeS ⟨encs_btK _, by show (encs (nS s)).length ≤ _; omega⟩ h1 rfl (L.mono (by decide)) k rfl
  have hI := r_is33 (L.mono (by decide : 70 ≤ 1000))
  subst hk17
  refine (call_eq (rf_encode k) _).trans ((call_eq hD _).trans ?_)
  have key : ∀ K : Bool × Unit → Option Bool, K = (fun (z4 : Bool × Unit) =>
      stdW.cnd z4.1 (some false)
        (stdW.call (ledger_DecodeW stdW b) fun v5 =>
        stdW.cnd (v5.2.1 != 0) (
         stdW.cnd (v5.2.1 == 3) (stdW.call (ref33_SameW stdW v5.1 (0, ([], ([], ([], ([], ([], ([], ([], ([], ([], ([], ([], ()))))))))))))) fun v6 =>
          stdW.cnd v6 (stdW.call (law33_livesW stdW) fun v7 => some v7)
           (some false))
          (some false))
         (stdW.call (ref33_IsW stdW v5.1) fun v8 =>
         stdW.cnd v8 (stdW.call (ref33_EncodeW stdW v5.1) fun v9 => stdW.call (ref01_SameW stdW v9 b) fun v10 =>
          stdW.cnd v10 (stdW.call (law33_livesW stdW) fun v11 => some v11)
           (some false))
          (some false)))) → K (false, ()) = some true := by
    rintro K rfl
    refine (cnd_n (c := false) rfl _ _).trans ?_
    have bad : ledger_DecodeW stdW b = some (zS33, (3, ())) → (stdW.call (ledger_DecodeW stdW b) fun v5 =>
        stdW.cnd (v5.2.1 != 0) (
         stdW.cnd (v5.2.1 == 3) (stdW.call (ref33_SameW stdW v5.1 (0, ([], ([], ([], ([], ([], ([], ([], ([], ([], ([], ([], ()))))))))))))) fun v6 =>
          stdW.cnd v6 (stdW.call (law33_livesW stdW) fun v7 => some v7)
           (some false))
          (some false))
         (stdW.call (ref33_IsW stdW v5.1) fun v8 =>
         stdW.cnd v8 (stdW.call (ref33_EncodeW stdW v5.1) fun v9 => stdW.call (ref01_SameW stdW v9 b) fun v10 =>
          stdW.cnd v10 (stdW.call (law33_livesW stdW) fun v11 => some v11)
           (some false))
          (some false))) = some true := by
      intro h
      refine (call_eq h _).trans ((cnd_y rfl _ _).trans ((cnd_y rfl _ _).trans ?_))
      refine (call_eq r_zero33 _).trans ((cnd_y rfl _ _).trans ?_)
      exact call_eq r_lives33 _
    by_cases he : endE (rS (b, 0)).2 = 0
    · have hz : (rS (b, 0)).2.2 = 0 ∧ (rS (b, 0)).2.1 = [] := by
        unfold endE at he
        split at he
        · rename_i h; exact absurd he h
        · rename_i h
          split at he
          · exact absurd he (by decide)
          · rename_i h2
            refine ⟨by simpa using h, List.length_eq_zero_iff.1 (by omega)⟩
      have hd := gd_S.dec (b, 0) hB rfl hz.1
      have e : encs (nS (rS (b, 0)).1) = b := by
        have := hd.1
        rw [hz.2, List.append_nil] at this
        exact this.symm
      have hn : (nS (rS (b, 0)).1).length ≤ 600 := by
        have := encs_ge (nS (rS (b, 0)).1); rw [e] at this; omega
      have Ly : LenS (rS (b, 0)).1 1000 := LenS.of (by omega)
      have ky : okN [] (nS (rS (b, 0)).1) := ⟨hd.2.1, by simp only [List.length_nil]; omega, by omega⟩
      have hDy := r_decodeS hR (y := (rS (b, 0)).1) (r := (rS (b, 0)).2) rfl he Ly ky e
      have hIy := r_is33 Ly
      generalize (rS (b, 0)).1 = y at e Ly ky hDy hIy
      cases ho : okS33 y with
      | false =>
        rw [ho, if_neg (by simp)] at hDy
        exact bad hDy
      | true =>
        rw [ho, if_pos rfl] at hDy
        rw [ho] at hIy
        refine (call_eq hDy _).trans ((cnd_n rfl _ _).trans ?_)
        refine (call_eq hIy _).trans ((cnd_y rfl _ _).trans ?_)
        refine (call_eq (rf_encode ky) _).trans ?_
        rw [e]
        refine (call_eq (r_sameB (by omega)) _).trans ((cnd_y (by simp) _ _).trans ?_)
        exact call_eq r_lives33 _
    · exact bad (r_decodeE hR he)
  refine join_g fun k12 hk12 => ?_
  have kf : k12 (false, ()) = some true := key k12 hk12
  clear hk12 key
  refine (call_eq hI _).trans ?_
  cases okS33 s with
  | true =>
    refine (cnd_n rfl _ _).trans ((cnd_y rfl _ _).trans ?_)
    refine (call_eq (r_same33 (L.mono (by decide))) _).trans ((cnd_n rfl _ _).trans ((cnd_n rfl _ _).trans kf))
  | false =>
    refine (cnd_n rfl _ _).trans ((cnd_n rfl _ _).trans ((cnd_y rfl _ _).trans ((cnd_n rfl _ _).trans ?_)))
    exact (call_eq r_zero33 _).trans kf
end Go.Proofs.YtllkmncnmlmefaaGreat
