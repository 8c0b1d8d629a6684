import Derived.Test.YtnldhkhnfodplaaB5
import Derived.Test.YtnldhkhnfodplaaRows
import Derived.JoinedOf
namespace Go.Proofs.Ytnldhkhnfodplaa
open Go Go.Vc Go.RowKit
theorem i64_p (i : Nat) (h0 : 0 < i) (h : i < 9223372036854775807) : IntKind.i64.wrap ((i : Int) - 1) = ((i - 1 : Nat) : Int) := by rw [IntWalk.i64_in _ (by omega)]; omega
theorem u64_w (n : Nat) (h : n < 18446744073709551616) : IntKind.u64.wrap (n : Int) = (n : Int) := u64c _ (by omega)
theorem nz_w {β : Type} {b : Int} (h : b ≠ 0) (K : Option β) : stdW.nz b K = K := nz_eq h K
theorem unf_tail {β : Type} (u : Nat) (hu : u < 18446744073709551616) (K : Int × Unit → Option β) :
    stdW.cnd ((Int.tmod (u : Int) 2) == 1) (K ((IntKind.i64.wrap ((IntKind.i64.wrap (0 - (IntKind.i64.wrap (IntKind.u64.wrap (Int.tdiv (u : Int) 2))))) - 1)), ())) (K ((IntKind.i64.wrap (IntKind.u64.wrap (Int.tdiv (u : Int) 2))), ())) = K (unf u, ()) := by
  rw [Int.tmod_eq_emod_of_nonneg (by omega), Int.tdiv_eq_ediv_of_nonneg (by omega)]
  have e1 : IntKind.u64.wrap ((u : Int) / 2) = ((u / 2 : Nat) : Int) := by rw [show (u : Int) / 2 = ((u / 2 : Nat) : Int) by omega]; exact u64_w _ (by omega)
  have e2 : IntKind.i64.wrap ((u / 2 : Nat) : Int) = ((u / 2 : Nat) : Int) := i64c _ (by omega)
  have e3 : IntKind.i64.wrap (0 - ((u / 2 : Nat) : Int)) = 0 - ((u / 2 : Nat) : Int) := i64c _ (by omega)
  have e4 : IntKind.i64.wrap (0 - ((u / 2 : Nat) : Int) - 1) = 0 - ((u / 2 : Nat) : Int) - 1 := i64c _ (by omega)
  rw [e1, e2, e3, e4]
  unfold unf
  by_cases h : u % 2 = 0
  · rw [cnd_n (by simp; omega), if_pos h]
  · rw [cnd_y (by simp; omega), if_neg h]
    congr 2; omega
theorem r_rGet {lo hi : Int} {s : List Int × Int} (hb : Bt s.1) (hl : s.1.length < 9223372036854775807) : ref04_Reader_Get lo hi s.1 s.2 = some ((rd lo hi s).1, ((rd lo hi s).2.1, ((rd lo hi s).2.2, ()))) := by
  obtain ⟨bs, e⟩ := s
  dsimp only at hb hl
  show ref04_Reader_GetW stdW lo hi bs e = _
  unfold ref04_Reader_GetW rd rdInt
  by_cases he : e = 0
  · subst he
    rw [cnd_n (by rfl), if_neg (by simp), join_w]
    -- how many groups go on
    have hle := lead_le bs
    have tail : ∀ m : Nat, m = Nat.min 10 (lead bs) → ∀ z : Int × Unit, z = ((m : Int), ()) →
        (stdW.join (fun (z2 : Bool × Unit) =>
    stdW.cnd z2.1 (stdW.call (ref04_Reader_fail 4 bs 0) fun v3 => some (0, (v3.2.1, v3.2.2)))
     (
     stdW.join (fun (z4 : Bool × Unit) =>
      stdW.cnd z4.1 (stdW.call (ref04_Reader_fail 3 bs 0) fun v5 => some (0, (v5.2.1, v5.2.2)))
       (
       stdW.loop (fun (z6 : Int × Int × Unit) again7 =>
        stdW.cnd (decide (0 < z6.2.1)) (stdW.idx bs (IntKind.i64.wrap (z6.2.1 - 1)) fun x8 => stdW.nz 128 ((again7 ((IntKind.u64.wrap ((IntKind.u64.wrap (128 * z6.1)) + (Int.tmod (IntKind.u64.wrap x8) 128))), ((IntKind.i64.wrap (z6.2.1 - 1)), ())))))
         (stdW.bnd (IntKind.i64.wrap (z.1 + 1)) bs.length fun h9 => stdW.nz 2 (
         stdW.join (fun (z10 : Int × Unit) =>
          stdW.join (fun (z11 : Bool × Unit) =>
           stdW.cnd z11.1 (stdW.call (ref04_Reader_fail 7 ((bs.take bs.length).drop h9) 0) fun v12 => some (0, (v12.2.1, v12.2.2)))
            (some (z10.1, (((bs.take bs.length).drop h9), ((0 : Int), ())))))
           fun k13 =>
           stdW.cnd (decide (z10.1 < lo)) ((k13 (true, ())))
            ((k13 ((decide (hi < z10.1)), ()))))
          fun k14 => stdW.nz 2 (
          stdW.cnd ((Int.tmod z6.1 2) == 1) ((k14 ((IntKind.i64.wrap ((IntKind.i64.wrap (0 - (IntKind.i64.wrap (IntKind.u64.wrap (Int.tdiv z6.1 2))))) - 1)), ())))
           ((k14 ((IntKind.i64.wrap (IntKind.u64.wrap (Int.tdiv z6.1 2))), ())))))))
        (0, ((IntKind.i64.wrap (z.1 + 1)), ()))))
      fun k15 =>
      stdW.cnd (z.1 == 10) ((k15 (true, ())))
       (
       stdW.cnd (z.1 == 9) (stdW.idx bs 9 fun x16 =>
        stdW.cnd (decide (1 < x16)) ((k15 (true, ())))
         (
         stdW.cnd (decide (0 < z.1)) (stdW.idx bs z.1 fun x17 => (k15 ((x17 == 0), ())))
          ((k15 (false, ())))))
        (
        stdW.cnd (decide (0 < z.1)) (stdW.idx bs z.1 fun x18 => (k15 ((x18 == 0), ())))
         ((k15 (false, ())))))))
    fun k19 =>
    stdW.cnd (decide (z.1 < 10)) ((k19 ((z.1 == (bs.length : Int)), ())))
     ((k19 (false, ()))) : Option (Int × ((List Int) × Int × Unit))) = some ((match numS 0 0 bs with
  | (none, r, e') => (0, r, e')
  | (some u, r, e') => if unf u < lo ∨ hi < unf u then (0, [], 7) else (unf u, r, e') : Int × List Int × Int).1, ((match numS 0 0 bs with
  | (none, r, e') => (0, r, e')
  | (some u, r, e') => if unf u < lo ∨ hi < unf u then (0, [], 7) else (unf u, r, e') : Int × List Int × Int).2.1, ((match numS 0 0 bs with
  | (none, r, e') => (0, r, e')
  | (some u, r, e') => if unf u < lo ∨ hi < unf u then (0, [], 7) else (unf u, r, e') : Int × List Int × Int).2.2, ()))) := by
      rintro m hm z rfl
      have hmm : m ≤ 10 ∧ (m = 10 → 10 ≤ lead bs) ∧ (m < 10 → m = lead bs) := by
        have : m = min 10 (lead bs) := hm
        omega
      obtain ⟨hm1, hm2, hm3⟩ := hmm
      obtain ⟨d1, d2, d3⟩ := numS_dec bs 0 0 hb (by omega) (by simp)
      rw [show 7 * 0 = 0 from rfl, Nat.zero_add] at d1 d2 d3
      refine (join_b (decide (m < 10 ∧ m = bs.length)) fun K => ?_).trans ?_
      · show stdW.cnd (decide ((m : Int) < 10)) (K (((m : Int) == (bs.length : Int)), ())) _ = _
        by_cases h : m < 10
        · rw [cnd_y (decide_eq_true (by omega))]
          congr 2
          by_cases h2 : m = bs.length
          · rw [decide_eq_true ⟨h, h2⟩]; simp [h2]
          · rw [decide_eq_false (by omega)]; simp; omega
        · rw [cnd_n (decide_eq_false (by omega)), decide_eq_false (by omega)]
      · show stdW.cnd _ _ _ = _
        by_cases hs : m < 10 ∧ m = bs.length
        · rw [cnd_y (decide_eq_true hs), d1 (by have := hm3 hs.1; omega)]; rfl
        · rw [cnd_n (decide_eq_false hs)]
          by_cases h10 : m = 10
          · refine (join_b true fun K => ?_).trans ?_
            · show stdW.cnd ((m : Int) == 10) _ _ = _
              rw [cnd_y (by simp [h10])]
            · show stdW.cnd true _ _ = _
              rw [cnd_y (by rfl), d2 (hm2 h10)]; rfl
          · have hml : m = lead bs := hm3 (by omega)
            have hlt : m < bs.length := by omega
            obtain ⟨g1, g2⟩ := d3 (by omega) (by omega)
            have hbm := hb _ (List.getElem_mem hlt)
            have g1' : (m = 9 ∧ 1 < bs[m]) ∨ (0 < m ∧ bs[m] = 0) → numS 0 0 bs = (none, [], 3) := by subst hml; exact g1
            have g2' : ¬ ((m = 9 ∧ 1 < bs[m]) ∨ (0 < m ∧ bs[m] = 0)) → numS 0 0 bs = (some (0 + valL (bs.take (m + 1)) * 2 ^ 0), bs.drop (m + 1), 0) := by subst hml; exact g2
            clear g1 g2 d1 d2 d3
            refine (join_b (decide ((m = 9 ∧ 1 < bs[m]) ∨ (0 < m ∧ bs[m] = 0))) fun K => ?_).trans ?_
            · show stdW.cnd ((m : Int) == 10) _ _ = _
              rw [cnd_n (by simp; omega)]
              show stdW.cnd ((m : Int) == 9) _ (stdW.cnd (decide ((0 : Int) < (m : Int))) (stdW.idx bs (m : Int) fun x18 => K ((x18 == 0), ())) (K (false, ()))) = _
              have last : (¬ (m = 9 ∧ 1 < bs[m])) → stdW.cnd (decide ((0 : Int) < (m : Int))) (stdW.idx bs (m : Int) fun x18 => K ((x18 == 0), ())) (K (false, ())) = K (decide ((m = 9 ∧ 1 < bs[m]) ∨ (0 < m ∧ bs[m] = 0)), ()) := by
                intro hn
                by_cases h0 : 0 < m
                · rw [cnd_y (decide_eq_true (by omega)), idx_w hlt]
                  congr 2
                  by_cases hz : bs[m] = 0
                  · rw [decide_eq_true (.inr ⟨h0, hz⟩)]; simp [hz]
                  · rw [decide_eq_false (by omega)]; simp [hz]
                · rw [cnd_n (decide_eq_false (by omega)), decide_eq_false (by omega)]
              by_cases h9 : m = 9
              · subst h9
                rw [cnd_y (by rfl)]
                show stdW.idx bs ((9 : Nat) : Int) _ = _
                rw [idx_w hlt]
                by_cases h1 : (1 : Int) < bs[9]
                · rw [cnd_y (decide_eq_true h1), decide_eq_true (.inl ⟨rfl, h1⟩)]
                · rw [cnd_n (decide_eq_false h1)]
                  exact last (by omega)
              · rw [cnd_n (by simp; omega)]
                exact last (by omega)
            · show stdW.cnd _ _ _ = _
              by_cases hbad : (m = 9 ∧ 1 < bs[m]) ∨ (0 < m ∧ bs[m] = 0)
              · rw [cnd_y (decide_eq_true hbad), g1' hbad]; rfl
              · rw [cnd_n (decide_eq_false hbad), g2' hbad]
                have hu : valL (bs.take (m + 1)) < 18446744073709551616 := by
                  have := numS_lt bs 0 0 (by decide) (0 + valL (bs.take (m + 1)) * 2 ^ 0) (by rw [g2' hbad])
                  simpa using this
                rw [show 0 + valL (bs.take (m + 1)) * 2 ^ 0 = valL (bs.take (m + 1)) by simp]
                have hds : (bs.take (m + 1)).length = m + 1 := by rw [List.length_take]; omega
                generalize hdse : bs.take (m + 1) = ds at *
                have em : IntKind.i64.wrap ((m : Int) + 1) = ((m + 1 : Nat) : Int) := i64_s m (by omega)
                have hdsb : ∀ (i : Nat) (h : i < m + 1) (h2 : i < bs.length), bs[i] = ds[i]'(by omega) := by
                  intro i h h2; subst hdse; simp
                refine (loop_std (fun z => z.2.1.toNat) (fun z => ∃ i : Nat, z = (((valL (ds.drop i) : Nat) : Int), ((i : Int), ())) ∧ i ≤ m + 1) (fun _ => some ((if unf (valL ds) < lo ∨ hi < unf (valL ds) then (0, [], 7) else (unf (valL ds), bs.drop (m + 1), 0) : Int × List Int × Int).1, ((if unf (valL ds) < lo ∨ hi < unf (valL ds) then (0, [], 7) else (unf (valL ds), bs.drop (m + 1), 0) : Int × List Int × Int).2.1, ((if unf (valL ds) < lo ∨ hi < unf (valL ds) then (0, [], 7) else (unf (valL ds), bs.drop (m + 1), 0) : Int × List Int × Int).2.2, ())))) ⟨m + 1, by rw [List.drop_of_length_le (by omega)]; show ((0 : Int), IntKind.i64.wrap ((m : Int) + 1), ()) = _; rw [em]; rfl, by omega⟩ (by show (IntKind.i64.wrap ((m : Int) + 1)).toNat < _; rw [em]; omega) ?_)
                rintro _ ⟨i, rfl, hi'⟩ again ha
                show stdW.cnd (decide ((0 : Int) < (i : Int))) _ _ = _
                by_cases h0 : 0 < i
                · rw [cnd_y (decide_eq_true (by omega))]
                  show stdW.idx bs (IntKind.i64.wrap ((i : Int) - 1)) _ = _
                  rw [i64_p i h0 (by omega), idx_w (by omega), nz_w (by omega)]
                  have hi2 : i - 1 < bs.length := by omega
                  have hx := hb _ (List.getElem_mem hi2)
                  have hst := valL_step ds (i - 1) (by omega)
                  rw [show i - 1 + 1 = i by omega, ← hdsb (i - 1) (by omega) hi2] at hst
                  have hle2 := valL_drop ds (i - 1)
                  show again (IntKind.u64.wrap (IntKind.u64.wrap (128 * ((valL (ds.drop i) : Nat) : Int)) + Int.tmod (IntKind.u64.wrap bs[i - 1]) 128), (((i - 1 : Nat) : Int), ())) = _
                  obtain ⟨x, hxe⟩ := Int.eq_ofNat_of_zero_le hx.1
                  rw [hxe] at hst ⊢
                  rw [Int.toNat_natCast] at hst
                  have e1 : (128 : Int) * ((valL (ds.drop i) : Nat) : Int) = ((128 * valL (ds.drop i) : Nat) : Int) := by omega
                  rw [e1, u64_w _ (by omega), u64_w x (by omega), Int.tmod_eq_emod_of_nonneg (by omega),
                    show (((128 * valL (ds.drop i) : Nat) : Int) + (x : Int) % 128) = ((valL (ds.drop (i - 1)) : Nat) : Int) by omega, u64_w _ (by omega)]
                  exact ha _ ⟨i - 1, rfl, by omega⟩ (by show ((i - 1 : Nat) : Int).toNat < ((i : Nat) : Int).toNat; omega)
                · obtain rfl : i = 0 := by omega
                  rw [cnd_n (by rfl), List.drop_zero]
                  show stdW.bnd (IntKind.i64.wrap ((m : Int) + 1)) bs.length _ = _
                  rw [em, bnd_w (by omega) (by omega), nz_w (by omega), join_w, nz_w (by omega), Int.toNat_natCast]
                  have ed : (List.take bs.length bs).drop (m + 1) = bs.drop (m + 1) := by simp
                  rw [ed]
                  refine (unf_tail (valL ds) hu (fun (z10 : Int × Unit) =>
          stdW.join (fun (z11 : Bool × Unit) =>
           stdW.cnd z11.1 (stdW.call (ref04_Reader_fail 7 (bs.drop (m + 1)) 0) fun v12 => some (0, (v12.2.1, v12.2.2)))
            (some (z10.1, ((bs.drop (m + 1)), ((0 : Int), ())))))
           fun k13 =>
           stdW.cnd (decide (z10.1 < lo)) ((k13 (true, ())))
            ((k13 ((decide (hi < z10.1)), ()))))).trans ?_
                  show stdW.join _ _ = _
                  refine (join_b (decide (unf (valL ds) < lo ∨ hi < unf (valL ds))) fun K => ?_).trans ?_
                  · show stdW.cnd (decide (unf (valL ds) < lo)) _ (K (decide (hi < unf (valL ds)), ())) = _
                    by_cases h1 : unf (valL ds) < lo
                    · rw [cnd_y (decide_eq_true h1), decide_eq_true (.inl h1)]
                    · rw [cnd_n (decide_eq_false h1)]
                      congr 2; apply decide_eq_decide.2; simp [h1]
                  · show stdW.cnd _ _ _ = _
                    by_cases h1 : unf (valL ds) < lo ∨ hi < unf (valL ds)
                    · rw [cnd_y (decide_eq_true h1), if_pos h1]; rfl
                    · rw [cnd_n (decide_eq_false h1), if_neg h1]
    refine (loop_n (N := Nat.min 10 (lead bs)) (by have : min 10 (lead bs) ≤ 10 := Nat.min_le_left _ _; show min 10 (lead bs) < _; omega) (fun _ _ => True) _ trivial ?_ ?_)
    · rintro ⟨⟩ again _
      have hmin : Nat.min 10 (lead bs) = min 10 (lead bs) := rfl
      have T := tail _ rfl (((Nat.min 10 (lead bs) : Nat) : Int), ()) rfl
      show stdW.cnd (decide (((Nat.min 10 (lead bs) : Nat) : Int) < (bs.length : Int))) (stdW.idx bs ((Nat.min 10 (lead bs) : Nat) : Int) _) _ = _
      by_cases h : Nat.min 10 (lead bs) < bs.length
      · rw [cnd_lt h, idx_w h]
        by_cases h10 : Nat.min 10 (lead bs) = 10
        · by_cases h128 : 128 ≤ bs[Nat.min 10 (lead bs)]
          · rw [cnd_y (decide_eq_true h128)]
            show stdW.cnd (decide (((Nat.min 10 (lead bs) : Nat) : Int) < 10)) _ _ = _
            rw [cnd_n (decide_eq_false (by omega))]
            exact T
          · rw [cnd_n (decide_eq_false h128)]
            exact T
        · have e : Nat.min 10 (lead bs) = lead bs := by omega
          have hle3 := lead_end bs (by omega)
          have : ¬ 128 ≤ bs[Nat.min 10 (lead bs)] := by simp only [e]; omega
          rw [cnd_n (decide_eq_false this)]
          exact T
      · rw [cnd_n (decide_eq_false (by omega))]
        exact T
    · rintro i hi' ⟨⟩ _ again ha
      have hmin : Nat.min 10 (lead bs) = min 10 (lead bs) := rfl
      have h2 : i < bs.length := by omega
      have := lead_get bs i (by omega) h2
      show stdW.cnd (decide ((i : Int) < (bs.length : Int))) _ _ = _
      rw [cnd_lt h2]
      show stdW.idx bs (i : Int) _ = _
      rw [idx_w h2, cnd_y (decide_eq_true this)]
      show stdW.cnd (decide ((i : Int) < 10)) (again (IntKind.i64.wrap ((i : Int) + 1), ())) _ = _
      rw [cnd_y (decide_eq_true (by omega)), i64_s i (by omega)]
      exact ha _ trivial
  · rw [cnd_y (by simp [he]), if_pos he]
end Go.Proofs.Ytnldhkhnfodplaa

namespace Go.Proofs.Ytnldhkhnfodplaa
open Go Go.Vc Go.RowKit
/-! ### commands: letters, values, readings (plain) -/
abbrev S := List Int × Int
abbrev LO : Int := -9223372036854775808
abbrev HI : Int := 9223372036854775807
theorem rd_err {lo hi : Int} {s : S} (h : (rd lo hi s).2.2 = 0) : s.2 = 0 := rdInt_err s.1 s.2 lo hi h
theorem rd_bt {lo hi : Int} {s : S} (h : Bt s.1) : Bt (rd lo hi s).2.1 := rdInt_bytes s.1 s.2 lo hi h
theorem rd_canon {lo hi : Int} {s : S} (hb : Bt s.1) (h : (rd lo hi s).2.2 = 0) : s.1 = encU (fold (rd lo hi s).1) ++ (rd lo hi s).2.1 ∧ Is64 (rd lo hi s).1 := rdInt_canon' s.1 s.2 lo hi hb (rd_err h) h
theorem rd_len {lo hi : Int} {s : S} : (rd lo hi s).2.1.length ≤ s.1.length := by
  unfold rd rdInt
  have hl := numS_len s.1 0 0
  split
  · exact Nat.le_refl _
  · rcases hN : numS 0 0 s.1 with ⟨_ | u, r, e'⟩
    · rw [hN] at hl; exact hl
    · rw [hN] at hl
      dsimp only
      split
      · simp
      · exact hl
theorem rd_in {lo hi : Int} {s : S} (h : (rd lo hi s).2.2 = 0) : lo ≤ (rd lo hi s).1 ∧ (rd lo hi s).1 ≤ hi := by
  have h0 := rd_err h
  unfold rd rdInt at h ⊢
  rw [if_neg (by simpa using h0)] at h ⊢
  rcases hN : numS 0 0 s.1 with ⟨_ | u, r, e'⟩
  · rw [hN] at h
    dsimp only at h
    subst h
    exact (numS_none s.1 0 0 r hN).elim
  · rw [hN] at h
    dsimp only at h ⊢
    split at h
    · simp at h
    · rename_i h1; rw [if_neg h1]; dsimp only; omega
theorem rd_full {lo hi : Int} {s : S} (h : (rd lo hi s).2.2 = 0) : rd LO HI s = rd lo hi s := by
  have h0 := rd_err h
  unfold rd rdInt at h ⊢
  rw [if_neg (by simpa using h0)] at h
  rw [if_neg (by simpa using h0), if_neg (by simpa using h0)]
  have hlt := numS_lt s.1 0 0 (by decide)
  rcases hN : numS 0 0 s.1 with ⟨_ | u, r, e'⟩
  · rfl
  · rw [hN] at h hlt
    have hu := unf_is u (hlt u rfl)
    unfold Is64 at hu
    dsimp only at h ⊢
    split at h
    · simp at h
    · rename_i h1; rw [if_neg h1, if_neg (by unfold LO HI; omega)]
theorem rd_lim {lo hi : Int} {s : S} (h : (rd LO HI s).2.2 = 0) (h1 : lo ≤ (rd LO HI s).1) (h2 : (rd LO HI s).1 ≤ hi) : rd lo hi s = rd LO HI s := by
  have h0 := rd_err h
  unfold rd rdInt at h h1 h2 ⊢
  rw [if_neg (by simpa using h0)] at h h1 h2
  rw [if_neg (by simpa using h0), if_neg (by simpa using h0)]
  rcases hN : numS 0 0 s.1 with ⟨_ | u, r, e'⟩
  · rfl
  · rw [hN] at h h1 h2
    dsimp only at h h1 h2 ⊢
    split at h
    · simp at h
    · rename_i h3
      rw [if_neg h3] at h1 h2
      dsimp only at h1 h2
      rw [if_neg h3, if_neg (by omega)]
inductive Lt where
  | M | U | O | I | A | T | D | Q | P | N
instance : DecidableEq Lt := fun a b => by cases a <;> cases b <;> first | exact isTrue rfl | exact isFalse (fun h => by cases h)
def Lt.code : Lt → Nat
  | .M => 77 | .U => 85 | .O => 79 | .I => 73 | .A => 65 | .T => 84 | .D => 68 | .Q => 81 | .P => 80 | .N => 78
def vals : Lt → ACommand' → List Int
  | .M, c => [c.2.2.1]
  | .U, c => [c.2.2.2.1.1, c.2.2.2.1.2.1]
  | .O, c => [c.2.2.2.2.1.1, c.2.2.2.2.1.2.1]
  | .I, c => [c.2.2.2.2.2.1]
  | .A, c => [c.2.2.2.2.2.2.1]
  | .T, c => [c.2.2.2.2.2.2.2.1]
  | .D, c => [c.2.2.2.2.2.2.2.2.1]
  | .Q, c => [c.2.2.2.2.2.2.2.2.2.1]
  | .P, c => [c.2.2.2.2.2.2.2.2.2.2.1]
  | .N, c => (c.2.2.2.2.2.2.2.2.2.2.2.1.length : Int) :: c.2.2.2.2.2.2.2.2.2.2.2.1
def g0 (l : List Int) : Int := l.headD 0
def g1 (l : List Int) : Int := l.tail.headD 0
def put : Lt → List Int → ACommand' → ACommand'
  | .M, v, c => (c.1, (c.2.1, (g0 v, c.2.2.2)))
  | .U, v, c => (c.1, (c.2.1, (c.2.2.1, ((g0 v, (g1 v, ())), c.2.2.2.2))))
  | .O, v, c => (c.1, (c.2.1, (c.2.2.1, (c.2.2.2.1, ((g0 v, (g1 v, ())), c.2.2.2.2.2)))))
  | .I, v, c => (c.1, (c.2.1, (c.2.2.1, (c.2.2.2.1, (c.2.2.2.2.1, (g0 v, c.2.2.2.2.2.2))))))
  | .A, v, c => (c.1, (c.2.1, (c.2.2.1, (c.2.2.2.1, (c.2.2.2.2.1, (c.2.2.2.2.2.1, (g0 v, c.2.2.2.2.2.2.2)))))))
  | .T, v, c => (c.1, (c.2.1, (c.2.2.1, (c.2.2.2.1, (c.2.2.2.2.1, (c.2.2.2.2.2.1, (c.2.2.2.2.2.2.1, (g0 v, c.2.2.2.2.2.2.2.2))))))))
  | .D, v, c => (c.1, (c.2.1, (c.2.2.1, (c.2.2.2.1, (c.2.2.2.2.1, (c.2.2.2.2.2.1, (c.2.2.2.2.2.2.1, (c.2.2.2.2.2.2.2.1, (g0 v, c.2.2.2.2.2.2.2.2.2)))))))))
  | .Q, v, c => (c.1, (c.2.1, (c.2.2.1, (c.2.2.2.1, (c.2.2.2.2.1, (c.2.2.2.2.2.1, (c.2.2.2.2.2.2.1, (c.2.2.2.2.2.2.2.1, (c.2.2.2.2.2.2.2.2.1, (g0 v, c.2.2.2.2.2.2.2.2.2.2))))))))))
  | .P, v, c => (c.1, (c.2.1, (c.2.2.1, (c.2.2.2.1, (c.2.2.2.2.1, (c.2.2.2.2.2.1, (c.2.2.2.2.2.2.1, (c.2.2.2.2.2.2.2.1, (c.2.2.2.2.2.2.2.2.1, (c.2.2.2.2.2.2.2.2.2.1, (g0 v, c.2.2.2.2.2.2.2.2.2.2.2)))))))))))
  | .N, v, c => (c.1, (c.2.1, (c.2.2.1, (c.2.2.2.1, (c.2.2.2.2.1, (c.2.2.2.2.2.1, (c.2.2.2.2.2.2.1, (c.2.2.2.2.2.2.2.1, (c.2.2.2.2.2.2.2.2.1, (c.2.2.2.2.2.2.2.2.2.1, (c.2.2.2.2.2.2.2.2.2.2.1, (v.tail, ()))))))))))))
theorem vals_put_ne {L L' : Lt} (h : L ≠ L') (v : List Int) (c : ACommand') : vals L' (put L v c) = vals L' c := by
  cases L <;> cases L' <;> first | exact absurd rfl h | rfl
/-- values as they may be read: so many -/
def shape : Lt → List Int → Prop
  | .U, v => v.length = 2
  | .O, v => v.length = 2
  | .N, v => ∃ l : List Int, v = (l.length : Int) :: l
  | _, v => v.length = 1
theorem len1 {v : List Int} (h : v.length = 1) : ∃ a, v = [a] := by
  match v, h with
  | [a], _ => exact ⟨a, rfl⟩
theorem len2' {v : List Int} (h : v.length = 2) : ∃ a b, v = [a, b] := by
  match v, h with
  | [a, b], _ => exact ⟨a, b, rfl⟩
theorem vals_put {L : Lt} {v : List Int} (h : shape L v) (c : ACommand') : vals L (put L v c) = v := by
  cases L <;> first
    | (obtain ⟨a, rfl⟩ := len1 h; rfl)
    | (obtain ⟨a, b, rfl⟩ := len2' h; rfl)
    | (obtain ⟨l, rfl⟩ := h; rfl)
def one (lo hi : Int) (s : S) : List Int × S := ([(rd lo hi s).1], (rd lo hi s).2)
def two (lo hi : Int) (s : S) : List Int × S := ([(rd lo hi s).1, (rd lo hi (rd lo hi s).2).1], (rd lo hi (rd lo hi s).2).2)
def nC : Nat → S → List Int → List Int × S
  | 0, s, acc => (acc, s)
  | n + 1, s, acc => if s.2 = 0 then nC n (rd LO HI s).2 (acc ++ [(rd LO HI s).1]) else (acc, s)
def nR : Nat → S → List Int → List Int × S
  | 0, s, acc => (acc, s)
  | n + 1, s, acc => nR n (rd LO HI s).2 (acc ++ [(rd LO HI s).1])
def numsC (s : S) : List Int × S := ((rd 0 32 s).1 :: (nC (rd 0 32 s).1.toNat (rd 0 32 s).2 []).1, (nC (rd 0 32 s).1.toNat (rd 0 32 s).2 []).2)
def numsR (s : S) : List Int × S := ((rd 0 32 s).1 :: (nR (rd 0 32 s).1.toNat (rd 0 32 s).2 []).1, (nR (rd 0 32 s).1.toNat (rd 0 32 s).2 []).2)
def top : Lt → Int
  | .M => 8 | .U => 16 | .O => 16 | .I => 8 | .A => 4 | .T => 255 | .D => 1048576 | _ => 0
def parC : Lt → S → List Int × S
  | .U, s => two 0 16 s
  | .O, s => two 0 16 s
  | .Q, s => one LO HI s
  | .P, s => one LO HI s
  | .N, s => numsC s
  | L, s => one 0 (top L) s
def parR : Lt → S → List Int × S
  | .U, s => two LO HI s
  | .O, s => two LO HI s
  | .N, s => numsR s
  | _, s => one LO HI s
def okV : Lt → List Int → Prop
  | .Q, _ => True
  | .P, _ => True
  | .N, v => v.tail.length ≤ 32
  | L, v => ∀ x ∈ v, 0 ≤ x ∧ x ≤ top L
theorem one_ok {lo hi : Int} {s : S} (h : (one lo hi s).2.2 = 0) : one LO HI s = one lo hi s ∧ (lo ≤ (rd lo hi s).1 ∧ (rd lo hi s).1 ≤ hi) ∧ s.2 = 0 := by
  unfold one at h ⊢
  rw [rd_full h]
  exact ⟨rfl, rd_in h, rd_err h⟩
theorem two_ok {lo hi : Int} {s : S} (h : (two lo hi s).2.2 = 0) : two LO HI s = two lo hi s ∧ (lo ≤ (rd lo hi s).1 ∧ (rd lo hi s).1 ≤ hi) ∧ (lo ≤ (rd lo hi (rd lo hi s).2).1 ∧ (rd lo hi (rd lo hi s).2).1 ≤ hi) ∧ s.2 = 0 := by
  unfold two at h ⊢
  have h1 : (rd lo hi s).2.2 = 0 := rd_err h
  rw [rd_full h1, rd_full h]
  exact ⟨rfl, rd_in h1, rd_in h, rd_err h1⟩
theorem nR_err : ∀ (n : Nat) (s : S) (acc : List Int), (nR n s acc).2.2 = 0 → s.2 = 0
  | 0, s, acc, h => h
  | n + 1, s, acc, h => rd_err (nR_err n _ _ h)
theorem nC_err : ∀ (n : Nat) (s : S) (acc : List Int), (nC n s acc).2.2 = 0 → s.2 = 0
  | 0, s, acc, h => h
  | n + 1, s, acc, h => by
    unfold nC at h; split at h
    · assumption
    · exact h
theorem nR_C : ∀ (n : Nat) (s : S) (acc : List Int), (nR n s acc).2.2 = 0 → nC n s acc = nR n s acc
  | 0, s, acc, h => rfl
  | n + 1, s, acc, h => by
    have h0 : s.2 = 0 := nR_err (n + 1) s acc h
    unfold nC nR
    rw [if_pos h0]
    exact nR_C n _ _ h
theorem nC_R : ∀ (n : Nat) (s : S) (acc : List Int), (nC n s acc).2.2 = 0 → nR n s acc = nC n s acc
  | 0, s, acc, h => rfl
  | n + 1, s, acc, h => by
    have h0 : s.2 = 0 := nC_err (n + 1) s acc h
    unfold nC at h
    unfold nC nR
    rw [if_pos h0] at h ⊢
    exact nC_R n _ _ h
theorem nC_bytes : ∀ (n : Nat) (s : S) (acc : List Int), Bt s.1 → (nC n s acc).2.2 = 0 → ∃ l : List Int, (nC n s acc).1 = acc ++ l ∧ l.length = n ∧ s.1 = encs l ++ (nC n s acc).2.1 ∧ ∀ x ∈ l, Is64 x
  | 0, s, acc, hb, h => ⟨[], by simp [nC], rfl, by simp [nC, encs], by simp⟩
  | n + 1, s, acc, hb, h => by
    have h0 : s.2 = 0 := nC_err (n + 1) s acc h
    unfold nC at h ⊢
    rw [if_pos h0] at h ⊢
    have h1 : (rd LO HI s).2.2 = 0 := nC_err n _ _ h
    obtain ⟨l, e1, e2, e3, e4⟩ := nC_bytes n _ _ (rd_bt hb) h
    obtain ⟨c1, c2⟩ := rd_canon hb h1
    refine ⟨(rd LO HI s).1 :: l, by rw [e1]; simp, by simp [e2], ?_, fun x hx => ?_⟩
    · rw [c1, e3, show (rd LO HI s).1 :: l = [(rd LO HI s).1] ++ l from rfl, encs_app, encs_one, List.append_assoc]
    · rcases List.mem_cons.1 hx with rfl | hx
      · exact c2
      · exact e4 x hx
theorem nC_bt : ∀ (n : Nat) (s : S) (acc : List Int), Bt s.1 → Bt (nC n s acc).2.1
  | 0, s, acc, hb => hb
  | n + 1, s, acc, hb => by
    unfold nC; split
    · exact nC_bt n _ _ (rd_bt hb)
    · exact hb
theorem parC_ok {L : Lt} {s : S} (h : (parC L s).2.2 = 0) : parR L s = parC L s ∧ okV L (parC L s).1 ∧ s.2 = 0 := by
  have a1 : ∀ hi : Int, (one 0 hi s).2.2 = 0 → one LO HI s = one 0 hi s ∧ (∀ x ∈ (one 0 hi s).1, 0 ≤ x ∧ x ≤ hi) ∧ s.2 = 0 := fun hi h => by
    obtain ⟨h1, h2, h3⟩ := one_ok h
    exact ⟨h1, fun x hx => by simp only [one, List.mem_singleton] at hx; subst hx; exact h2, h3⟩
  have a2 : (two 0 16 s).2.2 = 0 → two LO HI s = two 0 16 s ∧ (∀ x ∈ (two 0 16 s).1, 0 ≤ x ∧ x ≤ 16) ∧ s.2 = 0 := fun h => by
    obtain ⟨h1, h2, h3, h4⟩ := two_ok h
    refine ⟨h1, fun x hx => ?_, h4⟩
    simp only [two, List.mem_cons, List.not_mem_nil, or_false] at hx
    rcases hx with rfl | rfl
    · exact h2
    · exact h3
  cases L with
  | U => exact a2 h
  | O => exact a2 h
  | Q => exact ⟨rfl, trivial, (one_ok h).2.2⟩
  | P => exact ⟨rfl, trivial, (one_ok h).2.2⟩
  | N =>
    have h' : (nC (rd 0 32 s).1.toNat (rd 0 32 s).2 []).2.2 = 0 := h
    have h0 := rd_err (nC_err _ _ _ h')
    refine ⟨by show numsR s = numsC s; unfold numsR numsC; rw [nC_R _ _ _ h'], ?_, h0⟩
    show (nC (rd 0 32 s).1.toNat (rd 0 32 s).2 []).1.length ≤ 32
    have hin := rd_in (nC_err _ _ _ h')
    have key : ∀ (n : Nat) (s : S) (acc : List Int), (nC n s acc).1.length ≤ acc.length + n := by
      intro n
      induction n with
      | zero => intro s acc; simp [nC]
      | succ n ih =>
        intro s acc; unfold nC; split
        · have := ih (rd LO HI s).2 (acc ++ [(rd LO HI s).1]); simp at this; omega
        · exact Nat.le_add_right _ _
    have := key (rd 0 32 s).1.toNat (rd 0 32 s).2 []
    simp at this; omega
  | M => exact a1 8 h
  | I => exact a1 8 h
  | A => exact a1 4 h
  | T => exact a1 255 h
  | D => exact a1 1048576 h
theorem parR_ok {L : Lt} {s : S} (h : (parR L s).2.2 = 0) (ho : okV L (parR L s).1) : parC L s = parR L s := by
  have a1 : ∀ hi : Int, (one LO HI s).2.2 = 0 → (∀ x ∈ (one LO HI s).1, 0 ≤ x ∧ x ≤ hi) → one 0 hi s = one LO HI s := fun hi h ho => by
    have := ho (rd LO HI s).1 (by simp [one])
    unfold one at h ⊢
    rw [rd_lim h this.1 this.2]
  have a2 : (two LO HI s).2.2 = 0 → (∀ x ∈ (two LO HI s).1, 0 ≤ x ∧ x ≤ 16) → two 0 16 s = two LO HI s := fun h ho => by
    have o1 := ho (rd LO HI s).1 (by simp [two])
    have o2 := ho (rd LO HI (rd LO HI s).2).1 (by simp [two])
    unfold two at h ⊢
    have h1 : (rd LO HI s).2.2 = 0 := rd_err h
    rw [rd_lim h1 o1.1 o1.2, rd_lim h o2.1 o2.2]
  cases L with
  | U => exact a2 h ho
  | O => exact a2 h ho
  | Q => rfl
  | P => rfl
  | N =>
    have h' : (nR (rd 0 32 s).1.toNat (rd 0 32 s).2 []).2.2 = 0 := h
    show numsC s = numsR s
    unfold numsC numsR; rw [nR_C _ _ _ h']
  | M => exact a1 8 h ho
  | I => exact a1 8 h ho
  | A => exact a1 4 h ho
  | T => exact a1 255 h ho
  | D => exact a1 1048576 h ho
theorem parC_bytes {L : Lt} {s : S} (hb : Bt s.1) (h : (parC L s).2.2 = 0) : shape L (parC L s).1 ∧ s.1 = encs (parC L s).1 ++ (parC L s).2.1 ∧ (∀ x ∈ (parC L s).1, Is64 x) := by
  have a1 : ∀ lo hi : Int, (one lo hi s).2.2 = 0 → (one lo hi s).1.length = 1 ∧ s.1 = encs (one lo hi s).1 ++ (one lo hi s).2.1 ∧ (∀ x ∈ (one lo hi s).1, Is64 x) := fun lo hi h => by
    obtain ⟨c1, c2⟩ := rd_canon hb h
    refine ⟨rfl, ?_, fun x hx => by simp only [one, List.mem_singleton] at hx; subst hx; exact c2⟩
    unfold one; rw [encs_one]; exact c1
  have a2 : (two 0 16 s).2.2 = 0 → (two 0 16 s).1.length = 2 ∧ s.1 = encs (two 0 16 s).1 ++ (two 0 16 s).2.1 ∧ (∀ x ∈ (two 0 16 s).1, Is64 x) := fun h => by
    have h1 : (rd 0 16 s).2.2 = 0 := rd_err h
    obtain ⟨c1, c2⟩ := rd_canon hb h1
    obtain ⟨d1, d2⟩ := rd_canon (rd_bt hb) h
    refine ⟨rfl, ?_, fun x hx => ?_⟩
    · unfold two
      rw [show [(rd 0 16 s).1, (rd 0 16 (rd 0 16 s).2).1] = [(rd 0 16 s).1] ++ [(rd 0 16 (rd 0 16 s).2).1] from rfl, encs_app, encs_one, encs_one, List.append_assoc]
      dsimp only
      rw [← d1]; exact c1
    · simp only [two, List.mem_cons, List.not_mem_nil, or_false] at hx
      rcases hx with rfl | rfl
      · exact c2
      · exact d2
  cases L with
  | U => exact a2 h
  | O => exact a2 h
  | Q => exact a1 _ _ h
  | P => exact a1 _ _ h
  | N =>
    have h' : (nC (rd 0 32 s).1.toNat (rd 0 32 s).2 []).2.2 = 0 := h
    have h1 := nC_err _ _ _ h'
    obtain ⟨c1, c2⟩ := rd_canon hb h1
    have hin := rd_in h1
    obtain ⟨l, e1, e2, e3, e4⟩ := nC_bytes _ _ _ (rd_bt hb) h'
    have ev : (parC .N s).1 = (l.length : Int) :: l := by
      show (rd 0 32 s).1 :: (nC (rd 0 32 s).1.toNat (rd 0 32 s).2 []).1 = _
      rw [e1, List.nil_append, e2]; congr 1; omega
    refine ⟨⟨l, ev⟩, ?_, fun x hx => ?_⟩
    · have e5 : (parC .N s).1 = [(rd 0 32 s).1] ++ l := by rw [ev, e2]; show _ :: l = _ :: l; congr 1; omega
      rw [e5, encs_app, encs_one, List.append_assoc, c1]
      congr 1
    · rw [ev] at hx
      rcases List.mem_cons.1 hx with rfl | hx
      · unfold Is64; omega
      · exact e4 x hx
  | M => exact a1 _ _ h
  | I => exact a1 _ _ h
  | A => exact a1 _ _ h
  | T => exact a1 _ _ h
  | D => exact a1 _ _ h
theorem parC_bt {L : Lt} {s : S} (hb : Bt s.1) : Bt (parC L s).2.1 := by
  cases L with
  | N => exact nC_bt _ _ _ (rd_bt hb)
  | U => exact rd_bt (rd_bt hb)
  | O => exact rd_bt (rd_bt hb)
  | _ => exact rd_bt hb
/-! letter by letter -/
def runC : List Lt → S → ACommand' → ACommand' × S
  | [], s, c => (c, s)
  | L :: ls, s, c => runC ls (parC L s).2 (put L (parC L s).1 c)
def runR : List Lt → S → ACommand' → ACommand' × S
  | [], s, c => (c, s)
  | L :: ls, s, c => runR ls (parR L s).2 (put L (parR L s).1 c)
theorem parR_err {L : Lt} {s : S} (h : (parR L s).2.2 = 0) : s.2 = 0 := by
  cases L with
  | N => exact rd_err (nR_err _ _ _ h)
  | U => exact rd_err (rd_err h)
  | O => exact rd_err (rd_err h)
  | _ => exact rd_err h
theorem runC_err : ∀ (ls : List Lt) (s : S) (c : ACommand'), (runC ls s c).2.2 = 0 → s.2 = 0
  | [], s, c, h => h
  | L :: ls, s, c, h => (parC_ok (runC_err ls _ _ h)).2.2
theorem runR_err : ∀ (ls : List Lt) (s : S) (c : ACommand'), (runR ls s c).2.2 = 0 → s.2 = 0
  | [], s, c, h => h
  | L :: ls, s, c, h => parR_err (runR_err ls _ _ h)
theorem runC_keep : ∀ (ls : List Lt) (s : S) (c : ACommand') (L' : Lt), L' ∉ ls → vals L' (runC ls s c).1 = vals L' c
  | [], s, c, L', h => rfl
  | L :: ls, s, c, L', h => by
    simp only [List.mem_cons, not_or] at h
    unfold runC
    rw [runC_keep ls _ _ L' h.2, vals_put_ne (Ne.symm h.1)]
theorem runR_keep : ∀ (ls : List Lt) (s : S) (c : ACommand') (L' : Lt), L' ∉ ls → vals L' (runR ls s c).1 = vals L' c
  | [], s, c, L', h => rfl
  | L :: ls, s, c, L', h => by
    simp only [List.mem_cons, not_or] at h
    unfold runR
    rw [runR_keep ls _ _ L' h.2, vals_put_ne (Ne.symm h.1)]
/-- what is read well is read by the other one too, is as it may be, and is the bytes that it makes -/
theorem runC_ok : ∀ (ls : List Lt) (s : S) (c : ACommand'), ls.Nodup → Bt s.1 → (runC ls s c).2.2 = 0 →
    runR ls s c = runC ls s c ∧ (∀ L ∈ ls, okV L (vals L (runC ls s c).1) ∧ ∀ x ∈ vals L (runC ls s c).1, Is64 x) ∧ s.1 = (ls.flatMap fun L => encs (vals L (runC ls s c).1)) ++ (runC ls s c).2.1
  | [], s, c, hn, hb, h => ⟨rfl, by simp, by simp [runC]⟩
  | L :: ls, s, c, hn, hb, h => by
    have hn' := List.nodup_cons.1 hn
    have h1 : (parC L s).2.2 = 0 := runC_err ls _ _ h
    obtain ⟨p1, p2, p3⟩ := parC_ok h1
    obtain ⟨q1, q2, q3⟩ := parC_bytes hb h1
    obtain ⟨i1, i2, i3⟩ := runC_ok ls (parC L s).2 (put L (parC L s).1 c) hn'.2 (parC_bt hb) h
    have ev : vals L (runC (L :: ls) s c).1 = (parC L s).1 := by
      show vals L (runC ls (parC L s).2 (put L (parC L s).1 c)).1 = _
      rw [runC_keep ls _ _ L hn'.1, vals_put q1]
    refine ⟨by show runR ls (parR L s).2 (put L (parR L s).1 c) = _; rw [p1]; exact i1, fun L' hL => ?_, ?_⟩
    · rcases List.mem_cons.1 hL with rfl | hL
      · rw [ev]; exact ⟨p2, q3⟩
      · exact i2 L' hL
    · rw [List.flatMap_cons, ev, List.append_assoc, q2]
      congr 1
theorem shapeR {L : Lt} {s : S} (h : (parR L s).2.2 = 0) : shape L (parR L s).1 := by
  cases L with
  | N =>
    have h' : (nR (rd 0 32 s).1.toNat (rd 0 32 s).2 []).2.2 = 0 := h
    have hin := rd_in (nR_err _ _ _ h')
    have key : ∀ (n : Nat) (s : S) (acc : List Int), (nR n s acc).1.length = acc.length + n := by
      intro n
      induction n with
      | zero => intro s acc; simp [nR]
      | succ n ih => intro s acc; unfold nR; rw [ih]; simp; omega
    have hk := key (rd 0 32 s).1.toNat (rd 0 32 s).2 []
    refine ⟨(nR (rd 0 32 s).1.toNat (rd 0 32 s).2 []).1, ?_⟩
    show (rd 0 32 s).1 :: _ = _
    congr 1
    rw [hk]; simp; omega
  | _ => exact rfl
theorem runR_ok : ∀ (ls : List Lt) (s : S) (c : ACommand'), ls.Nodup → (runR ls s c).2.2 = 0 → (∀ L ∈ ls, okV L (vals L (runR ls s c).1)) → runC ls s c = runR ls s c
  | [], s, c, hn, h, ho => rfl
  | L :: ls, s, c, hn, h, ho => by
    have hn' := List.nodup_cons.1 hn
    have h1 : (parR L s).2.2 = 0 := runR_err ls _ _ h
    have ev : vals L (runR (L :: ls) s c).1 = (parR L s).1 := by
      show vals L (runR ls (parR L s).2 (put L (parR L s).1 c)).1 = _
      rw [runR_keep ls _ _ L hn'.1, vals_put (shapeR h1)]
    have p := parR_ok h1 (by rw [← ev]; exact ho L (by simp))
    show runC ls (parC L s).2 (put L (parC L s).1 c) = _
    rw [p]
    exact runR_ok ls _ _ hn'.2 h fun L' hL => ho L' (by simp [hL])
end Go.Proofs.Ytnldhkhnfodplaa

namespace Go.Proofs.Ytnldhkhnfodplaa
open Go Go.Vc Go.RowKit
/-! ### which letters a command has -/
def flT : List (List Lt) := [[], [.M, .Q], [.I, .Q, .P, .N], [.A, .P, .Q], [.U, .M, .D], [.U], [.M, .Q], [.U, .O, .I, .Q, .P], [.U, .O, .I, .Q, .P], [.D], [.D], [.D], [.U, .I, .N], [.D, .O, .Q], [.I, .P], [.A, .P], [], [.U, .A, .T, .Q], [.U, .A, .T, .Q], [.U, .O], [.U, .O], [.M, .Q], [.U], [.M], [.U, .O, .I, .Q, .P], [.M], [.U], [.U], [.U], [.U], [], [.M]]
def fl (op : Int) : List Lt := if 1 ≤ op ∧ op ≤ 31 then (flT[op.toNat]?).getD [] else []
def str (ls : List Lt) : ByteArray := ByteArray.mk (Array.mk (ls.map fun L => UInt8.ofNat L.code))
theorem fl_out {op : Int} (h : ¬ (1 ≤ op ∧ op ≤ 31)) : fl op = [] := by unfold fl; rw [if_neg h]
theorem op_cases {op : Int} (h : 1 ≤ op ∧ op ≤ 31) : ∃ n : Nat, op = (n : Int) ∧ (n = 1 ∨ n = 2 ∨ n = 3 ∨ n = 4 ∨ n = 5 ∨ n = 6 ∨ n = 7 ∨ n = 8 ∨ n = 9 ∨ n = 10 ∨ n = 11 ∨ n = 12 ∨ n = 13 ∨ n = 14 ∨ n = 15 ∨ n = 16 ∨ n = 17 ∨ n = 18 ∨ n = 19 ∨ n = 20 ∨ n = 21 ∨ n = 22 ∨ n = 23 ∨ n = 24 ∨ n = 25 ∨ n = 26 ∨ n = 27 ∨ n = 28 ∨ n = 29 ∨ n = 30 ∨ n = 31) := by
  obtain ⟨n, rfl⟩ := Int.eq_ofNat_of_zero_le (show 0 ≤ op by omega)
  exact ⟨n, rfl, by omega⟩
set_option maxRecDepth 10000 in
theorem r_cFields (op : Int) : cmd_Fields op = some (str (fl op)) := by
  by_cases h : 1 ≤ op ∧ op ≤ 31
  · obtain ⟨n, rfl, hn⟩ := op_cases h
    rcases hn with rfl | rfl | rfl | rfl | rfl | rfl | rfl | rfl | rfl | rfl | rfl | rfl | rfl | rfl | rfl | rfl | rfl | rfl | rfl | rfl | rfl | rfl | rfl | rfl | rfl | rfl | rfl | rfl | rfl | rfl | rfl <;> rfl
  · rw [fl_out h]
    have e : ∀ k : Int, (1 ≤ k ∧ k ≤ 31) → (op == k) = false := fun k hk => by simp; omega
    show cmd_FieldsW stdW op = _
    unfold cmd_FieldsW
    simp only [e 1 (by omega), e 2 (by omega), e 3 (by omega), e 4 (by omega), e 5 (by omega), e 6 (by omega), e 7 (by omega), e 8 (by omega), e 9 (by omega), e 10 (by omega), e 11 (by omega), e 12 (by omega), e 13 (by omega), e 14 (by omega), e 15 (by omega), e 16 (by omega), e 17 (by omega), e 18 (by omega), e 19 (by omega), e 20 (by omega), e 21 (by omega), e 22 (by omega), e 23 (by omega), e 24 (by omega), e 25 (by omega), e 26 (by omega), e 27 (by omega), e 28 (by omega), e 29 (by omega), e 30 (by omega), e 31 (by omega), joinF, cond_false]
    rfl
set_option maxRecDepth 10000 in
theorem r_rFields (op : Int) : ref34_Fields op = some (str (fl op)) := by
  by_cases h : 1 ≤ op ∧ op ≤ 31
  · obtain ⟨n, rfl, hn⟩ := op_cases h
    rcases hn with rfl | rfl | rfl | rfl | rfl | rfl | rfl | rfl | rfl | rfl | rfl | rfl | rfl | rfl | rfl | rfl | rfl | rfl | rfl | rfl | rfl | rfl | rfl | rfl | rfl | rfl | rfl | rfl | rfl | rfl | rfl <;> rfl
  · rw [fl_out h]
    have e : ∀ k : Int, (1 ≤ k ∧ k ≤ 31) → (op == k) = false := fun k hk => by simp; omega
    show ref34_FieldsW stdW op = _
    unfold ref34_FieldsW
    simp only [e 1 (by omega), e 2 (by omega), e 3 (by omega), e 4 (by omega), e 5 (by omega), e 6 (by omega), e 7 (by omega), e 8 (by omega), e 9 (by omega), e 10 (by omega), e 11 (by omega), e 12 (by omega), e 13 (by omega), e 14 (by omega), e 15 (by omega), e 16 (by omega), e 17 (by omega), e 18 (by omega), e 19 (by omega), e 20 (by omega), e 21 (by omega), e 22 (by omega), e 23 (by omega), e 24 (by omega), e 25 (by omega), e 26 (by omega), e 27 (by omega), e 28 (by omega), e 29 (by omega), e 30 (by omega), e 31 (by omega), joinF, cond_false]
    by_cases h1 : op < 1
    · simp only [decide_eq_false (show ¬ 9 ≤ op by omega), decide_eq_false (show ¬ 26 ≤ op by omega), cond_false]
      rfl
    · simp only [decide_eq_true (show 9 ≤ op by omega), decide_eq_true (show 26 ≤ op by omega), decide_eq_false (show ¬ op ≤ 11 by omega), decide_eq_false (show ¬ op ≤ 29 by omega), cond_false, cond_true]
      rfl
theorem fl_nodup (op : Int) : (fl op).Nodup := by
  by_cases h : 1 ≤ op ∧ op ≤ 31
  · obtain ⟨n, rfl, hn⟩ := op_cases h
    rcases hn with rfl | rfl | rfl | rfl | rfl | rfl | rfl | rfl | rfl | rfl | rfl | rfl | rfl | rfl | rfl | rfl | rfl | rfl | rfl | rfl | rfl | rfl | rfl | rfl | rfl | rfl | rfl | rfl | rfl | rfl | rfl <;> decide
  · rw [fl_out h]; exact List.nodup_nil
theorem fl_len (op : Int) : (fl op).length ≤ 5 := by
  by_cases h : 1 ≤ op ∧ op ≤ 31
  · obtain ⟨n, rfl, hn⟩ := op_cases h
    rcases hn with rfl | rfl | rfl | rfl | rfl | rfl | rfl | rfl | rfl | rfl | rfl | rfl | rfl | rfl | rfl | rfl | rfl | rfl | rfl | rfl | rfl | rfl | rfl | rfl | rfl | rfl | rfl | rfl | rfl | rfl | rfl <;> decide
  · rw [fl_out h]; simp
theorem str_size (ls : List Lt) : (str ls).size = ls.length := by show (ls.map _).toArray.size = _; simp
theorem code_lt (L : Lt) : L.code < 128 := by cases L <;> decide
theorem code_u8 (L : Lt) : (UInt8.ofNat L.code).toNat = L.code := by cases L <;> rfl
theorem str_get (ls : List Lt) (i : Nat) (h : i < ls.length) : (str ls)[i]? = some (UInt8.ofNat (ls[i]).code) := by
  have hs : i < (str ls).size := by rw [str_size]; exact h
  rw [getElem?_pos (str ls) i hs]
  congr 1
  exact (by simp : ((ls.map fun L => UInt8.ofNat L.code).toArray)[i]'(by simpa using h) = UInt8.ofNat (ls[i]).code)
theorem str_get! (ls : List Lt) (i : Nat) (h : i < ls.length) : (str ls).get! i = UInt8.ofNat (ls[i]).code := by
  show (ls.map fun L => UInt8.ofNat L.code).toArray[i]! = _
  simp [h]
theorem sidx_w {β : Type} (ls : List Lt) (i : Nat) (h : i < ls.length) (K : Int → Option β) : stdW.sidx (str ls) (i : Int) K = K ((ls[i]).code : Int) := by
  show sidxF (str ls) (i : Int) K = _
  unfold sidxF
  rw [decide_eq_true (by omega), Int.toNat_natCast, str_get ls i h]
  show K (((UInt8.ofNat (ls[i]).code).toNat : Nat) : Int) = _
  rw [code_u8]
theorem dec_w (ls : List Lt) (i : Nat) (h : i < ls.length) : Utf8.decode (str ls) i = ((ls[i]).code, 1) := by
  unfold Utf8.decode
  simp only [Nat.add_zero, str_get! ls i h, code_u8]
  rw [if_pos (by have := code_lt ls[i]; omega)]
theorem next_w {β : Type} (ls : List Lt) (i : Nat) (h : i < ls.length) (K : Int → Int → Option β) (N : Option β) : stdW.next (str ls) (i : Int) K N = K ((ls[i]).code : Int) ((i + 1 : Nat) : Int) := by
  show nextF (str ls) (i : Int) K N = _
  unfold nextF
  rw [Int.toNat_natCast, decide_eq_true (by rw [str_size]; exact h), dec_w ls i h]
  rfl
theorem next_e {β : Type} (ls : List Lt) (i : Nat) (h : ls.length ≤ i) (K : Int → Int → Option β) (N : Option β) : stdW.next (str ls) (i : Int) K N = N := by
  show nextF (str ls) (i : Int) K N = _
  unfold nextF
  rw [Int.toNat_natCast, decide_eq_false (by rw [str_size]; omega)]
  rfl
end Go.Proofs.Ytnldhkhnfodplaa

namespace Go.Proofs.Ytnldhkhnfodplaa
open Go Go.Vc Go.RowKit
/-! ### the program's reading of a command -/
def okS (s : S) : Prop := Bt s.1 ∧ s.1.length < 9223372036854775807
theorem okS_rd {lo hi : Int} {s : S} (h : okS s) : okS (rd lo hi s).2 := ⟨rd_bt h.1, Nat.lt_of_le_of_lt rd_len h.2⟩
theorem rd_rng {hi : Int} {s : S} (h : 0 ≤ hi) : 0 ≤ (rd 0 hi s).1 ∧ (rd 0 hi s).1 ≤ hi := by
  unfold rd rdInt
  split
  · exact ⟨Int.le_refl _, h⟩
  · rcases numS 0 0 s.1 with ⟨_ | u, r, e'⟩
    · exact ⟨Int.le_refl _, h⟩
    · dsimp only
      split
      · exact ⟨Int.le_refl _, h⟩
      · dsimp only; omega
theorem r_small {to_ : Int} {s : S} (h : okS s) : cmd_small to_ true s.1 s.2 = some ((rd 0 to_ s).1, (true, ((rd 0 to_ s).2.1, ((rd 0 to_ s).2.2, ())))) := by
  show cmd_smallW stdW to_ true s.1 s.2 = _
  unfold cmd_smallW
  rw [call_w (r_pInt h.1 h.2)]
theorem r_place {s : S} (h : okS s) : cmd_place true s.1 s.2 = some (((rd 0 16 s).1, ((rd 0 16 (rd 0 16 s).2).1, ())), (true, ((rd 0 16 (rd 0 16 s).2).2.1, ((rd 0 16 (rd 0 16 s).2).2.2, ())))) := by
  show cmd_placeW stdW true s.1 s.2 = _
  unfold cmd_placeW
  rw [call_w (r_small h)]
  show stdW.call (cmd_small 16 true (rd 0 16 s).2.1 (rd 0 16 s).2.2) _ = _
  rw [call_w (r_small (okS_rd h))]
theorem r_numbers {s : S} (h : okS s) : cmd_numbers 32 true s.1 s.2 = some ((numsC s).1.tail, (true, ((numsC s).2.1, ((numsC s).2.2, ())))) := by
  show cmd_numbersW stdW 32 true s.1 s.2 = _
  unfold cmd_numbersW
  rw [join_w, call_w (r_small h)]
  have hr := rd_rng (hi := 32) (s := s) (by omega)
  refine (loop_std (fun z => z.1.toNat) (fun z => ∃ (n : Nat) (t : S) (acc : List Int), z = ((n : Int), (true, (t.1, (t.2, (acc, ()))))) ∧ okS t ∧ acc.length + n ≤ 32 ∧ nC n t acc = ((numsC s).1.tail, (numsC s).2)) (fun _ => some ((numsC s).1.tail, (true, ((numsC s).2.1, ((numsC s).2.2, ())))))
    ⟨(rd 0 32 s).1.toNat, (rd 0 32 s).2, [], by rw [Int.toNat_of_nonneg hr.1], okS_rd h, by simp; omega, rfl⟩ (by show (rd 0 32 s).1.toNat < _; omega) ?_)
  rintro _ ⟨n, t, acc, rfl, ht, hl, he⟩ again ha
  show stdW.cnd (decide ((0 : Int) < (n : Int))) _ _ = _
  cases n with
  | zero =>
    rw [cnd_n (by rfl)]
    unfold nC at he
    have e1 := congrArg (·.1) he; have e2 := congrArg (·.2) he
    dsimp only at e1 e2
    rw [← e1, ← e2]
  | succ n =>
    rw [cnd_y (decide_eq_true (by omega))]
    show stdW.call (pack_Reader_Err true t.1 t.2) _ = _
    rw [call_w (show pack_Reader_Err true t.1 t.2 = some (t.2, (true, (t.1, (t.2, ())))) from rfl)]
    unfold nC at he
    by_cases h0 : t.2 = 0
    · rw [cnd_y (by simp [h0])]
      rw [if_pos h0] at he
      show stdW.call (pack_Reader_Int (-9223372036854775808) 9223372036854775807 true t.1 t.2) _ = _
      rw [call_w (r_pInt ht.1 ht.2)]
      show stdW.room (acc.length + 1) 8 _ = _
      rw [room_w (by omega) (by omega)]
      show again (IntKind.i64.wrap (((n + 1 : Nat) : Int) - 1), (true, ((rd LO HI t).2.1, ((rd LO HI t).2.2, (acc ++ [(rd LO HI t).1], ()))))) = _
      rw [i64_p (n + 1) (by omega) (by omega)]
      exact ha _ ⟨n, (rd LO HI t).2, _, rfl, okS_rd ht, by simp; omega, he⟩ (by show ((n + 1 - 1 : Nat) : Int).toNat < ((n + 1 : Nat) : Int).toNat; omega)
    · rw [cnd_n (by simp [h0])]
      rw [if_neg h0] at he
      have e1 := congrArg (·.1) he; have e2 := congrArg (·.2) he
      dsimp only at e1 e2
      show some (acc, (true, (t.1, (t.2, ())))) = _
      rw [← e1, ← e2]
def flatT (c : ACommand') : Int × Int × Int × Int × Int × Int × Int × Int × Int × Int × Int × Int × Int × List Int × Unit :=
  (c.1, (c.2.1, (c.2.2.1, (c.2.2.2.1.1, (c.2.2.2.1.2.1, (c.2.2.2.2.1.1, (c.2.2.2.2.1.2.1, (c.2.2.2.2.2.1, (c.2.2.2.2.2.2.1, (c.2.2.2.2.2.2.2.1, (c.2.2.2.2.2.2.2.2.1, (c.2.2.2.2.2.2.2.2.2.1, (c.2.2.2.2.2.2.2.2.2.2.1, (c.2.2.2.2.2.2.2.2.2.2.2.1, ()))))))))))))))
theorem r_take (L : Lt) {s : S} (h : okS s) (c : ACommand') :
    cmd_take (L.code : Int) true s.1 s.2 c.1 c.2.1 c.2.2.1 c.2.2.2.1.1 c.2.2.2.1.2.1 c.2.2.2.2.1.1 c.2.2.2.2.1.2.1 c.2.2.2.2.2.1 c.2.2.2.2.2.2.1 c.2.2.2.2.2.2.2.1 c.2.2.2.2.2.2.2.2.1 c.2.2.2.2.2.2.2.2.2.1 c.2.2.2.2.2.2.2.2.2.2.1 c.2.2.2.2.2.2.2.2.2.2.2.1
      = some ((), (true, ((parC L s).2.1, ((parC L s).2.2, flatT (put L (parC L s).1 c))))) := by
  show cmd_takeW stdW (L.code : Int) true s.1 s.2 _ _ _ _ _ _ _ _ _ _ _ _ _ _ = _
  unfold cmd_takeW
  cases L with
  | M => rw [cnd_y (by rfl), call_w (r_small h)]; rfl
  | U => rw [cnd_n (by rfl), cnd_y (by rfl), call_w (r_place h)]; rfl
  | O => rw [cnd_n (by rfl), cnd_n (by rfl), cnd_y (by rfl), call_w (r_place h)]; rfl
  | I => rw [cnd_n (by rfl), cnd_n (by rfl), cnd_n (by rfl), cnd_y (by rfl), call_w (r_small h)]; rfl
  | A => rw [cnd_n (by rfl), cnd_n (by rfl), cnd_n (by rfl), cnd_n (by rfl), cnd_y (by rfl), call_w (r_small h)]; rfl
  | T => rw [cnd_n (by rfl), cnd_n (by rfl), cnd_n (by rfl), cnd_n (by rfl), cnd_n (by rfl), cnd_y (by rfl), call_w (r_small h)]; rfl
  | D => rw [cnd_n (by rfl), cnd_n (by rfl), cnd_n (by rfl), cnd_n (by rfl), cnd_n (by rfl), cnd_n (by rfl), cnd_y (by rfl), call_w (r_small h)]; rfl
  | Q => rw [cnd_n (by rfl), cnd_n (by rfl), cnd_n (by rfl), cnd_n (by rfl), cnd_n (by rfl), cnd_n (by rfl), cnd_n (by rfl), cnd_y (by rfl), call_w (r_pInt h.1 h.2)]; rfl
  | P => rw [cnd_n (by rfl), cnd_n (by rfl), cnd_n (by rfl), cnd_n (by rfl), cnd_n (by rfl), cnd_n (by rfl), cnd_n (by rfl), cnd_n (by rfl), cnd_y (by rfl), call_w (r_pInt h.1 h.2)]; rfl
  | N => rw [cnd_n (by rfl), cnd_n (by rfl), cnd_n (by rfl), cnd_n (by rfl), cnd_n (by rfl), cnd_n (by rfl), cnd_n (by rfl), cnd_n (by rfl), cnd_n (by rfl), cnd_y (by rfl), call_w (r_numbers h)]; rfl
theorem nC_len : ∀ (n : Nat) (s : S) (acc : List Int), (nC n s acc).2.1.length ≤ s.1.length
  | 0, s, acc => Nat.le_refl _
  | n + 1, s, acc => by
    unfold nC; split
    · exact Nat.le_trans (nC_len n _ _) rd_len
    · exact Nat.le_refl _
theorem parC_len (L : Lt) (s : S) : (parC L s).2.1.length ≤ s.1.length := by
  cases L with
  | N => exact Nat.le_trans (nC_len _ _ _) rd_len
  | U => exact Nat.le_trans rd_len rd_len
  | O => exact Nat.le_trans rd_len rd_len
  | _ => exact rd_len
theorem okS_par {L : Lt} {s : S} (h : okS s) : okS (parC L s).2 := ⟨parC_bt h.1, Nat.lt_of_le_of_lt (parC_len L s) h.2⟩
def zeroC : ACommand' := (0, (0, (0, ((0, (0, ())), ((0, (0, ())), (0, (0, (0, (0, (0, (0, ([], ()))))))))))))
def op0 (op by_ : Int) : ACommand' := (op, (by_, zeroC.2.2))
def finC (r : ACommand' × S) : ACommand' × Int × Unit := if endE r.2 ≠ 0 then (zeroC, (3, ())) else (r.1, (0, ()))
def readC (b : List Int) : ACommand' × S := runC (fl (rd 1 31 (b, 0)).1) (rd 0 8 (rd 1 31 (b, 0)).2).2 (op0 (rd 1 31 (b, 0)).1 (rd 0 8 (rd 1 31 (b, 0)).2).1)
theorem runC_step {ls : List Lt} {i : Nat} (h : i < ls.length) (s : S) (c : ACommand') : runC (ls.drop i) s c = runC (ls.drop (i + 1)) (parC ls[i] s).2 (put ls[i] (parC ls[i] s).1 c) := by
  rw [List.drop_eq_getElem_cons h]; rfl
theorem r_read {b : List Int} (hb : Bt b) (hl : b.length ≤ 100000000) : cmd_read b = some (finC (readC b)) := by
  show cmd_readW stdW b = _
  unfold cmd_readW
  have h0 : okS (b, 0) := ⟨hb, by show b.length < _; omega⟩
  rw [call_w (r_open hl)]
  show stdW.call (pack_Reader_Int 1 31 true (b, (0 : Int)).1 (b, (0 : Int)).2) _ = _
  rw [call_w (r_pInt h0.1 h0.2)]
  have h1 := okS_rd (lo := 1) (hi := 31) h0
  show stdW.call (cmd_small 8 true (rd 1 31 (b, 0)).2.1 (rd 1 31 (b, 0)).2.2) _ = _
  rw [call_w (r_small h1)]
  have h2 := okS_rd (lo := 0) (hi := 8) h1
  show stdW.call (cmd_Fields (rd 1 31 (b, 0)).1) _ = _
  rw [call_w (r_cFields _)]
  unfold readC
  have hls := fl_len (rd 1 31 (b, 0)).1
  generalize fl (rd 1 31 (b, 0)).1 = ls at *
  refine (loop_std (fun z => ls.length - z.2.2.2.2.2.2.2.2.2.2.2.2.2.2.2.2.2.1.toNat) (fun z => ∃ (i : Nat) (t : S) (c : ACommand'), z = (true, (t.1, (t.2, (c.1, (c.2.1, (c.2.2.1, (c.2.2.2.1.1, (c.2.2.2.1.2.1, (c.2.2.2.2.1.1, (c.2.2.2.2.1.2.1, (c.2.2.2.2.2.1, (c.2.2.2.2.2.2.1, (c.2.2.2.2.2.2.2.1, (c.2.2.2.2.2.2.2.2.1, (c.2.2.2.2.2.2.2.2.2.1, (c.2.2.2.2.2.2.2.2.2.2.1, (str ls, ((i : Int), (c.2.2.2.2.2.2.2.2.2.2.2.1, ())))))))))))))))))))
      ∧ i ≤ ls.length ∧ okS t ∧ runC (ls.drop i) t c = runC ls (rd 0 8 (rd 1 31 (b, 0)).2).2 (op0 (rd 1 31 (b, 0)).1 (rd 0 8 (rd 1 31 (b, 0)).2).1)) (fun _ => some (finC (runC ls (rd 0 8 (rd 1 31 (b, 0)).2).2 (op0 (rd 1 31 (b, 0)).1 (rd 0 8 (rd 1 31 (b, 0)).2).1))))
    ⟨0, (rd 0 8 (rd 1 31 (b, 0)).2).2, op0 (rd 1 31 (b, 0)).1 (rd 0 8 (rd 1 31 (b, 0)).2).1, rfl, by omega, h2, rfl⟩ ?_ ?_)
  · have : ls.length < 18446744073709551616 := by omega
    omega
  · rintro _ ⟨i, t, c, rfl, hi, ht, he⟩ again ha
    show stdW.next (str ls) (i : Int) _ _ = _
    by_cases hlt : i < ls.length
    · rw [next_w ls i hlt]
      show stdW.call (cmd_take ((ls[i]).code : Int) true t.1 t.2 c.1 c.2.1 c.2.2.1 c.2.2.2.1.1 c.2.2.2.1.2.1 c.2.2.2.2.1.1 c.2.2.2.2.1.2.1 c.2.2.2.2.2.1 c.2.2.2.2.2.2.1 c.2.2.2.2.2.2.2.1 c.2.2.2.2.2.2.2.2.1 c.2.2.2.2.2.2.2.2.2.1 c.2.2.2.2.2.2.2.2.2.2.1 c.2.2.2.2.2.2.2.2.2.2.2.1) _ = _
      rw [call_w (r_take _ ht c)]
      rw [runC_step hlt] at he
      exact ha _ ⟨i + 1, (parC ls[i] t).2, put ls[i] (parC ls[i] t).1 c, rfl, by omega, okS_par ht, he⟩ (by show ls.length - ((i + 1 : Nat) : Int).toNat < ls.length - ((i : Nat) : Int).toNat; omega)
    · obtain rfl : i = ls.length := by omega
      rw [next_e ls _ (Nat.le_refl _)]
      rw [List.drop_length] at he
      rw [← he]
      show stdW.call (pack_Reader_End true t.1 t.2) _ = _
      rw [call_w (r_pEnd t)]
      unfold finC
      show stdW.cnd (endE t != 0) _ _ = _
      by_cases h3 : endE t = 0
      · rw [cnd_n (by simp [h3]), if_neg (by simpa [runC] using h3)]; rfl
      · rw [cnd_y (by simp [h3]), if_pos (by simpa [runC] using h3)]; rfl
theorem r_decode {b : List Int} (hb : Bt b) (hl : b.length ≤ 100000000) : cmd_Decode b = some (finC (readC b)) := by
  show cmd_DecodeW stdW b = _
  unfold cmd_DecodeW
  rw [call_w (r_read hb hl)]
end Go.Proofs.Ytnldhkhnfodplaa

namespace Go.Proofs.Ytnldhkhnfodplaa
open Go Go.Vc Go.RowKit
/-! ### which commands may be -/
theorem code_inj {a b : Lt} (h : ((a.code : Nat) : Int) = ((b.code : Nat) : Int)) : a = b := by
  cases a <;> cases b <;> first | rfl | (exact absurd h (by decide))
theorem r_has (ls : List Lt) (L : Lt) (hl : ls.length ≤ 1000) : ref34_has (str ls) (L.code : Int) = some (decide (L ∈ ls)) := by
  show ref34_hasW stdW (str ls) (L.code : Int) = _
  unfold ref34_hasW
  refine loop_list (l := ls) (by omega) (fun i _ => L ∉ ls.take i) (fun r _ => some (decide (L ∈ r))) (s0 := ()) (by simp) ?_ ?_ |>.trans ?_
  · rintro ⟨⟩ again _
    rw [str_size, cnd_end]; rfl
  · rintro i hi ⟨⟩ hn again ha
    rw [str_size, cnd_lt hi]
    show stdW.sidx (str ls) (i : Int) _ = _
    rw [sidx_w ls i hi]
    by_cases h : ls[i] = L
    · rw [cnd_y (by simp [h]), decide_eq_true (by simp [h])]
    · rw [cnd_n (by simpa using fun e => h (code_inj (by exact_mod_cast e)))]
      show again (IntKind.i64.wrap ((i : Int) + 1), ()) = _
      rw [i64_s i (by omega), ha () (by
        rw [show ls.take (i + 1) = ls.take i ++ [ls[i]] by simp, List.mem_append, List.mem_singleton]
        rintro (h1 | h1)
        · exact hn h1
        · exact h h1.symm)]
      congr 1
      apply decide_eq_decide.2
      rw [List.mem_cons]
      exact ⟨.inr, fun h' => h'.resolve_left (Ne.symm h)⟩
  · rfl
def wi (n to_ : Int) (b : Bool) : Bool := decide (n = 0) || (b && (decide (0 < n) && decide (n ≤ to_)))
theorem r_within (n to_ : Int) (b : Bool) : ref34_within n to_ b = some (wi n to_ b) := by
  show ref34_withinW stdW n to_ b = _
  unfold ref34_withinW wi
  by_cases h : n = 0
  · rw [cnd_y (by simp [h])]; simp [h]
  · rw [cnd_n (by simp [h])]
    cases b
    · rw [cnd_n (by rfl)]; simp [h]
    · rw [cnd_y (by rfl)]
      by_cases h1 : 0 < n
      · rw [cnd_y (by simpa using h1)]; simp [h, h1]
      · rw [cnd_n (by simpa using h1)]; simp [h, h1]
def hs (c : ACommand') (L : Lt) : Bool := decide (L ∈ fl c.1)
def isB (c : ACommand') : Bool :=
  (!(decide (c.1 < 1) || decide (31 < c.1) || decide (c.2.1 < 0) || decide (8 < c.2.1))) &&
  (wi c.2.2.1 8 (hs c .M) && (wi c.2.2.2.2.2.1 8 (hs c .I) && (wi c.2.2.2.2.2.2.1 4 (hs c .A) && (wi c.2.2.2.2.2.2.2.1 255 (hs c .T) && wi c.2.2.2.2.2.2.2.2.1 1048576 (hs c .D))))) &&
  (wi c.2.2.2.1.1 16 (hs c .U) && (wi c.2.2.2.1.2.1 16 (hs c .U) && (wi c.2.2.2.2.1.1 16 (hs c .O) && wi c.2.2.2.2.1.2.1 16 (hs c .O)))) &&
  ((decide (c.2.2.2.2.2.2.2.2.2.1 = 0) || hs c .Q) && (decide (c.2.2.2.2.2.2.2.2.2.2.1 = 0) || hs c .P)) &&
  (decide (c.2.2.2.2.2.2.2.2.2.2.2.1.length = 0) || (hs c .N && decide (c.2.2.2.2.2.2.2.2.2.2.2.1.length ≤ 32)))
theorem r_is (c : ACommand') : ref34_Is c = some (isB c) := by
  show ref34_IsW stdW c = _
  unfold ref34_IsW
  have hl : (fl c.1).length ≤ 1000 := Nat.le_trans (fl_len c.1) (by omega)
  have hM : ref34_has (str (fl c.1)) 77 = some (hs c .M) := r_has _ .M hl
  have hU : ref34_has (str (fl c.1)) 85 = some (hs c .U) := r_has _ .U hl
  have hO : ref34_has (str (fl c.1)) 79 = some (hs c .O) := r_has _ .O hl
  have hI : ref34_has (str (fl c.1)) 73 = some (hs c .I) := r_has _ .I hl
  have hA : ref34_has (str (fl c.1)) 65 = some (hs c .A) := r_has _ .A hl
  have hT : ref34_has (str (fl c.1)) 84 = some (hs c .T) := r_has _ .T hl
  have hD : ref34_has (str (fl c.1)) 68 = some (hs c .D) := r_has _ .D hl
  have hQ : ref34_has (str (fl c.1)) 81 = some (hs c .Q) := r_has _ .Q hl
  have hP : ref34_has (str (fl c.1)) 80 = some (hs c .P) := r_has _ .P hl
  have hN : ref34_has (str (fl c.1)) 78 = some (hs c .N) := r_has _ .N hl
  rw [call_w (r_rFields _)]
  simp only [hM, hU, hO, hI, hA, hT, hD, hQ, hP, hN, r_within, Option.bind_some, both_eq, joinF]
  unfold isB
  have e0 : ((c.2.2.2.2.2.2.2.2.2.2.2.1.length : Int) == 0) = decide (c.2.2.2.2.2.2.2.2.2.2.2.1.length = 0) := by
    by_cases h : c.2.2.2.2.2.2.2.2.2.2.2.1.length = 0 <;> simp [h]
  have e1 : decide ((c.2.2.2.2.2.2.2.2.2.2.2.1.length : Int) ≤ 32) = decide (c.2.2.2.2.2.2.2.2.2.2.2.1.length ≤ 32) := decide_eq_decide.2 (by omega)
  have e2 : (c.2.2.2.2.2.2.2.2.2.1 != 0) = !decide (c.2.2.2.2.2.2.2.2.2.1 = 0) := by by_cases h : c.2.2.2.2.2.2.2.2.2.1 = 0 <;> simp [h]
  have e3 : (c.2.2.2.2.2.2.2.2.2.2.1 != 0) = !decide (c.2.2.2.2.2.2.2.2.2.2.1 = 0) := by by_cases h : c.2.2.2.2.2.2.2.2.2.2.1 = 0 <;> simp [h]
  rw [e0, e1, e2, e3]
  generalize wi c.2.2.1 8 (hs c .M) = b1
  generalize wi c.2.2.2.2.2.1 8 (hs c .I) = b2
  generalize wi c.2.2.2.2.2.2.1 4 (hs c .A) = b3
  generalize wi c.2.2.2.2.2.2.2.1 255 (hs c .T) = b4
  generalize wi c.2.2.2.2.2.2.2.2.1 1048576 (hs c .D) = b5
  generalize wi c.2.2.2.1.1 16 (hs c .U) = b6
  generalize wi c.2.2.2.1.2.1 16 (hs c .U) = b7
  generalize wi c.2.2.2.2.1.1 16 (hs c .O) = b8
  generalize wi c.2.2.2.2.1.2.1 16 (hs c .O) = b9
  generalize decide (c.2.2.2.2.2.2.2.2.2.1 = 0) = q0
  generalize decide (c.2.2.2.2.2.2.2.2.2.2.1 = 0) = p0
  generalize decide (c.2.2.2.2.2.2.2.2.2.2.2.1.length = 0) = n0
  generalize decide (c.2.2.2.2.2.2.2.2.2.2.2.1.length ≤ 32) = n1
  generalize hs c .Q = hq
  generalize hs c .P = hp
  generalize hs c .N = hn
  generalize decide (c.1 < 1) = o1
  generalize decide (31 < c.1) = o2
  generalize decide (c.2.1 < 0) = o3
  generalize decide (8 < c.2.1) = o4
  cases o1 <;> try rfl
  cases o2 <;> try rfl
  cases o3 <;> try rfl
  cases o4 <;> try rfl
  cases b1 <;> try rfl
  cases b2 <;> try rfl
  cases b3 <;> try rfl
  cases b4 <;> try rfl
  cases b5 <;> try rfl
  cases b6 <;> try rfl
  cases b7 <;> try rfl
  cases b8 <;> try rfl
  cases b9 <;> try rfl
  cases q0 <;> cases hq <;> cases p0 <;> cases hp <;> cases n0 <;> cases hn <;> cases n1 <;> rfl
end Go.Proofs.Ytnldhkhnfodplaa

namespace Go.Proofs.Ytnldhkhnfodplaa
open Go Go.Vc Go.RowKit
/-! ### the reference's reading of a command -/
theorem r_get {s : S} (h : okS s) : ref34_get s.1 s.2 = some ((rd LO HI s).1, ((rd LO HI s).2.1, ((rd LO HI s).2.2, ()))) := by
  show ref34_getW stdW s.1 s.2 = _
  unfold ref34_getW
  rw [call_w (r_rGet h.1 h.2)]
def finR (r : ACommand' × S) : ACommand' × Int × Unit := if endE r.2 ≠ 0 ∨ isB r.1 = false then (zeroC, (3, ())) else (r.1, (0, ()))
def readR (b : List Int) : ACommand' × S := runR (fl (rd LO HI (b, 0)).1) (rd LO HI (rd LO HI (b, 0)).2).2 (op0 (rd LO HI (b, 0)).1 (rd LO HI (rd LO HI (b, 0)).2).1)
theorem nR_bt : ∀ (n : Nat) (s : S) (acc : List Int), okS s → okS (nR n s acc).2
  | 0, s, acc, h => h
  | n + 1, s, acc, h => nR_bt n _ _ (okS_rd h)
theorem okS_parR {L : Lt} {s : S} (h : okS s) : okS (parR L s).2 := by
  cases L with
  | N => exact nR_bt _ _ _ (okS_rd h)
  | U => exact okS_rd (okS_rd h)
  | O => exact okS_rd (okS_rd h)
  | _ => exact okS_rd h
theorem runR_step {ls : List Lt} {i : Nat} (h : i < ls.length) (s : S) (c : ACommand') : runR (ls.drop i) s c = runR (ls.drop (i + 1)) (parR ls[i] s).2 (put ls[i] (parR ls[i] s).1 c) := by
  rw [List.drop_eq_getElem_cons h]; rfl
def numsOf (c : ACommand') : List Int := c.2.2.2.2.2.2.2.2.2.2.2.1
def setN (c : ACommand') (l : List Int) : ACommand' := (c.1, (c.2.1, (c.2.2.1, (c.2.2.2.1, (c.2.2.2.2.1, (c.2.2.2.2.2.1, (c.2.2.2.2.2.2.1, (c.2.2.2.2.2.2.2.1, (c.2.2.2.2.2.2.2.2.1, (c.2.2.2.2.2.2.2.2.2.1, (c.2.2.2.2.2.2.2.2.2.2.1, (l, ()))))))))))))
theorem numsOf_put {L : Lt} (h : L ≠ .N) (v : List Int) (c : ACommand') : numsOf (put L v c) = numsOf c := by
  cases L <;> first | exact absurd rfl h | rfl
theorem r_rDecode {b : List Int} (hb : Bt b) (hl : b.length ≤ 100000000) : ref34_Decode b = some (finR (readR b)) := by
  show ref34_DecodeW stdW b = _
  unfold ref34_DecodeW
  have h0 : okS (b, 0) := ⟨hb, by show b.length < _; omega⟩
  show stdW.call (ref34_get (b, (0 : Int)).1 (b, (0 : Int)).2) _ = _
  rw [call_w (r_get h0)]
  have h1 := okS_rd (lo := LO) (hi := HI) h0
  show stdW.call (ref34_get (rd LO HI (b, 0)).2.1 (rd LO HI (b, 0)).2.2) _ = _
  rw [call_w (r_get h1)]
  have h2 := okS_rd (lo := LO) (hi := HI) h1
  show stdW.call (ref34_Fields (rd LO HI (b, 0)).1) _ = _
  rw [call_w (r_rFields _)]
  unfold readR
  have hls := fl_len (rd LO HI (b, 0)).1
  have hnd := fl_nodup (rd LO HI (b, 0)).1
  generalize fl (rd LO HI (b, 0)).1 = ls at *
  refine (loop_std (fun z => ls.length - z.1.toNat) (fun z => ∃ (i : Nat) (t : S) (c : ACommand'), z = ((i : Int), (t.1, (t.2, flatT c))) ∧ i ≤ ls.length ∧ okS t ∧ (Lt.N ∈ ls.drop i → numsOf c = []) ∧
      runR (ls.drop i) t c = runR ls (rd LO HI (rd LO HI (b, 0)).2).2 (op0 (rd LO HI (b, 0)).1 (rd LO HI (rd LO HI (b, 0)).2).1)) (fun _ => some (finR (runR ls (rd LO HI (rd LO HI (b, 0)).2).2 (op0 (rd LO HI (b, 0)).1 (rd LO HI (rd LO HI (b, 0)).2).1))))
    ⟨0, (rd LO HI (rd LO HI (b, 0)).2).2, op0 (rd LO HI (b, 0)).1 (rd LO HI (rd LO HI (b, 0)).2).1, rfl, by omega, h2, fun _ => rfl, rfl⟩ ?_ ?_)
  · omega
  · rintro _ ⟨i, t, c, rfl, hi, ht, hN, he⟩ again ha
    show stdW.cnd (decide ((i : Int) < ((str ls).size : Int))) _ _ = _
    rw [str_size]
    by_cases hlt : i < ls.length
    · rw [cnd_lt hlt, join_w]
      show stdW.sidx (str ls) (i : Int) _ = _
      rw [sidx_w ls i hlt]
      have fin : ∀ L : Lt, ls[i] = L → again (IntKind.i64.wrap ((i : Int) + 1), ((parR L t).2.1, ((parR L t).2.2, flatT (put L (parR L t).1 c)))) = some (finR (runR ls (rd LO HI (rd LO HI (b, 0)).2).2 (op0 (rd LO HI (b, 0)).1 (rd LO HI (rd LO HI (b, 0)).2).1))) := by
        intro L hL
        rw [i64_s i (by omega)]
        rw [runR_step hlt, hL] at he
        refine ha _ ⟨i + 1, (parR L t).2, put L (parR L t).1 c, rfl, by omega, okS_parR ht, fun hm => ?_, he⟩ (by show ls.length - ((i + 1 : Nat) : Int).toNat < ls.length - ((i : Nat) : Int).toNat; omega)
        have hd : ls.drop i = L :: ls.drop (i + 1) := by rw [List.drop_eq_getElem_cons hlt, hL]
        have hnd' : (L :: ls.drop (i + 1)).Nodup := hd ▸ hnd.sublist (List.drop_sublist i ls)
        have hne : L ≠ .N := fun e => by subst e; exact (List.nodup_cons.1 hnd').1 hm
        rw [numsOf_put hne]
        exact hN (by rw [hd]; exact List.mem_cons_of_mem _ hm)
      have hNi : ls[i] = .N → numsOf c = [] := fun e => hN (by rw [List.drop_eq_getElem_cons hlt, e]; exact List.mem_cons_self)
      cases hL : ls[i] with
      | M => rw [cnd_y (by rfl)]; show stdW.call (ref34_get t.1 t.2) _ = _; rw [call_w (r_get ht)]; exact fin _ hL
      | U =>
        rw [cnd_n (by rfl), cnd_y (by rfl)]; show stdW.call (ref34_get t.1 t.2) _ = _; rw [call_w (r_get ht)]
        show stdW.call (ref34_get (rd LO HI t).2.1 (rd LO HI t).2.2) _ = _; rw [call_w (r_get (okS_rd ht))]; exact fin _ hL
      | O =>
        rw [cnd_n (by rfl), cnd_n (by rfl), cnd_y (by rfl)]; show stdW.call (ref34_get t.1 t.2) _ = _; rw [call_w (r_get ht)]
        show stdW.call (ref34_get (rd LO HI t).2.1 (rd LO HI t).2.2) _ = _; rw [call_w (r_get (okS_rd ht))]; exact fin _ hL
      | I => rw [cnd_n (by rfl), cnd_n (by rfl), cnd_n (by rfl), cnd_y (by rfl)]; show stdW.call (ref34_get t.1 t.2) _ = _; rw [call_w (r_get ht)]; exact fin _ hL
      | A => rw [cnd_n (by rfl), cnd_n (by rfl), cnd_n (by rfl), cnd_n (by rfl), cnd_y (by rfl)]; show stdW.call (ref34_get t.1 t.2) _ = _; rw [call_w (r_get ht)]; exact fin _ hL
      | T => rw [cnd_n (by rfl), cnd_n (by rfl), cnd_n (by rfl), cnd_n (by rfl), cnd_n (by rfl), cnd_y (by rfl)]; show stdW.call (ref34_get t.1 t.2) _ = _; rw [call_w (r_get ht)]; exact fin _ hL
      | D => rw [cnd_n (by rfl), cnd_n (by rfl), cnd_n (by rfl), cnd_n (by rfl), cnd_n (by rfl), cnd_n (by rfl), cnd_y (by rfl)]; show stdW.call (ref34_get t.1 t.2) _ = _; rw [call_w (r_get ht)]; exact fin _ hL
      | Q => rw [cnd_n (by rfl), cnd_n (by rfl), cnd_n (by rfl), cnd_n (by rfl), cnd_n (by rfl), cnd_n (by rfl), cnd_n (by rfl), cnd_y (by rfl)]; show stdW.call (ref34_get t.1 t.2) _ = _; rw [call_w (r_get ht)]; exact fin _ hL
      | P => rw [cnd_n (by rfl), cnd_n (by rfl), cnd_n (by rfl), cnd_n (by rfl), cnd_n (by rfl), cnd_n (by rfl), cnd_n (by rfl), cnd_n (by rfl), cnd_y (by rfl)]; show stdW.call (ref34_get t.1 t.2) _ = _; rw [call_w (r_get ht)]; exact fin _ hL
      | N =>
        rw [cnd_n (by rfl), cnd_n (by rfl), cnd_n (by rfl), cnd_n (by rfl), cnd_n (by rfl), cnd_n (by rfl), cnd_n (by rfl), cnd_n (by rfl), cnd_n (by rfl), cnd_y (by rfl)]
        show stdW.call (ref04_Reader_Get 0 32 t.1 t.2) _ = _
        rw [call_w (r_rGet ht.1 ht.2)]
        have hr := rd_rng (hi := 32) (s := t) (by omega)
        have F := fin _ hL
        have hput : put .N (parR .N t).1 c = setN c (nR (rd 0 32 t).1.toNat (rd 0 32 t).2 []).1 := rfl
        rw [hput] at F
        have hpar : (parR .N t).2 = (nR (rd 0 32 t).1.toNat (rd 0 32 t).2 []).2 := rfl
        rw [hpar] at F
        obtain ⟨n, hn⟩ := Int.eq_ofNat_of_zero_le hr.1
        rw [hn, Int.toNat_natCast] at F
        have hn32 : n ≤ 32 := by omega
        show stdW.loop _ (0, ((rd 0 32 t).2.1, ((rd 0 32 t).2.2, flatT c))) = _
        refine loop_n (N := n) (by omega) (fun k s' => ∃ (u : S) (acc : List Int), s' = (u.1, (u.2, flatT (setN c acc))) ∧ okS u ∧ acc.length ≤ k ∧ nR (n - k) u acc = nR n (rd 0 32 t).2 []) _ ⟨(rd 0 32 t).2, [], by rw [← hNi hL]; rfl, okS_rd ht, by simp, rfl⟩ ?_ ?_
        · rintro _ again22 ⟨u, acc, rfl, hu, hal, hnr⟩
          show stdW.cnd (decide ((n : Int) < (rd 0 32 t).1)) _ _ = _
          rw [hn, cnd_end]
          rw [Nat.sub_self] at hnr
          change (acc, u) = _ at hnr
          rw [← hnr] at F
          exact F
        · rintro k hk _ ⟨u, acc, rfl, hu, hal, hnr⟩ again22 ha22
          show stdW.cnd (decide ((k : Int) < (rd 0 32 t).1)) _ _ = _
          rw [hn, cnd_lt hk, join_w]
          have body : stdW.room (acc.length + 1) 8 (again22 (IntKind.i64.wrap ((k : Int) + 1), ((rd LO HI u).2.1, ((rd LO HI u).2.2, flatT (setN c (acc ++ [(rd LO HI u).1])))))) = some (finR (runR ls (rd LO HI (rd LO HI (b, 0)).2).2 (op0 (rd LO HI (b, 0)).1 (rd LO HI (rd LO HI (b, 0)).2).1))) := by
            rw [room_w (by omega) (by omega), i64_s k (by omega)]
            refine ha22 _ ⟨(rd LO HI u).2, _, rfl, okS_rd hu, by simp; omega, ?_⟩
            rw [show n - k = (n - (k + 1)) + 1 by omega] at hnr
            exact hnr
          show stdW.both (stdW.call (ref34_get u.1 u.2) _) (stdW.call (ref34_get u.1 u.2) _) = _
          rw [call_w (r_get hu), call_w (r_get hu), both_w]
          refine Eq.trans ?_ body
          exact both_w _
    · rw [cnd_n (decide_eq_false (by omega)), join_w]
      obtain rfl : i = ls.length := by omega
      rw [List.drop_length] at he
      rw [← he]
      show stdW.call (ref04_Reader_End t.1 t.2) _ = _
      rw [call_w (r_rEnd t)]
      unfold finR
      by_cases h3 : endE t = 0
      · rw [cnd_n (by simp [h3])]
        show stdW.call (ref34_Is c) _ = _
        rw [call_w (r_is c)]
        show stdW.cnd (!isB c) _ _ = _
        cases h4 : isB c
        · rw [cnd_y (by rfl), if_pos (by right; exact h4)]; rfl
        · rw [cnd_n (by rfl), if_neg (by simp [runR, h3, h4])]; rfl
      · rw [cnd_y (by simp [h3]), if_pos (by left; exact h3)]
        show stdW.cnd true _ _ = _
        rw [cnd_y (by rfl)]; rfl
end Go.Proofs.Ytnldhkhnfodplaa

namespace Go.Proofs.Ytnldhkhnfodplaa
open Go Go.Vc Go.RowKit
/-! ### both readings are one -/
theorem put_op (L : Lt) (v : List Int) (c : ACommand') : (put L v c).1 = c.1 ∧ (put L v c).2.1 = c.2.1 := by cases L <;> exact ⟨rfl, rfl⟩
theorem runC_op : ∀ (ls : List Lt) (s : S) (c : ACommand'), (runC ls s c).1.1 = c.1 ∧ (runC ls s c).1.2.1 = c.2.1
  | [], s, c => ⟨rfl, rfl⟩
  | L :: ls, s, c => by
    have h1 := runC_op ls (parC L s).2 (put L (parC L s).1 c)
    have h2 := put_op L (parC L s).1 c
    exact ⟨h1.1.trans h2.1, h1.2.trans h2.2⟩
theorem runR_op : ∀ (ls : List Lt) (s : S) (c : ACommand'), (runR ls s c).1.1 = c.1 ∧ (runR ls s c).1.2.1 = c.2.1
  | [], s, c => ⟨rfl, rfl⟩
  | L :: ls, s, c => by
    have h1 := runR_op ls (parR L s).2 (put L (parR L s).1 c)
    have h2 := put_op L (parR L s).1 c
    exact ⟨h1.1.trans h2.1, h1.2.trans h2.2⟩
def zeroV (L : Lt) (c : ACommand') : Prop := ∀ x ∈ vals L c, x = 0
theorem zero_op0 (L : Lt) (a b : Int) : zeroV L (op0 a b) := by
  intro x hx
  cases L <;> simp [vals, op0, zeroC] at hx <;> first | exact hx | (rcases hx with h | h <;> exact h)
theorem wi_t {n t : Int} : wi n t true = true ↔ 0 ≤ n ∧ n ≤ t ∨ n = 0 := by
  unfold wi; simp; omega
theorem wi_f {n t : Int} : wi n t false = true ↔ n = 0 := by unfold wi; simp
theorem isB_true (c : ACommand') : isB c = true ↔ (1 ≤ c.1 ∧ c.1 ≤ 31) ∧ (0 ≤ c.2.1 ∧ c.2.1 ≤ 8) ∧ (∀ L, L ∈ fl c.1 → okV L (vals L c)) ∧ (∀ L, L ∉ fl c.1 → zeroV L c) := by
  have w1 : ∀ (L : Lt) (n t : Int), 0 ≤ t → (wi n t (hs c L) = true ↔ (L ∈ fl c.1 → 0 ≤ n ∧ n ≤ t) ∧ (L ∉ fl c.1 → n = 0)) := by
    intro L n t ht
    unfold hs
    by_cases h : L ∈ fl c.1
    · rw [decide_eq_true h, wi_t]; simp only [h, true_implies, not_true, false_implies, and_true]; omega
    · rw [decide_eq_false h, wi_f]; simp only [h, false_implies, not_false_iff, true_implies, true_and]
  have w2 : ∀ (L : Lt) (p : Bool), (p || hs c L) = true ↔ (L ∉ fl c.1 → p = true) := by
    intro L p
    unfold hs
    by_cases h : L ∈ fl c.1
    · simp [h]
    · simp [h]
  unfold isB
  simp only [Bool.and_eq_true, w1 _ _ 8 (by omega), w1 _ _ 4 (by omega), w1 _ _ 255 (by omega), w1 _ _ 1048576 (by omega), w1 _ _ 16 (by omega), w2, Bool.not_eq_true', Bool.or_eq_false_iff, decide_eq_false_iff_not, decide_eq_true_eq]
  have wn : (decide (c.2.2.2.2.2.2.2.2.2.2.2.1.length = 0) || (hs c .N && decide (c.2.2.2.2.2.2.2.2.2.2.2.1.length ≤ 32))) = true ↔ (Lt.N ∈ fl c.1 → c.2.2.2.2.2.2.2.2.2.2.2.1.length ≤ 32) ∧ (Lt.N ∉ fl c.1 → c.2.2.2.2.2.2.2.2.2.2.2.1.length = 0) := by
    unfold hs
    by_cases h : Lt.N ∈ fl c.1
    · rw [decide_eq_true h]
      simp only [Bool.true_and, Bool.or_eq_true, decide_eq_true_eq, h, true_implies, not_true, false_implies, and_true]; omega
    · simp [h]
  rw [wn]
  constructor
  · rintro ⟨⟨⟨⟨⟨⟨⟨h1, h2⟩, h3⟩, h4⟩, hM, hI, hA, hT, hD⟩, hU1, hU2, hO1, hO2⟩, hQ, hP⟩, hN⟩
    refine ⟨by omega, by omega, fun L hL => ?_, fun L hL => ?_⟩
    · cases L with
      | M => intro x hx; simp only [vals, List.mem_singleton] at hx; subst hx; exact hM.1 hL
      | I => intro x hx; simp only [vals, List.mem_singleton] at hx; subst hx; exact hI.1 hL
      | A => intro x hx; simp only [vals, List.mem_singleton] at hx; subst hx; exact hA.1 hL
      | T => intro x hx; simp only [vals, List.mem_singleton] at hx; subst hx; exact hT.1 hL
      | D => intro x hx; simp only [vals, List.mem_singleton] at hx; subst hx; exact hD.1 hL
      | U => intro x hx; simp only [vals, List.mem_cons, List.not_mem_nil, or_false] at hx; rcases hx with rfl | rfl; exact hU1.1 hL; exact hU2.1 hL
      | O => intro x hx; simp only [vals, List.mem_cons, List.not_mem_nil, or_false] at hx; rcases hx with rfl | rfl; exact hO1.1 hL; exact hO2.1 hL
      | Q => trivial
      | P => trivial
      | N => exact hN.1 hL
    · intro x hx
      cases L with
      | M => simp only [vals, List.mem_singleton] at hx; subst hx; exact hM.2 hL
      | I => simp only [vals, List.mem_singleton] at hx; subst hx; exact hI.2 hL
      | A => simp only [vals, List.mem_singleton] at hx; subst hx; exact hA.2 hL
      | T => simp only [vals, List.mem_singleton] at hx; subst hx; exact hT.2 hL
      | D => simp only [vals, List.mem_singleton] at hx; subst hx; exact hD.2 hL
      | U => simp only [vals, List.mem_cons, List.not_mem_nil, or_false] at hx; rcases hx with rfl | rfl; exact hU1.2 hL; exact hU2.2 hL
      | O => simp only [vals, List.mem_cons, List.not_mem_nil, or_false] at hx; rcases hx with rfl | rfl; exact hO1.2 hL; exact hO2.2 hL
      | Q => simp only [vals, List.mem_singleton] at hx; subst hx; exact hQ hL
      | P => simp only [vals, List.mem_singleton] at hx; subst hx; exact hP hL
      | N =>
        have h0 := hN.2 hL
        have h1 : c.2.2.2.2.2.2.2.2.2.2.2.1 = [] := List.length_eq_zero_iff.1 h0
        simp only [vals, h1, List.length_nil, List.mem_singleton] at hx
        simpa using hx
  · rintro ⟨h1, h2, h3, h4⟩
    have one : ∀ (L : Lt) (n : Int), vals L c = [n] → (okV L (vals L c) → 0 ≤ n ∧ n ≤ top L) → (L ∈ fl c.1 → 0 ≤ n ∧ n ≤ top L) ∧ (L ∉ fl c.1 → n = 0) :=
      fun L n hv ho => ⟨fun h => ho (h3 L h), fun h => h4 L h n (by rw [hv]; simp)⟩
    refine ⟨⟨⟨⟨⟨⟨⟨by omega, by omega⟩, by omega⟩, by omega⟩, ?_, ?_, ?_, ?_, ?_⟩, ?_, ?_, ?_, ?_⟩, ?_, ?_⟩, ?_⟩
    · exact one .M _ rfl fun h => h _ (by simp [vals])
    · exact one .I _ rfl fun h => h _ (by simp [vals])
    · exact one .A _ rfl fun h => h _ (by simp [vals])
    · exact one .T _ rfl fun h => h _ (by simp [vals])
    · exact one .D _ rfl fun h => h _ (by simp [vals])
    · exact ⟨fun h => h3 .U h _ (by simp [vals]), fun h => h4 .U h _ (by simp [vals])⟩
    · exact ⟨fun h => h3 .U h _ (by simp [vals]), fun h => h4 .U h _ (by simp [vals])⟩
    · exact ⟨fun h => h3 .O h _ (by simp [vals]), fun h => h4 .O h _ (by simp [vals])⟩
    · exact ⟨fun h => h3 .O h _ (by simp [vals]), fun h => h4 .O h _ (by simp [vals])⟩
    · exact fun h => h4 .Q h _ (by simp [vals])
    · exact fun h => h4 .P h _ (by simp [vals])
    · refine ⟨fun h => h3 .N h, fun h => ?_⟩
      have := h4 .N h (c.2.2.2.2.2.2.2.2.2.2.2.1.length : Int) (by simp [vals])
      omega
theorem endE_0 {s : S} (h : endE s = 0) : s.2 = 0 ∧ s.1 = [] := by
  unfold endE at h
  split at h
  · rename_i h1; exact absurd h h1
  · rename_i h1
    split at h
    · cases h
    · rename_i h2; exact ⟨by simpa using h1, List.length_eq_zero_iff.1 (by omega)⟩
/-- what holds of what is read well -/
theorem read_ok {b : List Int} (hb : Bt b) (h : endE (readC b).2 = 0) : readR b = readC b ∧ isB (readC b).1 = true ∧
    b = encs [(readC b).1.1, (readC b).1.2.1] ++ ((fl (readC b).1.1).flatMap fun L => encs (vals L (readC b).1)) ∧ (Is64 (readC b).1.1 ∧ Is64 (readC b).1.2.1 ∧ ∀ L, ∀ x ∈ vals L (readC b).1, Is64 x) ∧ (numsOf (readC b).1).length ≤ 32 := by
  obtain ⟨e0, e1⟩ := endE_0 h
  have ho := runC_op (fl (rd 1 31 (b, 0)).1) (rd 0 8 (rd 1 31 (b, 0)).2).2 (op0 (rd 1 31 (b, 0)).1 (rd 0 8 (rd 1 31 (b, 0)).2).1)
  have hB := runC_err _ _ _ e0
  have hA := rd_err hB
  have fA := rd_full hA
  have fB := rd_full hB
  have iA := rd_in hA
  have iB := rd_in hB
  obtain ⟨cA, sA⟩ := rd_canon (s := (b, 0)) hb hA
  obtain ⟨cB, sB⟩ := rd_canon (s := (rd 1 31 (b, 0)).2) (rd_bt (s := (b, 0)) hb) hB
  obtain ⟨r1, r2, r3⟩ := runC_ok (fl (rd 1 31 (b, 0)).1) (rd 0 8 (rd 1 31 (b, 0)).2).2 (op0 (rd 1 31 (b, 0)).1 (rd 0 8 (rd 1 31 (b, 0)).2).1) (fl_nodup _) (rd_bt (s := (rd 1 31 (b, 0)).2) (rd_bt (s := (b, 0)) hb)) e0
  have hop : (readC b).1.1 = (rd 1 31 (b, 0)).1 := ho.1
  have hby : (readC b).1.2.1 = (rd 0 8 (rd 1 31 (b, 0)).2).1 := ho.2
  have hz : ∀ L, L ∉ fl (rd 1 31 (b, 0)).1 → zeroV L (readC b).1 := fun L hL => by
    unfold zeroV
    rw [show vals L (readC b).1 = vals L (op0 (rd 1 31 (b, 0)).1 (rd 0 8 (rd 1 31 (b, 0)).2).1) from runC_keep _ _ _ L hL]
    exact zero_op0 L _ _
  have hB' : isB (readC b).1 = true := by
    refine (isB_true _).2 ⟨by rw [hop]; exact iA, by rw [hby]; exact iB, ?_, ?_⟩
    · rw [hop]; exact fun L hL => (r2 L hL).1
    · rw [hop]; exact hz
  refine ⟨?_, hB', ?_, ⟨by rw [hop]; exact sA, by rw [hby]; exact sB, fun L x hx => ?_⟩, ?_⟩
  · unfold readR
    rw [fA, fB]; exact r1
  · rw [hop, hby, show [(rd 1 31 (b, 0)).1, (rd 0 8 (rd 1 31 (b, 0)).2).1] = [(rd 1 31 (b, 0)).1] ++ [(rd 0 8 (rd 1 31 (b, 0)).2).1] from rfl, encs_app, encs_one, encs_one]
    have r3' : (rd 0 8 (rd 1 31 (b, 0)).2).2.1 = ((fl (rd 1 31 (b, 0)).1).flatMap fun L => encs (vals L (readC b).1)) ++ (readC b).2.1 := r3
    rw [e1, List.append_nil] at r3'
    rw [← r3', List.append_assoc, ← cB]
    exact cA
  · by_cases hL : L ∈ fl (rd 1 31 (b, 0)).1
    · exact (r2 L hL).2 x hx
    · rw [hz L hL x hx]; unfold Is64; omega
  · by_cases hL : Lt.N ∈ fl (rd 1 31 (b, 0)).1
    · exact (r2 .N hL).1
    · have := hz .N hL ((numsOf (readC b).1).length : Int) (by simp [vals, numsOf])
      omega
theorem dec_same {b : List Int} (hb : Bt b) : finR (readR b) = finC (readC b) := by
  unfold finR finC
  by_cases h : endE (readC b).2 = 0
  · obtain ⟨h1, h2, _⟩ := read_ok hb h
    rw [h1, if_neg (show ¬ (endE (readC b).2 ≠ 0 ∨ isB (readC b).1 = false) from by rw [h2]; simp [h]), if_neg (by simp [h])]
  · rw [if_pos h]
    by_cases h1 : endE (readR b).2 ≠ 0 ∨ isB (readR b).1 = false
    · rw [if_pos h1]
    · exfalso
      have h2 : endE (readR b).2 = 0 := Decidable.not_not.1 fun e => h1 (.inl e)
      have h3 : isB (readR b).1 = true := by cases h4 : isB (readR b).1; exact absurd (.inr h4) h1; rfl
      obtain ⟨e0, e1⟩ := endE_0 h2
      have ho := runR_op (fl (rd LO HI (b, 0)).1) (rd LO HI (rd LO HI (b, 0)).2).2 (op0 (rd LO HI (b, 0)).1 (rd LO HI (rd LO HI (b, 0)).2).1)
      have hop : (readR b).1.1 = (rd LO HI (b, 0)).1 := ho.1
      have hby : (readR b).1.2.1 = (rd LO HI (rd LO HI (b, 0)).2).1 := ho.2
      obtain ⟨i1, i2, i3, i4⟩ := (isB_true _).1 h3
      rw [hop] at i1 i3
      rw [hby] at i2
      have hB := runR_err _ _ _ e0
      have hA := rd_err hB
      have lA := rd_lim hA i1.1 i1.2
      have lB := rd_lim hB i2.1 i2.2
      have hr := runR_ok (fl (rd LO HI (b, 0)).1) (rd LO HI (rd LO HI (b, 0)).2).2 (op0 (rd LO HI (b, 0)).1 (rd LO HI (rd LO HI (b, 0)).2).1) (fl_nodup _) e0 i3
      have : readC b = readR b := by
        unfold readC
        rw [lA, lB]; exact hr
      rw [this] at h
      exact h h2
end Go.Proofs.Ytnldhkhnfodplaa

namespace Go.Proofs.Ytnldhkhnfodplaa
open Go Go.Vc Go.RowKit
/-! ### writing a command; sameness -/
def okC (c : ACommand') : Prop := Is64 c.1 ∧ Is64 c.2.1 ∧ (∀ L, ∀ x ∈ vals L c, Is64 x) ∧ (numsOf c).length ≤ 1000
def bytesC (c : ACommand') : List Int := encs [c.1, c.2.1] ++ ((fl c.1).flatMap fun L => encs (vals L c))
theorem r_unit {u : AUnit'} {b : List Int} (h1 : Is64 u.1) (h2 : Is64 u.2.1) (hb : b.length ≤ 1000000) : cmd_unit u true b = some ((), (true, (b ++ encs [u.1, u.2.1], ()))) := by
  show cmd_unitW stdW u true b = _
  unfold cmd_unitW
  rw [call_w (r_wInt (l := [u.1, u.2.1]) (by intro n hn; simp at hn; rcases hn with rfl | rfl; exact h1; exact h2) (by simp) (by omega))]
theorem r_field {c : ACommand'} (L : Lt) {b : List Int} (hc : okC c) (hb : b.length ≤ 1000000) : cmd_field c (L.code : Int) true b = some ((), (true, (b ++ encs (vals L c), ()))) := by
  show cmd_fieldW stdW c (L.code : Int) true b = _
  unfold cmd_fieldW
  have hv := hc.2.2.1 L
  have one : ∀ x : Int, Is64 x → pack_Writer_Int (x :: []) true b = some ((), (true, (b ++ encs [x], ()))) := fun x hx => r_wInt (l := [x]) (by intro n hn; simp at hn; subst hn; exact hx) (by simp) (by omega)
  cases L with
  | M => rw [cnd_y (by rfl), call_w (one _ (hv _ (by simp [vals])))]; rfl
  | U => rw [cnd_n (by rfl), cnd_y (by rfl), call_w (r_unit (hv _ (by simp [vals])) (hv _ (by simp [vals])) hb)]; rfl
  | O => rw [cnd_n (by rfl), cnd_n (by rfl), cnd_y (by rfl), call_w (r_unit (hv _ (by simp [vals])) (hv _ (by simp [vals])) hb)]; rfl
  | I => rw [cnd_n (by rfl), cnd_n (by rfl), cnd_n (by rfl), cnd_y (by rfl), call_w (one _ (hv _ (by simp [vals])))]; rfl
  | A => rw [cnd_n (by rfl), cnd_n (by rfl), cnd_n (by rfl), cnd_n (by rfl), cnd_y (by rfl), call_w (one _ (hv _ (by simp [vals])))]; rfl
  | T => rw [cnd_n (by rfl), cnd_n (by rfl), cnd_n (by rfl), cnd_n (by rfl), cnd_n (by rfl), cnd_y (by rfl), call_w (one _ (hv _ (by simp [vals])))]; rfl
  | D => rw [cnd_n (by rfl), cnd_n (by rfl), cnd_n (by rfl), cnd_n (by rfl), cnd_n (by rfl), cnd_n (by rfl), cnd_y (by rfl), call_w (one _ (hv _ (by simp [vals])))]; rfl
  | Q => rw [cnd_n (by rfl), cnd_n (by rfl), cnd_n (by rfl), cnd_n (by rfl), cnd_n (by rfl), cnd_n (by rfl), cnd_n (by rfl), cnd_y (by rfl), call_w (one _ (hv _ (by simp [vals])))]; rfl
  | P => rw [cnd_n (by rfl), cnd_n (by rfl), cnd_n (by rfl), cnd_n (by rfl), cnd_n (by rfl), cnd_n (by rfl), cnd_n (by rfl), cnd_n (by rfl), cnd_y (by rfl), call_w (one _ (hv _ (by simp [vals])))]; rfl
  | N =>
    rw [cnd_n (by rfl), cnd_n (by rfl), cnd_n (by rfl), cnd_n (by rfl), cnd_n (by rfl), cnd_n (by rfl), cnd_n (by rfl), cnd_n (by rfl), cnd_n (by rfl), cnd_y (by rfl), call_w (one _ (hv _ (by simp [vals])))]
    have hn := hc.2.2.2
    unfold numsOf at hn
    show stdW.call (pack_Writer_Int c.2.2.2.2.2.2.2.2.2.2.2.1 true (b ++ encs [(c.2.2.2.2.2.2.2.2.2.2.2.1.length : Int)])) _ = _
    have h10 : (encs [(c.2.2.2.2.2.2.2.2.2.2.2.1.length : Int)]).length ≤ 10 := by
      have := encs_len (l := [(c.2.2.2.2.2.2.2.2.2.2.2.1.length : Int)]) (by intro n hn'; simp at hn'; subst hn'; unfold Is64; omega)
      simpa using this
    rw [call_w (r_wInt (fun n hn => hv n (by simp [vals, hn])) (by omega) (by rw [List.length_append]; omega)), List.append_assoc, ← encs_app]
    rfl
theorem vals_len {c : ACommand'} (hc : okC c) (L : Lt) : (encs (vals L c)).length ≤ 10010 := by
  have := encs_len (l := vals L c) (hc.2.2.1 L)
  have h2 : (vals L c).length ≤ 1001 := by
    have := hc.2.2.2
    unfold numsOf at this
    cases L <;> simp [vals] <;> omega
  omega
theorem r_bytesOf {c : ACommand'} (hc : okC c) : cmd_bytesOf c = some (bytesC c) := by
  show cmd_bytesOfW stdW c = _
  unfold cmd_bytesOfW
  rw [both_w, call_w (show pack_New = some ((true, ([], ())), ()) from rfl)]
  show stdW.call (pack_Writer_Int (c.1 :: (c.2.1 :: [])) true []) _ = _
  rw [call_w (r_wInt (l := [c.1, c.2.1]) (by intro n hn; simp at hn; rcases hn with rfl | rfl; exact hc.1; exact hc.2.1) (by simp) (by simp)), call_w (r_cFields _)]
  have hls := fl_len c.1
  unfold bytesC
  have h20 : (encs [c.1, c.2.1]).length ≤ 20 := by
    have := encs_len (l := [c.1, c.2.1]) (by intro n hn; simp at hn; rcases hn with rfl | rfl; exact hc.1; exact hc.2.1)
    simpa using this
  generalize fl c.1 = ls at *
  have hlen : ∀ l : List Lt, (l.flatMap fun L => encs (vals L c)).length ≤ 10010 * l.length := by
    intro l
    induction l with
    | nil => simp
    | cons L l ih => rw [List.flatMap_cons, List.length_append, List.length_cons]; have := vals_len hc L; omega
  refine (loop_std (fun z => ls.length - z.2.2.2.1.toNat) (fun z => ∃ i : Nat, z = (true, (encs [c.1, c.2.1] ++ ((ls.take i).flatMap fun L => encs (vals L c)), (str ls, ((i : Int), ())))) ∧ i ≤ ls.length) (fun _ => some (encs [c.1, c.2.1] ++ (ls.flatMap fun L => encs (vals L c)))) ⟨0, by simp, by omega⟩ (by show ls.length - 0 < _; omega) ?_)
  rintro _ ⟨i, rfl, hi⟩ again ha
  have hl1 := hlen (ls.take i)
  rw [List.length_take] at hl1
  show stdW.next (str ls) (i : Int) _ _ = _
  by_cases hlt : i < ls.length
  · rw [next_w ls i hlt]
    show stdW.call (cmd_field c ((ls[i]).code : Int) true (encs [c.1, c.2.1] ++ ((ls.take i).flatMap fun L => encs (vals L c)))) _ = _
    rw [call_w (r_field ls[i] hc (by rw [List.length_append]; omega))]
    refine ha _ ⟨i + 1, ?_, by omega⟩ (by show ls.length - ((i + 1 : Nat) : Int).toNat < ls.length - ((i : Nat) : Int).toNat; omega)
    rw [show ls.take (i + 1) = ls.take i ++ [ls[i]] by simp, List.flatMap_append, List.append_assoc]
    simp
  · obtain rfl : i = ls.length := by omega
    rw [next_e ls _ (Nat.le_refl _)]
    show stdW.call (pack_Writer_Done true (encs [c.1, c.2.1] ++ ((ls.take ls.length).flatMap fun L => encs (vals L c)))) _ = _
    rw [call_w (r_done (by rw [List.length_append]; omega)), List.take_length]
theorem r_sameL {α : Type} [DecidableEq α] {l m : List α} (f : Int × Unit → (Int × Unit → Option Bool) → Option Bool) (hl : l.length ≤ 1000000) (hm : l.length = m.length)
    (hf : ∀ (i : Nat) (h : i < l.length) (again : Int × Unit → Option Bool), f ((i : Int), ()) again = if l[i] = m[i]'(by omega) then again (((i + 1 : Nat) : Int), ()) else some false) (he : ∀ again : Int × Unit → Option Bool, f ((l.length : Int), ()) again = some true) : stdW.loop f (0, ()) = some (decide (l = m)) := by
  refine (loop_list (l := l) (by omega) (fun i _ => l.take i = m.take i) (fun _ _ => some (decide (l = m))) (s0 := ()) (by simp) ?_ ?_)
  · rintro ⟨⟩ again h
    rw [he]
    rw [List.take_length, hm, List.take_length] at h
    rw [decide_eq_true h]
  · rintro i hi ⟨⟩ h again ha
    rw [hf i hi]
    by_cases h1 : l[i] = m[i]'(by omega)
    · rw [if_pos h1, ha ()]
      rw [show l.take (i + 1) = l.take i ++ [l[i]] by simp, show m.take (i + 1) = m.take i ++ [m[i]'(by omega)] by simp, h, h1]
    · rw [if_neg h1, decide_eq_false (fun e => h1 (by subst e; rfl))]
theorem r_equal64 {l m : List Int} (hl : l.length ≤ 1000000) : slices_Equalint64_int64 l m = some (decide (l = m)) := by
  show slices_Equalint64_int64W stdW l m = _
  unfold slices_Equalint64_int64W
  by_cases h : l.length = m.length
  · rw [cnd_n (by simp [h])]
    refine r_sameL _ hl h (fun i hi again => ?_) (fun again => ?_)
    · rw [cnd_lt hi, idx_w hi, idx_w (by omega)]
      by_cases h1 : l[i] = m[i]'(by omega)
      · rw [cnd_n (by simp [h1]), if_pos h1]
        show again (IntKind.i64.wrap ((i : Int) + 1), ()) = _
        rw [i64_s i (by omega)]
      · rw [cnd_y (by simp [h1]), if_neg h1]
    · rw [cnd_end]
  · rw [cnd_y (by simp; omega), decide_eq_false (fun e => h (by rw [e]))]
theorem r_sameNum {l m : List Int} (hl : l.length ≤ 1000000) : ref01_SameNumbers l m = some (decide (l = m)) := by
  show ref01_SameNumbersW stdW l m = _
  unfold ref01_SameNumbersW
  by_cases h : l.length = m.length
  · rw [cnd_n (by simp [h])]
    refine r_sameL _ hl h (fun i hi again => ?_) (fun again => ?_)
    · rw [cnd_lt hi, idx_w hi, idx_w (by omega)]
      by_cases h1 : l[i] = m[i]'(by omega)
      · rw [cnd_n (by simp [h1]), if_pos h1]
        show again (IntKind.i64.wrap ((i : Int) + 1), ()) = _
        rw [i64_s i (by omega)]
      · rw [cnd_y (by simp [h1]), if_neg h1]
    · rw [cnd_end]
  · rw [cnd_y (by simp; omega), decide_eq_false (fun e => h (by rw [e]))]
theorem r_sameB {l m : List Int} (hl : l.length ≤ 1000000) : ref01_Same l m = some (decide (l = m)) := by
  show ref01_SameW stdW l m = _
  unfold ref01_SameW
  by_cases h : l.length = m.length
  · rw [cnd_n (by simp [h])]
    refine r_sameL _ hl h (fun i hi again => ?_) (fun again => ?_)
    · rw [cnd_lt hi, idx_w hi, idx_w (by omega)]
      by_cases h1 : l[i] = m[i]'(by omega)
      · rw [cnd_n (by simp [h1]), if_pos h1]
        show again (IntKind.i64.wrap ((i : Int) + 1), ()) = _
        rw [i64_s i (by omega)]
      · rw [cnd_y (by simp [h1]), if_neg h1]
    · rw [cnd_end]
  · rw [cnd_y (by simp; omega), decide_eq_false (fun e => h (by rw [e]))]
end Go.Proofs.Ytnldhkhnfodplaa

namespace Go.Proofs.Ytnldhkhnfodplaa
open Go Go.Vc Go.RowKit
/-! ### one command or two -/
def eqC (a b : ACommand') : Bool :=
  (numsOf a == numsOf b) && ((a.1 == b.1) && ((a.2.1 == b.2.1) && ((a.2.2.1 == b.2.2.1) && (((a.2.2.2.1.1 == b.2.2.2.1.1) && (a.2.2.2.1.2.1 == b.2.2.2.1.2.1)) && (((a.2.2.2.2.1.1 == b.2.2.2.2.1.1) && (a.2.2.2.2.1.2.1 == b.2.2.2.2.1.2.1)) && ((a.2.2.2.2.2.1 == b.2.2.2.2.2.1) && ((a.2.2.2.2.2.2.1 == b.2.2.2.2.2.2.1) && ((a.2.2.2.2.2.2.2.1 == b.2.2.2.2.2.2.2.1) && ((a.2.2.2.2.2.2.2.2.1 == b.2.2.2.2.2.2.2.2.1) && ((a.2.2.2.2.2.2.2.2.2.1 == b.2.2.2.2.2.2.2.2.2.1) && (a.2.2.2.2.2.2.2.2.2.2.1 == b.2.2.2.2.2.2.2.2.2.2.1)))))))))))
theorem eqC_true {a b : ACommand'} (h : eqC a b = true) : a = b := by
  obtain ⟨a1, a2, a3, ⟨a4, a5, ⟨⟩⟩, ⟨a6, a7, ⟨⟩⟩, a8, a9, a10, a11, a12, a13, a14, ⟨⟩⟩ := a
  obtain ⟨b1, b2, b3, ⟨b4, b5, ⟨⟩⟩, ⟨b6, b7, ⟨⟩⟩, b8, b9, b10, b11, b12, b13, b14, ⟨⟩⟩ := b
  simp only [eqC, numsOf, Bool.and_eq_true, beq_iff_eq] at h
  obtain ⟨h14, h1, h2, h3, ⟨h4, h5⟩, ⟨h6, h7⟩, h8, h9, h10, h11, h12, h13⟩ := h
  subst h1 h2 h3 h4 h5 h6 h7 h8 h9 h10 h11 h12 h13 h14
  rfl
theorem eqC_refl (a : ACommand') : eqC a a = true := by simp [eqC]
instance : DecidableEq ACommand' := fun a b => if h : eqC a b = true then isTrue (eqC_true h) else isFalse (fun e => h (e ▸ eqC_refl a))
theorem cond_and (b c : Bool) : (bif b then some c else some false) = some (b && c) := by cases b <;> rfl
theorem r_csame {a b : ACommand'} (h : (numsOf a).length ≤ 1000) : cmd_same a b = some (eqC a b) := by
  show cmd_sameW stdW a b = _
  unfold cmd_sameW
  unfold numsOf at h
  have e : decide (a.2.2.2.2.2.2.2.2.2.2.2.1 = b.2.2.2.2.2.2.2.2.2.2.2.1) = (a.2.2.2.2.2.2.2.2.2.2.2.1 == b.2.2.2.2.2.2.2.2.2.2.2.1) := by rw [Bool.eq_iff_iff]; simp
  rw [call_w (r_equal64 (l := a.2.2.2.2.2.2.2.2.2.2.2.1) (m := b.2.2.2.2.2.2.2.2.2.2.2.1) (by omega)), e]
  simp only [cond_and]
  rfl
theorem r_rsame {a b : ACommand'} (h : (numsOf a).length ≤ 1000) : ref34_Same a b = some (eqC a b) := by
  show ref34_SameW stdW a b = _
  unfold ref34_SameW eqC
  unfold numsOf at h ⊢
  have e : decide (a.2.2.2.2.2.2.2.2.2.2.2.1 = b.2.2.2.2.2.2.2.2.2.2.2.1) = (a.2.2.2.2.2.2.2.2.2.2.2.1 == b.2.2.2.2.2.2.2.2.2.2.2.1) := by rw [Bool.eq_iff_iff]; simp
  have en : ref01_SameNumbers a.2.2.2.2.2.2.2.2.2.2.2.1 b.2.2.2.2.2.2.2.2.2.2.2.1 = some (a.2.2.2.2.2.2.2.2.2.2.2.1 == b.2.2.2.2.2.2.2.2.2.2.2.1) := by rw [r_sameNum (by omega), e]
  simp only [en, Option.bind_some, joinF, cond_and, bne]
  generalize (a.2.2.2.2.2.2.2.2.2.2.2.1 == b.2.2.2.2.2.2.2.2.2.2.2.1) = e14
  generalize (a.1 == b.1) = e1
  generalize (a.2.1 == b.2.1) = e2
  generalize (a.2.2.1 == b.2.2.1) = e3
  generalize ((a.2.2.2.1.1 == b.2.2.2.1.1) && (a.2.2.2.1.2.1 == b.2.2.2.1.2.1)) = e4
  generalize ((a.2.2.2.2.1.1 == b.2.2.2.2.1.1) && (a.2.2.2.2.1.2.1 == b.2.2.2.2.1.2.1)) = e6
  generalize (a.2.2.2.2.2.1 == b.2.2.2.2.2.1) = e8
  generalize (a.2.2.2.2.2.2.1 == b.2.2.2.2.2.2.1) = e9
  generalize (a.2.2.2.2.2.2.2.1 == b.2.2.2.2.2.2.2.1) = e10
  generalize (a.2.2.2.2.2.2.2.2.1 == b.2.2.2.2.2.2.2.2.1) = e11
  generalize (a.2.2.2.2.2.2.2.2.2.1 == b.2.2.2.2.2.2.2.2.2.1) = e12
  generalize (a.2.2.2.2.2.2.2.2.2.2.1 == b.2.2.2.2.2.2.2.2.2.2.1) = e13
  cases e1 <;> cases e2 <;> cases e3 <;> cases e4 <;> cases e6 <;> cases e8 <;> simp [notIf] <;> cases e14 <;> simp
/-! ### may it be, its bytes -/
theorem encs_bt {l : List Int} : Bt (encs l) := by
  have one : ∀ u : Nat, Bt (encU u) := by
    intro u
    induction u using Nat.strongRecOn with
    | ind u ih =>
      by_cases h : u < 128
      · rw [encU_lt h]; intro b hb; simp at hb; subst hb; omega
      · rw [encU_ge (by omega)]; intro b hb
        rcases List.mem_cons.1 hb with rfl | hb
        · omega
        · exact ih (u / 128) (by omega) b hb
  intro b hb
  obtain ⟨n, _, hb⟩ := List.mem_flatMap.1 (show b ∈ l.flatMap fun n => encU (fold n) from hb)
  exact one _ b hb
theorem bytesC_bt (c : ACommand') : Bt (bytesC c) := by
  intro b hb
  rcases List.mem_append.1 (show b ∈ encs [c.1, c.2.1] ++ ((fl c.1).flatMap fun L => encs (vals L c)) from hb) with hb | hb
  · exact encs_bt b hb
  · obtain ⟨L, _, hb⟩ := List.mem_flatMap.1 hb
    exact encs_bt b hb
theorem bytesC_len {c : ACommand'} (hc : okC c) : (bytesC c).length ≤ 100000 := by
  have h20 : (encs [c.1, c.2.1]).length ≤ 20 := by
    have := encs_len (l := [c.1, c.2.1]) (by intro n hn; simp at hn; rcases hn with rfl | rfl; exact hc.1; exact hc.2.1)
    simpa using this
  have hlen : ∀ l : List Lt, (l.flatMap fun L => encs (vals L c)).length ≤ 10010 * l.length := by
    intro l
    induction l with
    | nil => simp
    | cons L l ih => rw [List.flatMap_cons, List.length_append, List.length_cons]; have := vals_len hc L; omega
  have h1 := hlen (fl c.1)
  have h2 := fl_len c.1
  unfold bytesC
  rw [List.length_append]; omega
/-- whether it may be -/
def chkC (c : ACommand') : Int := if (finC (readC (bytesC c))).2.1 = 0 ∧ (finC (readC (bytesC c))).1 = c then 0 else 3
theorem nums_fin {b : List Int} (hb : Bt b) : (numsOf (finC (readC b)).1).length ≤ 1000 := by
  unfold finC
  by_cases h : endE (readC b).2 = 0
  · rw [if_neg (by simp [h])]
    have := (read_ok hb h).2.2.2.2
    show (numsOf (readC b).1).length ≤ 1000
    omega
  · rw [if_pos h]; show (numsOf zeroC).length ≤ 1000; simp [numsOf, zeroC]
theorem r_check {c : ACommand'} (hc : okC c) : cmd_Check c = some (chkC c) := by
  show cmd_CheckW stdW c = _
  unfold cmd_CheckW chkC
  show stdW.call (cmd_bytesOf c) _ = _
  rw [call_w (r_bytesOf hc), call_w (r_read (bytesC_bt c) (by have := bytesC_len hc; omega)), join_w]
  have hn := nums_fin (bytesC_bt c)
  generalize finC (readC (bytesC c)) = r at *
  by_cases h : r.2.1 = 0
  · rw [cnd_n (by simp [h])]
    show stdW.call (cmd_same r.1 c) _ = _
    rw [call_w (r_csame hn)]
    show stdW.cnd (!eqC r.1 c) _ _ = _
    by_cases he : r.1 = c
    · rw [he, eqC_refl, cnd_n (by rfl), if_pos (show r.2.1 = 0 ∧ c = c from ⟨h, rfl⟩)]
    · have : eqC r.1 c = false := by cases h2 : eqC r.1 c; rfl; exact absurd (eqC_true h2) he
      rw [this, cnd_y (by rfl), if_neg (show ¬ (r.2.1 = 0 ∧ r.1 = c) from fun h => he h.2)]
  · rw [cnd_y (by simp [h]), if_neg (show ¬ (r.2.1 = 0 ∧ r.1 = c) from fun h' => h h'.1)]
    show stdW.cnd true _ _ = _
    rw [cnd_y (by rfl)]
theorem r_encode {c : ACommand'} (hc : okC c) : cmd_Encode c = some (if chkC c = 0 then (bytesC c, (0, ())) else ([], (chkC c, ()))) := by
  show cmd_EncodeW stdW c = _
  unfold cmd_EncodeW
  show stdW.call (cmd_Check c) _ = _
  rw [call_w (r_check hc)]
  by_cases h : chkC c = 0
  · rw [cnd_n (by simp [h]), if_pos h]
    show stdW.call (cmd_bytesOf c) _ = _
    rw [call_w (r_bytesOf hc)]
  · rw [cnd_y (by simp [h]), if_neg h]
/-! ### it lives -/
def dayC : ACommand' := (16, (0, zeroC.2.2))
theorem day_bytes : bytesC dayC = [32, 0] := by
  unfold bytesC
  have : fl dayC.1 = [] := rfl
  rw [this]
  show encs [16, 0] ++ [] = _
  unfold encs
  simp only [List.flatMap_cons, List.flatMap_nil, List.append_nil]
  rw [show fold 16 = 32 from rfl, show fold 0 = 0 from rfl, encU_lt (by omega), encU_lt (by omega)]
  rfl
theorem day_read : finC (readC [32, 0]) = (dayC, (0, ())) := by
  have h : (eqC (finC (readC [32, 0])).1 dayC && ((finC (readC [32, 0])).2.1 == 0)) = true := by decide +kernel
  simp only [Bool.and_eq_true, beq_iff_eq] at h
  exact Prod.ext (eqC_true h.1) (Prod.ext h.2 rfl)
theorem zero_ok : okC zeroC := by
  have z : Is64 0 := by unfold Is64; omega
  refine ⟨z, z, fun L x hx => ?_, by simp [numsOf, zeroC]⟩
  cases L <;> simp [vals, zeroC] at hx <;> subst hx <;> exact z
theorem day_ok : okC dayC := by
  have z : Is64 0 := by unfold Is64; omega
  refine ⟨by show Is64 16; unfold Is64; omega, z, fun L x hx => ?_, by simp [numsOf, dayC, zeroC]⟩
  cases L <;> simp [vals, dayC, zeroC] at hx <;> subst hx <;> exact z
theorem day_chk : chkC dayC = 0 := by unfold chkC; rw [day_bytes, day_read]; exact if_pos ⟨rfl, rfl⟩
theorem r_lives34 : law34_lives = some true := by
  show law34_livesW stdW = _
  unfold law34_livesW
  show stdW.call (cmd_Encode dayC) _ = _
  rw [call_w (r_encode day_ok), if_pos day_chk, day_bytes, call_w (r_decode (b := [32, 0]) (by intro b hb; simp at hb; omega) (by simp)), day_read, cnd_y (by rfl)]
  show stdW.call (ref01_Same [32, 0] [32, 0]) _ = _
  rw [call_w (r_sameB (by simp)), decide_eq_true rfl, cnd_y (by rfl), cnd_y (by rfl)]
  rfl
end Go.Proofs.Ytnldhkhnfodplaa

namespace Go.Vc
open Go Go.RowKit
/-! what a well formed argument is known to be -/
def DT.okD : (t : DT) → t.den → Prop
  | .int k, n => (Lit.int k n).wf = true
  | .bool, _ => True
  | .str, s => s.size ≤ maxLen
  | .slc t, l => (∀ x ∈ l, t.okD x) ∧ l.length ≤ maxLen
  | .unit, _ => True
  | .pair a b, x => a.okD x.1 ∧ b.okD x.2
theorem wf_i64 {n : Int} (h : (Lit.int .i64 n).wf = true) : -9223372036854775808 ≤ n ∧ n ≤ 9223372036854775807 := by
  simp [Lit.wf, IntKind.min, IntKind.max, IntKind.signed, IntKind.bits] at h; omega
theorem wf_u64 {n : Int} (h : (Lit.int .u64 n).wf = true) : 0 ≤ n ∧ n ≤ 18446744073709551615 := by
  simp [Lit.wf, IntKind.min, IntKind.max, IntKind.signed, IntKind.bits] at h; omega
theorem wf_u8 {n : Int} (h : (Lit.int .u8 n).wf = true) : 0 ≤ n ∧ n ≤ 255 := by
  simp [Lit.wf, IntKind.min, IntKind.max, IntKind.signed, IntKind.bits] at h; omega
end Go.Vc

namespace Go.Proofs.Ytnldhkhnfodplaa
open Go Go.Vc Go.RowKit
/-! ### the law of reading commands -/
def shortC (c : ACommand') : ACommand' := (c.1, (c.2.1, (c.2.2.1, (c.2.2.2.1, (c.2.2.2.2.1, (c.2.2.2.2.2.1, (c.2.2.2.2.2.2.1, (c.2.2.2.2.2.2.2.1, (c.2.2.2.2.2.2.2.2.1, (c.2.2.2.2.2.2.2.2.2.1, (c.2.2.2.2.2.2.2.2.2.2.1, (c.2.2.2.2.2.2.2.2.2.2.2.1.take 40, ()))))))))))))
theorem r_short (c : ACommand') : law34_Short c = some (shortC c) := by
  show law34_ShortW stdW c = _
  unfold law34_ShortW shortC
  rw [join_w]
  by_cases h : 40 < c.2.2.2.2.2.2.2.2.2.2.2.1.length
  · rw [cnd_y (decide_eq_true (by omega)), bnd_w (by omega) (by omega)]; rfl
  · rw [cnd_n (decide_eq_false (by omega)), List.take_of_length_le (l := c.2.2.2.2.2.2.2.2.2.2.2.1) (by omega)]
theorem r_cut (b : List Int) : ref01_Cut b 400 = some (b.take 400) := by
  show ref01_CutW stdW b 400 = _
  unfold ref01_CutW
  by_cases h : 400 < b.length
  · rw [cnd_y (decide_eq_true (by omega)), bnd_w (by omega) (by omega)]; rfl
  · rw [cnd_n (decide_eq_false (by omega)), List.take_of_length_le (l := b) (by omega)]
theorem fin_ok {b : List Int} (hb : Bt b) : okC (finC (readC b)).1 := by
  unfold finC
  by_cases h : endE (readC b).2 = 0
  · rw [if_neg (by simp [h])]
    obtain ⟨_, _, _, ⟨h1, h2, h3⟩, h4⟩ := read_ok hb h
    exact ⟨h1, h2, h3, Nat.le_trans h4 (by omega)⟩
  · rw [if_pos h]; exact zero_ok
theorem fin_0 {b : List Int} (hb : Bt b) (h : (finC (readC b)).2.1 = 0) : bytesC (finC (readC b)).1 = b := by
  unfold finC at h ⊢
  by_cases h' : endE (readC b).2 = 0
  · rw [if_neg (by simp [h'])]
    exact (read_ok hb h').2.2.1.symm
  · rw [if_pos h'] at h; cases h
theorem fin_chk {b : List Int} (hb : Bt b) (h : (finC (readC b)).2.1 = 0) : chkC (finC (readC b)).1 = 0 := by
  unfold chkC
  rw [fin_0 hb h]
  exact if_pos ⟨h, rfl⟩
theorem decodes_law {b : List Int} {c : ACommand'} (hb : Bt b) (hc : okC (shortC c)) : law34_CmdDecodes b c = some true := by
  show law34_CmdDecodesW stdW b c = _
  unfold law34_CmdDecodesW
  rw [join_w, both_w]
  show stdW.call (ref01_Cut b 400) _ = _
  rw [call_w (r_cut b)]
  show stdW.call (law34_Short c) _ = _
  rw [call_w (r_short c)]
  have hb' : Bt (b.take 400) := fun x hx => hb x (List.mem_of_mem_take hx)
  have hl : (b.take 400).length ≤ 400 := by rw [List.length_take]; omega
  generalize b.take 400 = b at *
  generalize shortC c = x at *
  show stdW.call (cmd_Decode b) _ = _
  rw [call_w (r_decode hb' (by omega))]
  show stdW.call (ref34_Decode b) _ = _
  rw [call_w (r_rDecode hb' (by omega)), dec_same hb', join_w]
  have hn := nums_fin hb'
  have hk := fin_ok hb'
  have h0 := fin_0 hb'
  have h1 := fin_chk hb'
  generalize finC (readC b) = r at *
  show stdW.call (ref34_Same r.1 r.1) _ = _
  rw [call_w (r_rsame hn), eqC_refl, cnd_n (by rfl)]
  show stdW.cnd (r.2.1 != r.2.1) _ _ = _
  rw [cnd_n (by simp)]
  show stdW.call (cmd_Encode r.1) _ = _
  rw [call_w (r_encode hk), join_w]
  have tail : stdW.call (cmd_Encode x) (fun v7 => stdW.cnd (v7.2.1 != 0) (stdW.cnd ((v7.1.length : Int) == 0) (stdW.call (law34_lives) fun v8 => some v8) (some false))
      (stdW.call (cmd_Decode v7.1) fun v9 => stdW.cnd (v9.2.1 == 0) (stdW.call (ref34_Same v9.1 x) fun v10 => stdW.cnd v10 (stdW.call (law34_lives) fun v11 => some v11) (some false)) (some false))) = some true := by
    rw [call_w (r_encode hc)]
    by_cases h : chkC x = 0
    · rw [if_pos h, cnd_n (by rfl)]
      show stdW.call (cmd_Decode (bytesC x)) _ = _
      rw [call_w (r_decode (bytesC_bt x) (by have := bytesC_len hc; omega))]
      unfold chkC at h
      have h2 : (finC (readC (bytesC x))).2.1 = 0 ∧ (finC (readC (bytesC x))).1 = x := by
        by_cases h3 : (finC (readC (bytesC x))).2.1 = 0 ∧ (finC (readC (bytesC x))).1 = x
        · exact h3
        · rw [if_neg h3] at h; cases h
      rw [cnd_y (by rw [h2.1]; rfl), h2.2, call_w (r_rsame (by exact hc.2.2.2)), eqC_refl, cnd_y (by rfl), call_w r_lives34]
    · rw [if_neg h, cnd_y (by simp [h]), cnd_y (by rfl), call_w r_lives34]
  by_cases he : r.2.1 = 0
  · rw [cnd_y (by simp [he]), if_pos (h1 he), h0 he, cnd_n (by rfl)]
    show stdW.call (ref01_Same b b) _ = _
    rw [call_w (r_sameB (by omega)), decide_eq_true rfl]
    show stdW.cnd (!true) _ _ = _
    rw [cnd_n (by rfl)]
    exact tail
  · rw [cnd_n (by simp [he])]
    show stdW.cnd false _ _ = _
    rw [cnd_n (by rfl)]
    exact tail
theorem short_ok {x1 : ACommand'} (o1 : DT.okD tACommand x1) : okC (shortC x1) := by
  obtain ⟨a1, a2, a3, ⟨a4, a5, _⟩, ⟨a6, a7, _⟩, a8, a9, a10, a11, a12, a13, a14, _⟩ := o1
  refine ⟨wf_i64 a1, wf_i64 a2, fun L n hn => ?_, ?_⟩
  · cases L
    all_goals first
      | (simp only [vals, shortC, List.mem_cons, List.not_mem_nil, or_false] at hn
         rcases hn with rfl | rfl
         all_goals first | exact wf_i64 a3 | exact wf_i64 a4 | exact wf_i64 a5 | exact wf_i64 a6 | exact wf_i64 a7 | exact wf_i64 a8 | exact wf_i64 a9 | exact wf_i64 a10 | exact wf_i64 a11 | exact wf_i64 a12 | exact wf_i64 a13)
      | (simp only [vals, shortC, List.mem_cons, List.not_mem_nil, or_false] at hn
         subst hn
         first | exact wf_i64 a3 | exact wf_i64 a4 | exact wf_i64 a5 | exact wf_i64 a6 | exact wf_i64 a7 | exact wf_i64 a8 | exact wf_i64 a9 | exact wf_i64 a10 | exact wf_i64 a11 | exact wf_i64 a12 | exact wf_i64 a13)
      | skip
    simp only [vals, shortC, List.mem_cons] at hn
    rcases hn with rfl | hn
    · have : (x1.2.2.2.2.2.2.2.2.2.2.2.1.take 40).length ≤ 40 := by rw [List.length_take]; omega
      unfold Is64; omega
    · exact wf_i64 (a14.1 n (List.mem_of_mem_take hn))
  · show (x1.2.2.2.2.2.2.2.2.2.2.2.1.take 40).length ≤ 1000
    rw [List.length_take]; omega
theorem cmdDecodes_true (x0 : DT.den (.slc (.int .u8))) (x1 : DT.den tACommand) (o0 : DT.okD (.slc (.int .u8)) x0) (o1 : DT.okD tACommand x1) : law34_CmdDecodes x0 x1 = some true := by
  refine decodes_law (fun b hb => ?_) ?_
  · have := wf_u8 (o0.1 b hb); omega
  · exact short_ok o1
end Go.Proofs.Ytnldhkhnfodplaa

namespace Go.Proofs.Ytnldhkhnfodplaa
open Go Go.Vc Go.RowKit
/-! ### what was written is read back -/
theorem rd_enc {n lo hi : Int} (hn : Is64 n) (h : lo ≤ n ∧ n ≤ hi) (r : List Int) : rd lo hi (encU (fold n) ++ r, 0) = (n, (r, 0)) := by
  unfold rd
  simp only [rdInt_enc n hn lo hi r h]
theorem rd_full_enc {n : Int} (hn : Is64 n) (r : List Int) : rd LO HI (encU (fold n) ++ r, 0) = (n, (r, 0)) := rd_enc hn hn r
theorem nC_enc : ∀ (l r acc : List Int), (∀ x ∈ l, Is64 x) → nC l.length (encs l ++ r, 0) acc = (acc ++ l, (r, 0))
  | [], r, acc, _ => by simp [nC, encs]
  | x :: l, r, acc, h => by
    have e : encs (x :: l) ++ r = encU (fold x) ++ (encs l ++ r) := by
      rw [show x :: l = [x] ++ l from rfl, encs_app, encs_one, List.append_assoc]
    rw [e, List.length_cons]
    unfold nC
    rw [if_pos rfl, rd_full_enc (h x (by simp)), nC_enc l r (acc ++ [x]) fun y hy => h y (by simp [hy])]
    simp
theorem parC_enc {L : Lt} {c : ACommand'} (r : List Int) (h : okV L (vals L c)) (h64 : ∀ x ∈ vals L c, Is64 x) : parC L (encs (vals L c) ++ r, 0) = (vals L c, (r, 0)) := by
  have a1 : ∀ (x lo hi : Int), Is64 x → lo ≤ x ∧ x ≤ hi → one lo hi (encs [x] ++ r, 0) = ([x], (r, 0)) := fun x lo hi h1 h2 => by
    unfold one; rw [encs_one, rd_enc h1 h2]
  have a2 : ∀ (x y hi : Int), Is64 x → Is64 y → 0 ≤ x ∧ x ≤ hi → 0 ≤ y ∧ y ≤ hi → two 0 hi (encs [x, y] ++ r, 0) = ([x, y], (r, 0)) := fun x y hi h1 h2 h3 h4 => by
    unfold two; rw [show [x, y] = [x] ++ [y] from rfl, encs_app, encs_one, encs_one, List.append_assoc, rd_enc h1 h3, rd_enc h2 h4]; rfl
  cases L with
  | U => exact a2 _ _ 16 (h64 _ (by simp [vals])) (h64 _ (by simp [vals])) (h _ (by simp [vals])) (h _ (by simp [vals]))
  | O => exact a2 _ _ 16 (h64 _ (by simp [vals])) (h64 _ (by simp [vals])) (h _ (by simp [vals])) (h _ (by simp [vals]))
  | Q => exact a1 _ LO HI (h64 _ (by simp [vals])) (h64 _ (by simp [vals]))
  | P => exact a1 _ LO HI (h64 _ (by simp [vals])) (h64 _ (by simp [vals]))
  | N =>
    have hl : (vals .N c).tail.length ≤ 32 := h
    have ev : vals .N c = ((vals .N c).tail.length : Int) :: (vals .N c).tail := rfl
    generalize (vals .N c).tail = l at *
    rw [ev]
    show numsC _ = _
    unfold numsC
    rw [show (l.length : Int) :: l = [(l.length : Int)] ++ l from rfl, encs_app, encs_one, List.append_assoc, rd_enc (h64 _ (by rw [ev]; simp)) (by omega)]
    show (((l.length : Int)) :: (nC (l.length : Int).toNat (encs l ++ r, 0) []).1, (nC (l.length : Int).toNat (encs l ++ r, 0) []).2) = _
    rw [Int.toNat_natCast, nC_enc l r [] fun x hx => h64 x (by rw [ev]; simp [hx])]
    rfl
  | M => exact a1 _ 0 8 (h64 _ (by simp [vals])) (h _ (by simp [vals]))
  | I => exact a1 _ 0 8 (h64 _ (by simp [vals])) (h _ (by simp [vals]))
  | A => exact a1 _ 0 4 (h64 _ (by simp [vals])) (h _ (by simp [vals]))
  | T => exact a1 _ 0 255 (h64 _ (by simp [vals])) (h _ (by simp [vals]))
  | D => exact a1 _ 0 1048576 (h64 _ (by simp [vals])) (h _ (by simp [vals]))
theorem shape_vals (L : Lt) (c : ACommand') : shape L (vals L c) := by
  cases L <;> first | rfl | exact ⟨_, rfl⟩
theorem runC_enc : ∀ (ls : List Lt) (c c0 : ACommand') (r : List Int), ls.Nodup → (∀ L ∈ ls, okV L (vals L c) ∧ ∀ x ∈ vals L c, Is64 x) →
    (runC ls ((ls.flatMap fun L => encs (vals L c)) ++ r, 0) c0).2 = (r, 0) ∧ ∀ L ∈ ls, vals L (runC ls ((ls.flatMap fun L => encs (vals L c)) ++ r, 0) c0).1 = vals L c
  | [], c, c0, r, _, _ => ⟨rfl, by simp⟩
  | L :: ls, c, c0, r, hn, h => by
    have hn' := List.nodup_cons.1 hn
    obtain ⟨h1, h2⟩ := h L (by simp)
    have e : ((L :: ls).flatMap fun L => encs (vals L c)) ++ r = encs (vals L c) ++ ((ls.flatMap fun L => encs (vals L c)) ++ r) := by rw [List.flatMap_cons, List.append_assoc]
    rw [e]
    unfold runC
    rw [parC_enc _ h1 h2]
    obtain ⟨i1, i2⟩ := runC_enc ls c (put L (vals L c) c0) r hn'.2 fun L' hL => h L' (by simp [hL])
    refine ⟨i1, fun L' hL => ?_⟩
    rcases List.mem_cons.1 hL with rfl | hL
    · show vals L' (runC ls _ (put L' (vals L' c) c0)).1 = _
      rw [runC_keep ls _ _ L' hn'.1, vals_put (shape_vals L' c)]
    · exact i2 L' hL
theorem ext_vals {a b : ACommand'} (h1 : a.1 = b.1) (h2 : a.2.1 = b.2.1) (h : ∀ L, vals L a = vals L b) : a = b := by
  obtain ⟨a1, a2, a3, ⟨a4, a5, ⟨⟩⟩, ⟨a6, a7, ⟨⟩⟩, a8, a9, a10, a11, a12, a13, a14, ⟨⟩⟩ := a
  obtain ⟨b1, b2, b3, ⟨b4, b5, ⟨⟩⟩, ⟨b6, b7, ⟨⟩⟩, b8, b9, b10, b11, b12, b13, b14, ⟨⟩⟩ := b
  have hM := h .M; have hU := h .U; have hO := h .O; have hI := h .I; have hA := h .A
  have hT := h .T; have hD := h .D; have hQ := h .Q; have hP := h .P; have hN := h .N
  simp only [vals, List.cons.injEq, and_true] at hM hU hO hI hA hT hD hQ hP hN h1 h2
  obtain ⟨hU1, hU2⟩ := hU
  obtain ⟨hO1, hO2⟩ := hO
  obtain ⟨_, hN⟩ := hN
  subst h1 h2 hM hU1 hU2 hO1 hO2 hI hA hT hD hQ hP hN
  rfl
theorem vals_zero {L : Lt} {c : ACommand'} (h : zeroV L c) (a b : Int) : vals L (op0 a b) = vals L c := by
  unfold zeroV at h
  cases L
  case N =>
    have := h _ (show ((c.2.2.2.2.2.2.2.2.2.2.2.1.length : Int)) ∈ vals .N c by simp [vals])
    have e : c.2.2.2.2.2.2.2.2.2.2.2.1 = [] := List.length_eq_zero_iff.1 (by omega)
    simp only [vals, e, op0, zeroC]
  all_goals
    simp only [vals, List.mem_cons, List.not_mem_nil, or_false, forall_eq, forall_eq_or_imp] at h
    simp [vals, op0, zeroC, h]
theorem read_enc {c : ACommand'} (hi : isB c = true) (hc : okC c) : readC (bytesC c) = (c, ([], 0)) := by
  obtain ⟨h1, h2, h3, h4⟩ := (isB_true c).1 hi
  unfold bytesC readC
  have e : encs [c.1, c.2.1] ++ ((fl c.1).flatMap fun L => encs (vals L c)) = encU (fold c.1) ++ (encU (fold c.2.1) ++ (((fl c.1).flatMap fun L => encs (vals L c)) ++ [])) := by
    rw [show [c.1, c.2.1] = [c.1] ++ [c.2.1] from rfl, encs_app, encs_one, encs_one, List.append_nil, List.append_assoc]
  rw [e, rd_enc hc.1 h1]
  show runC (fl c.1) (rd 0 8 (encU (fold c.2.1) ++ (((fl c.1).flatMap fun L => encs (vals L c)) ++ []), 0)).2 (op0 c.1 (rd 0 8 (encU (fold c.2.1) ++ (((fl c.1).flatMap fun L => encs (vals L c)) ++ []), 0)).1) = _
  rw [rd_enc hc.2.1 h2]
  show runC (fl c.1) (((fl c.1).flatMap fun L => encs (vals L c)) ++ [], 0) (op0 c.1 c.2.1) = _
  obtain ⟨i1, i2⟩ := runC_enc (fl c.1) c (op0 c.1 c.2.1) [] (fl_nodup _) fun L hL => ⟨h3 L hL, hc.2.2.1 L⟩
  refine Prod.ext (ext_vals ?_ ?_ fun L => ?_) i1
  · exact (runC_op (fl c.1) _ _).1
  · exact (runC_op (fl c.1) _ _).2
  · by_cases hL : L ∈ fl c.1
    · exact i2 L hL
    · rw [runC_keep (fl c.1) _ _ L hL]
      exact vals_zero (h4 L hL) _ _
theorem chk_is {c : ACommand'} (hc : okC c) : chkC c = if isB c = true then 0 else 3 := by
  unfold chkC
  by_cases h : isB c = true
  · rw [if_pos h, read_enc h hc]
    exact if_pos ⟨rfl, rfl⟩
  · rw [if_neg h]
    refine if_neg fun ⟨h1, h2⟩ => h ?_
    unfold finC at h1 h2
    by_cases he : endE (readC (bytesC c)).2 = 0
    · rw [if_neg (by simp [he])] at h2
      rw [← (show (readC (bytesC c)).1 = c from h2)]
      exact (read_ok (bytesC_bt c) he).2.1
    · rw [if_pos he] at h1; cases h1
end Go.Proofs.Ytnldhkhnfodplaa

namespace Go.Proofs.Ytnldhkhnfodplaa
open Go Go.Vc Go.RowKit
set_option maxRecDepth 100000
noncomputable def ref04_IntW (W : Wd) (n : Int) : Option (List Int) := 
 W.join (fun (z1 : Int × Unit) => 
  W.loop (fun (z2 : Int × List (Int) × Unit) again3 => 
   W.cnd (decide (128 ≤ z2.1)) (W.nz 128 (W.room (z2.2.1.length + ((IntKind.u8.wrap (IntKind.u64.wrap ((Int.tmod z2.1 128) + 128))) :: []).length) 1 (W.nz 128 ((again3 ((IntKind.u64.wrap (Int.tdiv z2.1 128)), ((z2.2.1 ++ ((IntKind.u8.wrap (IntKind.u64.wrap ((Int.tmod z2.1 128) + 128))) :: [])), ())))))))
    (W.room (z2.2.1.length + ((IntKind.u8.wrap z2.1) :: []).length) 1 (some (z2.2.1 ++ ((IntKind.u8.wrap z2.1) :: [])))))
   (z1.1, ([], ())))
  fun k4 => 
  W.cnd (decide (0 ≤ n)) ((k4 ((IntKind.u64.wrap (2 * (IntKind.u64.wrap n))), ())))
   ((k4 ((IntKind.u64.wrap ((IntKind.u64.wrap (2 * (IntKind.u64.wrap (IntKind.i64.wrap (0 - (IntKind.i64.wrap (n + 1))))))) + 1)), ())))
noncomputable def ref04_Int (n : Int) : Option (List Int) := ref04_IntW stdW n
noncomputable def ref04_Int_s : ES := ⟨(.pair (.int .i64) .unit), (.own 5 (.int .u8)), fun x => ref04_Int x.1⟩
theorem ref04_Int_ok : ECok Try.prog 85 (.es ref04_Int_s)   := es_ok (A := (.pair (.int .i64) .unit)) (Q := (.own 5 (.int .u8))) (fun W x => ref04_IntW W x.1) [] trivial [] [(5, ⟨[(3, .t (.int .u64))], [], []⟩)] [(6, ⟨[(3, .t (.int .u64)), (4, .row 1)], [], [.dead, .own 5 (.int .u8)]⟩)] Try.func85 rfl (by decide +kernel) rfl rfl (fun W x => by kernel_rfl)
noncomputable def ref34_numsW (W : Wd) (l : List Int) (b : List Int) : Option ((List Int) × (Unit)) := 
 W.loop (fun (z1 : Int × List (Int) × Unit) again2 => 
  W.cnd (decide (z1.1 < (l.length : Int))) (W.idx l z1.1 fun x3 => W.call (ref04_Int x3) fun v4 => W.room (z1.2.1.length + v4.length) 1 ((again2 ((IntKind.i64.wrap (z1.1 + 1)), ((z1.2.1 ++ v4), ())))))
   (some (z1.2.1, ())))
  (0, (b, ()))
noncomputable def ref34_nums (l : List Int) (b : List Int) : Option ((List Int) × (Unit)) := ref34_numsW stdW l b
noncomputable def ref34_nums_s : LS := ⟨[.row 5 (.int .u8), .v (.slc (.int .i64))], [], [], (.q (.own 5 (.int .u8))), fun x => ref34_nums x.1 x.2.1⟩
theorem ref34_nums_ok : ECok Try.prog 117 (.ls ref34_nums_s)   := ls_ok (A := [.row 5 (.int .u8), .v (.slc (.int .i64))]) (B := []) (E := []) (Q := (.q (.own 5 (.int .u8)))) (fun W x => ref34_numsW W x.1 x.2.1) [(85, .es ref04_Int_s)] ⟨ref04_Int_ok, trivial⟩ [] [] [(2, ⟨[(0, .row 0), (5, .t (.int .i64))], [], [.own 5 (.int .u8)]⟩)] Try.func117 rfl (by decide +kernel) rfl rfl rfl rfl rfl (fun W x => by kernel_rfl)
noncomputable def ref04_IntsW (W : Wd) (l : List Int) : Option (List Int) := 
 W.loop (fun (z1 : Int × List (Int) × Unit) again2 => 
  W.cnd (decide (z1.1 < (l.length : Int))) (W.idx l z1.1 fun x3 => W.call (ref04_Int x3) fun v4 => W.room (z1.2.1.length + v4.length) 1 ((again2 ((IntKind.i64.wrap (z1.1 + 1)), ((z1.2.1 ++ v4), ())))))
   (some z1.2.1))
  (0, ([], ()))
noncomputable def ref04_Ints (l : List Int) : Option (List Int) := ref04_IntsW stdW l
noncomputable def ref04_Ints_s : ES := ⟨(.pair (.slc (.int .i64)) .unit), (.own 5 (.int .u8)), fun x => ref04_Ints x.1⟩
theorem ref04_Ints_ok : ECok Try.prog 28 (.es ref04_Ints_s)   := es_ok (A := (.pair (.slc (.int .i64)) .unit)) (Q := (.own 5 (.int .u8))) (fun W x => ref04_IntsW W x.1) [(85, .es ref04_Int_s)] ⟨ref04_Int_ok, trivial⟩ [] [] [(3, ⟨[(3, .row 1), (4, .t (.int .i64))], [], [.dead, .own 5 (.int .u8)]⟩)] Try.func28 rfl (by decide +kernel) rfl rfl (fun W x => by kernel_rfl)
noncomputable def ref34_EncodeW (W : Wd) (c : ACommand') : Option ((List Int) × Int × Unit) := W.call (ref34_Is (c.1, (c.2.1, (c.2.2.1, (c.2.2.2.1, (c.2.2.2.2.1, (c.2.2.2.2.2.1, (c.2.2.2.2.2.2.1, (c.2.2.2.2.2.2.2.1, (c.2.2.2.2.2.2.2.2.1, (c.2.2.2.2.2.2.2.2.2.1, (c.2.2.2.2.2.2.2.2.2.2.1, (c.2.2.2.2.2.2.2.2.2.2.2.1, ()))))))))))))) fun v1 => 
 W.cnd (!v1) (some ([], (3, ())))
  (W.call (ref34_nums (c.1 :: (c.2.1 :: [])) []) fun v2 => W.call (ref34_Fields c.1) fun v3 => 
  W.loop (fun (z4 : Int × List (Int) × Unit) again5 => 
   W.cnd (decide (z4.1 < (v3.size : Int))) (
    W.join (fun (z6 : List (Int) × Unit) => (again5 ((IntKind.i64.wrap (z4.1 + 1)), (z6.1, ()))))
     fun k7 => W.sidx v3 z4.1 fun x8 => 
     W.cnd (x8 == 77) (W.call (ref34_nums (c.2.2.1 :: []) z4.2.1) fun v9 => (k7 (v9.1, ())))
      (
      W.cnd (x8 == 85) (W.call (ref34_nums (c.2.2.2.1.1 :: (c.2.2.2.1.2.1 :: [])) z4.2.1) fun v10 => (k7 (v10.1, ())))
       (
       W.cnd (x8 == 79) (W.call (ref34_nums (c.2.2.2.2.1.1 :: (c.2.2.2.2.1.2.1 :: [])) z4.2.1) fun v11 => (k7 (v11.1, ())))
        (
        W.cnd (x8 == 73) (W.call (ref34_nums (c.2.2.2.2.2.1 :: []) z4.2.1) fun v12 => (k7 (v12.1, ())))
         (
         W.cnd (x8 == 65) (W.call (ref34_nums (c.2.2.2.2.2.2.1 :: []) z4.2.1) fun v13 => (k7 (v13.1, ())))
          (
          W.cnd (x8 == 84) (W.call (ref34_nums (c.2.2.2.2.2.2.2.1 :: []) z4.2.1) fun v14 => (k7 (v14.1, ())))
           (
           W.cnd (x8 == 68) (W.call (ref34_nums (c.2.2.2.2.2.2.2.2.1 :: []) z4.2.1) fun v15 => (k7 (v15.1, ())))
            (
            W.cnd (x8 == 81) (W.call (ref04_Int c.2.2.2.2.2.2.2.2.2.1) fun v16 => W.room (z4.2.1.length + v16.length) 1 ((k7 ((z4.2.1 ++ v16), ()))))
             (
             W.cnd (x8 == 80) (W.call (ref04_Int c.2.2.2.2.2.2.2.2.2.2.1) fun v17 => W.room (z4.2.1.length + v17.length) 1 ((k7 ((z4.2.1 ++ v17), ()))))
              (
              W.cnd (x8 == 78) (W.call (ref34_nums ((c.2.2.2.2.2.2.2.2.2.2.2.1.length : Int) :: []) z4.2.1) fun v18 => W.call (ref04_Ints c.2.2.2.2.2.2.2.2.2.2.2.1) fun v19 => W.room (v18.1.length + v19.length) 1 ((k7 ((v18.1 ++ v19), ()))))
               ((k7 (z4.2.1, ())))))))))))))
    (some (z4.2.1, (0, ()))))
   (0, (v2.1, ())))
noncomputable def ref34_Encode (c : ACommand') : Option ((List Int) × Int × Unit) := ref34_EncodeW stdW c
noncomputable def ref34_Encode_s : ES := ⟨(.pair tACommand .unit), (.pair (.own 5 (.int .u8)) (.pair (.v (.int .i64)) .unit)), fun x => ref34_Encode x.1⟩
theorem ref34_Encode_ok : ECok Try.prog 62 (.es ref34_Encode_s)   := es_ok (A := (.pair tACommand .unit)) (Q := (.pair (.own 5 (.int .u8)) (.pair (.v (.int .i64)) .unit))) (fun W x => ref34_EncodeW W x.1) [(64, .es ref34_Is_s), (117, .ls ref34_nums_s), (66, .es ref34_Fields_s), (85, .es ref04_Int_s), (28, .es ref04_Ints_s)] ⟨ref34_Is_ok, ref34_nums_ok, ref34_Fields_ok, ref04_Int_ok, ref04_Ints_ok, trivial⟩ [] [(7, ⟨[(4, .row 1)], [], [.dead, .own 5 (.int .u8)]⟩)] [(6, ⟨[(4, .row 1), (6, .t (.int .i64))], [], [.dead, .own 5 (.int .u8)]⟩)] Try.func62 rfl (by decide +kernel) rfl rfl (fun W x => by kernel_rfl)
noncomputable def law34_CmdEncodesW (W : Wd) (c : ACommand') (op : Int) : Option Bool := W.call (law34_Short (c.1, (c.2.1, (c.2.2.1, (c.2.2.2.1, (c.2.2.2.2.1, (c.2.2.2.2.2.1, (c.2.2.2.2.2.2.1, (c.2.2.2.2.2.2.2.1, (c.2.2.2.2.2.2.2.2.1, (c.2.2.2.2.2.2.2.2.2.1, (c.2.2.2.2.2.2.2.2.2.2.1, (c.2.2.2.2.2.2.2.2.2.2.2.1, ()))))))))))))) fun v1 => W.call (cmd_Encode (v1.1, (v1.2.1, (v1.2.2.1, (v1.2.2.2.1, (v1.2.2.2.2.1, (v1.2.2.2.2.2.1, (v1.2.2.2.2.2.2.1, (v1.2.2.2.2.2.2.2.1, (v1.2.2.2.2.2.2.2.2.1, (v1.2.2.2.2.2.2.2.2.2.1, (v1.2.2.2.2.2.2.2.2.2.2.1, (v1.2.2.2.2.2.2.2.2.2.2.2.1, ()))))))))))))) fun v2 => W.call (ref34_Encode (v1.1, (v1.2.1, (v1.2.2.1, (v1.2.2.2.1, (v1.2.2.2.2.1, (v1.2.2.2.2.2.1, (v1.2.2.2.2.2.2.1, (v1.2.2.2.2.2.2.2.1, (v1.2.2.2.2.2.2.2.2.1, (v1.2.2.2.2.2.2.2.2.2.1, (v1.2.2.2.2.2.2.2.2.2.2.1, (v1.2.2.2.2.2.2.2.2.2.2.2.1, ()))))))))))))) fun v3 => W.call (ref01_Same v2.1 v3.1) fun v4 => 
 W.cnd v4 (W.both (
   W.cnd (v2.2.1 == v3.2.1) (W.both (W.call (cmd_Check (v1.1, (v1.2.1, (v1.2.2.1, (v1.2.2.2.1, (v1.2.2.2.2.1, (v1.2.2.2.2.2.1, (v1.2.2.2.2.2.2.1, (v1.2.2.2.2.2.2.2.1, (v1.2.2.2.2.2.2.2.2.1, (v1.2.2.2.2.2.2.2.2.2.1, (v1.2.2.2.2.2.2.2.2.2.2.1, (v1.2.2.2.2.2.2.2.2.2.2.2.1, ()))))))))))))) fun v5 => W.call (ref34_Is (v1.1, (v1.2.1, (v1.2.2.1, (v1.2.2.2.1, (v1.2.2.2.2.1, (v1.2.2.2.2.2.1, (v1.2.2.2.2.2.2.1, (v1.2.2.2.2.2.2.2.1, (v1.2.2.2.2.2.2.2.2.1, (v1.2.2.2.2.2.2.2.2.2.1, (v1.2.2.2.2.2.2.2.2.2.2.1, (v1.2.2.2.2.2.2.2.2.2.2.2.1, ()))))))))))))) fun v6 => 
     W.cnd (Go.Vc.notIf false ((v5 == 0) == v6)) (W.call (cmd_Fields op) fun v7 => W.call (ref34_Fields op) fun v8 => 
      W.cnd (Go.Vc.notIf false (v7.toList == v8.toList)) (W.call (law34_lives) fun v9 => some v9)
       (some false))
      (some false)) (W.call (cmd_Check (v1.1, (v1.2.1, (v1.2.2.1, (v1.2.2.2.1, (v1.2.2.2.2.1, (v1.2.2.2.2.2.1, (v1.2.2.2.2.2.2.1, (v1.2.2.2.2.2.2.2.1, (v1.2.2.2.2.2.2.2.2.1, (v1.2.2.2.2.2.2.2.2.2.1, (v1.2.2.2.2.2.2.2.2.2.2.1, (v1.2.2.2.2.2.2.2.2.2.2.2.1, ()))))))))))))) fun v10 => W.call (ref34_Is (v1.1, (v1.2.1, (v1.2.2.1, (v1.2.2.2.1, (v1.2.2.2.2.1, (v1.2.2.2.2.2.1, (v1.2.2.2.2.2.2.1, (v1.2.2.2.2.2.2.2.1, (v1.2.2.2.2.2.2.2.2.1, (v1.2.2.2.2.2.2.2.2.2.1, (v1.2.2.2.2.2.2.2.2.2.2.1, (v1.2.2.2.2.2.2.2.2.2.2.2.1, ()))))))))))))) fun v11 => 
     W.cnd (Go.Vc.notIf false ((v10 == 0) == v11)) (W.call (cmd_Fields op) fun v12 => W.call (ref34_Fields op) fun v13 => 
      W.cnd (Go.Vc.notIf false (v12.toList == v13.toList)) (W.call (law34_lives) fun v14 => some v14)
       (some false))
      (some false)))
    (W.both (some false) (some false))) (
   W.cnd (v2.2.1 == v3.2.1) (W.call (cmd_Check (v1.1, (v1.2.1, (v1.2.2.1, (v1.2.2.2.1, (v1.2.2.2.2.1, (v1.2.2.2.2.2.1, (v1.2.2.2.2.2.2.1, (v1.2.2.2.2.2.2.2.1, (v1.2.2.2.2.2.2.2.2.1, (v1.2.2.2.2.2.2.2.2.2.1, (v1.2.2.2.2.2.2.2.2.2.2.1, (v1.2.2.2.2.2.2.2.2.2.2.2.1, ()))))))))))))) fun v15 => W.call (ref34_Is (v1.1, (v1.2.1, (v1.2.2.1, (v1.2.2.2.1, (v1.2.2.2.2.1, (v1.2.2.2.2.2.1, (v1.2.2.2.2.2.2.1, (v1.2.2.2.2.2.2.2.1, (v1.2.2.2.2.2.2.2.2.1, (v1.2.2.2.2.2.2.2.2.2.1, (v1.2.2.2.2.2.2.2.2.2.2.1, (v1.2.2.2.2.2.2.2.2.2.2.2.1, ()))))))))))))) fun v16 => 
    W.cnd (Go.Vc.notIf false ((v15 == 0) == v16)) (W.call (cmd_Fields op) fun v17 => W.call (ref34_Fields op) fun v18 => 
     W.cnd (Go.Vc.notIf false (v17.toList == v18.toList)) (W.call (law34_lives) fun v19 => some v19)
      (some false))
     (some false))
    (some false)))
  (W.both (W.both (some false) (some false)) (some false))
noncomputable def law34_CmdEncodes (c : ACommand') (op : Int) : Option Bool := law34_CmdEncodesW stdW c op
noncomputable def law34_CmdEncodes_s : ES := ⟨(.pair tACommand (.pair (.int .i64) .unit)), (.v .bool), fun x => law34_CmdEncodes x.1 x.2.1⟩
theorem law34_CmdEncodes_ok : ECok Try.prog 11 (.es law34_CmdEncodes_s)   := es_ok (A := (.pair tACommand (.pair (.int .i64) .unit))) (Q := (.v .bool)) (fun W x => law34_CmdEncodesW W x.1 x.2.1) [(60, .es law34_Short_s), (61, .es cmd_Encode_s), (62, .es ref34_Encode_s), (32, .es ref01_Same_s), (63, .es cmd_Check_s), (64, .es ref34_Is_s), (65, .es cmd_Fields_s), (66, .es ref34_Fields_s), (67, .es law34_lives_s)] ⟨law34_Short_ok, cmd_Encode_ok, ref34_Encode_ok, ref01_Same_ok, cmd_Check_ok, ref34_Is_ok, cmd_Fields_ok, ref34_Fields_ok, law34_lives_ok, trivial⟩ [(4, [], (.rd 0 (.rd 1 (.op 2 (.rd 3 (.rd 4 (.rd 5 (.rd 6 (.rd 7 (.rd 8 (.two 9 12 (.two 10 12 (ofL [(11, true), (12, false), (13, false), (14, true), (15, true), (16, true), (17, true), (19, true), (18, false), (20, false), (21, true), (22, true), (23, true), (24, false), (25, true), (26, true)]) (ofL [(10, false), (11, true), (13, false), (14, true), (15, true), (16, true), (17, true), (19, true), (18, false), (20, false), (21, true), (22, true), (23, true), (24, false), (25, true), (26, true)])) (ofL [(9, false), (10, false), (11, true), (13, false), (14, true), (15, true), (16, true), (17, true), (19, true), (18, false), (20, false), (21, true), (22, true), (23, true), (24, false), (25, true), (26, true)]))))))))))))] [] [] Try.func11 rfl (by decide +kernel) rfl rfl (fun W x => by kernel_rfl)
end Go.Proofs.Ytnldhkhnfodplaa

namespace Go.Proofs.Ytnldhkhnfodplaa
open Go Go.Vc Go.RowKit
/-! ### the reference's writing -/
theorem r_rInt {n : Int} (hn : Is64 n) : ref04_Int n = some (encU (fold n)) := by
  show ref04_IntW stdW n = _
  unfold ref04_IntW
  have go : ∀ u : Nat, u < 18446744073709551616 → stdW.loop (fun (z2 : Int × List (Int) × Unit) again3 => 
   stdW.cnd (decide (128 ≤ z2.1)) (stdW.nz 128 (stdW.room (z2.2.1.length + ((IntKind.u8.wrap (IntKind.u64.wrap ((Int.tmod z2.1 128) + 128))) :: []).length) 1 (stdW.nz 128 ((again3 ((IntKind.u64.wrap (Int.tdiv z2.1 128)), ((z2.2.1 ++ ((IntKind.u8.wrap (IntKind.u64.wrap ((Int.tmod z2.1 128) + 128))) :: [])), ())))))))
    (stdW.room (z2.2.1.length + ((IntKind.u8.wrap z2.1) :: []).length) 1 (some (z2.2.1 ++ ((IntKind.u8.wrap z2.1) :: []))))) ((u : Int), ([], ())) = some (encU u) := by
    intro u hu
    have hl := encU_len10 hu
    refine (loop_std (fun z => z.1.toNat) (fun z => ∃ (v : Nat) (l : List Int), z = ((v : Int), (l, ())) ∧ v < 18446744073709551616 ∧ l.length + (encU v).length ≤ 20) (fun z => some (z.2.1 ++ encU z.1.toNat)) ⟨u, [], rfl, hu, by simp only [List.length_nil]; omega⟩ (by show (u : Int).toNat < _; omega) ?_).trans (by simp)
    rintro _ ⟨v, l, rfl, hv, hl⟩ again ha
    show stdW.cnd (decide ((128 : Int) ≤ (v : Int))) _ _ = some (l ++ encU (v : Int).toNat)
    rw [Int.toNat_natCast]
    by_cases h : 128 ≤ v
    · rw [cnd_y (by simpa using by omega)]
      rw [encU_ge h] at hl ⊢
      simp only [List.length_cons] at hl
      show nzF 128 _ = _
      rw [nz_eq (by omega), room_w (by simp only [List.length_cons, List.length_nil]; omega) (by simp only [List.length_cons, List.length_nil]; omega)]
      show nzF 128 _ = _
      rw [nz_eq (by omega)]
      show again (IntKind.u64.wrap (Int.tdiv (v : Int) 128), ((l ++ (IntKind.u8.wrap (IntKind.u64.wrap ((Int.tmod (v : Int) 128) + 128))) :: []), ())) = _
      rw [tdivN, tmodN, u64c _ (by omega), u64c _ (by omega), u8c _ (by omega)]
      refine (ha _ ⟨v / 128, _, rfl, by omega, by simp only [List.length_append, List.length_cons, List.length_nil]; omega⟩ (by show ((v / 128 : Nat) : Int).toNat < ((v : Nat) : Int).toNat; omega)).trans ?_
      rw [Int.toNat_natCast, List.append_assoc]
      show some (l ++ ((((v % 128 : Nat) : Int) + 128) :: encU (v / 128))) = _
      rw [show ((v % 128 : Nat) : Int) + 128 = ((v % 128 + 128 : Nat) : Int) by omega]
    · rw [cnd_n (by simpa using by omega)]
      rw [encU_lt (by omega)] at hl ⊢
      rw [room_w (by simp only [List.length_cons, List.length_nil] at hl ⊢; omega) (by simp only [List.length_cons, List.length_nil] at hl ⊢; omega)]
      show some (l ++ (IntKind.u8.wrap (v : Int)) :: []) = _
      rw [u8c _ (by omega)]
  have hf := fold_lt n hn
  unfold Is64 at hn
  rw [join_w]
  by_cases h : 0 ≤ n
  · rw [cnd_y (by simpa using h), u64c n (by omega), u64c (2 * n) (by omega)]
    have e : 2 * n = ((fold n : Nat) : Int) := by unfold fold; rw [if_pos h]; omega
    rw [e]; exact go _ hf
  · rw [cnd_n (by simpa using by omega), i64c (n + 1) (by omega), i64c (0 - (n + 1)) (by omega), u64c (0 - (n + 1)) (by omega), u64c (2 * (0 - (n + 1))) (by omega), u64c (2 * (0 - (n + 1)) + 1) (by omega)]
    have e : 2 * (0 - (n + 1)) + 1 = ((fold n : Nat) : Int) := by unfold fold; rw [if_neg h]; omega
    rw [e]; exact go _ hf
theorem encs_take {l : List Int} (hl : ∀ n ∈ l, Is64 n) (i : Nat) : (encs (l.take i)).length ≤ 10 * i := by
  have h := encs_len (l := l.take i) fun n hn => hl n (List.mem_of_mem_take hn)
  rw [List.length_take] at h; omega
theorem r_nums {l b : List Int} (hl : ∀ n ∈ l, Is64 n) (hn : l.length ≤ 1000000) (hb : b.length ≤ 50000000) : ref34_nums l b = some (b ++ encs l, ()) := by
  show ref34_numsW stdW l b = _
  unfold ref34_numsW
  refine loop_list (l := l) (by omega) (fun i s => s = (b ++ encs (l.take i), ())) (fun _ _ => some (b ++ encs l, ())) (by simp [encs]) ?_ ?_
  · rintro _ again rfl
    rw [cnd_end, List.take_length]
  · rintro i hi _ rfl again ha
    have hx := hl _ (List.getElem_mem hi)
    have hlen := encs_take hl i
    have h10 := encU_len10 (fold_lt _ hx)
    rw [cnd_lt hi, idx_w hi, call_w (r_rInt hx), room_w (by simp only [List.length_append]; omega) (by simp only [List.length_append]; omega)]
    show again (IntKind.i64.wrap ((i : Int) + 1), ((b ++ encs (l.take i)) ++ encU (fold l[i]), ())) = _
    rw [i64_s i (by omega)]
    refine ha _ ?_
    rw [show l.take (i + 1) = l.take i ++ [l[i]] by simp, encs_app, encs_one, List.append_assoc]
theorem r_ints {l : List Int} (hl : ∀ n ∈ l, Is64 n) (hn : l.length ≤ 1000000) : ref04_Ints l = some (encs l) := by
  show ref04_IntsW stdW l = _
  unfold ref04_IntsW
  refine loop_list (l := l) (by omega) (fun i s => s = (encs (l.take i), ())) (fun _ _ => some (encs l)) (by simp [encs]) ?_ ?_
  · rintro _ again rfl
    rw [cnd_end, List.take_length]
  · rintro i hi _ rfl again ha
    have hx := hl _ (List.getElem_mem hi)
    have hlen := encs_take hl i
    have h10 := encU_len10 (fold_lt _ hx)
    rw [cnd_lt hi, idx_w hi, call_w (r_rInt hx), room_w (by show (encs (List.take i l)).length + _ ≤ _; omega) (by show ((encs (List.take i l)).length + _) * 1 ≤ _; omega)]
    show again (IntKind.i64.wrap ((i : Int) + 1), (encs (l.take i) ++ encU (fold l[i]), ())) = _
    rw [i64_s i (by omega)]
    refine ha _ ?_
    rw [show l.take (i + 1) = l.take i ++ [l[i]] by simp, encs_app, encs_one]
/-- one letter -/
theorem r_letter {β : Type} {c : ACommand'} (L : Lt) {b : List Int} (hc : okC c) (hb : b.length ≤ 1000000) (k7 : List Int × Unit → Option β) :
   (stdW.cnd ((L.code : Int) == 77) (stdW.call (ref34_nums (c.2.2.1 :: []) b) fun v9 => (k7 (v9.1, ())))
      (
      stdW.cnd ((L.code : Int) == 85) (stdW.call (ref34_nums (c.2.2.2.1.1 :: (c.2.2.2.1.2.1 :: [])) b) fun v10 => (k7 (v10.1, ())))
       (
       stdW.cnd ((L.code : Int) == 79) (stdW.call (ref34_nums (c.2.2.2.2.1.1 :: (c.2.2.2.2.1.2.1 :: [])) b) fun v11 => (k7 (v11.1, ())))
        (
        stdW.cnd ((L.code : Int) == 73) (stdW.call (ref34_nums (c.2.2.2.2.2.1 :: []) b) fun v12 => (k7 (v12.1, ())))
         (
         stdW.cnd ((L.code : Int) == 65) (stdW.call (ref34_nums (c.2.2.2.2.2.2.1 :: []) b) fun v13 => (k7 (v13.1, ())))
          (
          stdW.cnd ((L.code : Int) == 84) (stdW.call (ref34_nums (c.2.2.2.2.2.2.2.1 :: []) b) fun v14 => (k7 (v14.1, ())))
           (
           stdW.cnd ((L.code : Int) == 68) (stdW.call (ref34_nums (c.2.2.2.2.2.2.2.2.1 :: []) b) fun v15 => (k7 (v15.1, ())))
            (
            stdW.cnd ((L.code : Int) == 81) (stdW.call (ref04_Int c.2.2.2.2.2.2.2.2.2.1) fun v16 => stdW.room (b.length + v16.length) 1 ((k7 ((b ++ v16), ()))))
             (
             stdW.cnd ((L.code : Int) == 80) (stdW.call (ref04_Int c.2.2.2.2.2.2.2.2.2.2.1) fun v17 => stdW.room (b.length + v17.length) 1 ((k7 ((b ++ v17), ()))))
              (
              stdW.cnd ((L.code : Int) == 78) (stdW.call (ref34_nums ((c.2.2.2.2.2.2.2.2.2.2.2.1.length : Int) :: []) b) fun v18 => stdW.call (ref04_Ints c.2.2.2.2.2.2.2.2.2.2.2.1) fun v19 => stdW.room (v18.1.length + v19.length) 1 ((k7 ((v18.1 ++ v19), ()))))
               ((k7 (b, ()))))))))))))) = k7 (b ++ encs (vals L c), ()) := by
  have hv := hc.2.2.1 L
  have one : ∀ x : Int, Is64 x → ref34_nums (x :: []) b = some (b ++ encs [x], ()) := fun x hx => r_nums (l := [x]) (by intro n hn; simp at hn; subst hn; exact hx) (by simp) (by omega)
  have two : ∀ x y : Int, Is64 x → Is64 y → ref34_nums (x :: (y :: [])) b = some (b ++ encs [x, y], ()) := fun x y hx hy => r_nums (l := [x, y]) (by intro n hn; simp at hn; rcases hn with rfl | rfl; exact hx; exact hy) (by simp) (by omega)
  have int : ∀ x : Int, Is64 x → (stdW.call (ref04_Int x) fun v16 => stdW.room (b.length + v16.length) 1 ((k7 ((b ++ v16), ())))) = k7 (b ++ encs [x], ()) := fun x hx => by
    have h10 := encU_len10 (fold_lt _ hx)
    rw [call_w (r_rInt hx), room_w (by omega) (by omega), encs_one]
  cases L with
  | M => rw [cnd_y (by rfl), call_w (one _ (hv _ (by simp [vals])))]; rfl
  | U => rw [cnd_n (by rfl), cnd_y (by rfl), call_w (two _ _ (hv _ (by simp [vals])) (hv _ (by simp [vals])))]; rfl
  | O => rw [cnd_n (by rfl), cnd_n (by rfl), cnd_y (by rfl), call_w (two _ _ (hv _ (by simp [vals])) (hv _ (by simp [vals])))]; rfl
  | I => rw [cnd_n (by rfl), cnd_n (by rfl), cnd_n (by rfl), cnd_y (by rfl), call_w (one _ (hv _ (by simp [vals])))]; rfl
  | A => rw [cnd_n (by rfl), cnd_n (by rfl), cnd_n (by rfl), cnd_n (by rfl), cnd_y (by rfl), call_w (one _ (hv _ (by simp [vals])))]; rfl
  | T => rw [cnd_n (by rfl), cnd_n (by rfl), cnd_n (by rfl), cnd_n (by rfl), cnd_n (by rfl), cnd_y (by rfl), call_w (one _ (hv _ (by simp [vals])))]; rfl
  | D => rw [cnd_n (by rfl), cnd_n (by rfl), cnd_n (by rfl), cnd_n (by rfl), cnd_n (by rfl), cnd_n (by rfl), cnd_y (by rfl), call_w (one _ (hv _ (by simp [vals])))]; rfl
  | Q => rw [cnd_n (by rfl), cnd_n (by rfl), cnd_n (by rfl), cnd_n (by rfl), cnd_n (by rfl), cnd_n (by rfl), cnd_n (by rfl), cnd_y (by rfl)]; exact int _ (hv _ (by simp [vals]))
  | P => rw [cnd_n (by rfl), cnd_n (by rfl), cnd_n (by rfl), cnd_n (by rfl), cnd_n (by rfl), cnd_n (by rfl), cnd_n (by rfl), cnd_n (by rfl), cnd_y (by rfl)]; exact int _ (hv _ (by simp [vals]))
  | N =>
    rw [cnd_n (by rfl), cnd_n (by rfl), cnd_n (by rfl), cnd_n (by rfl), cnd_n (by rfl), cnd_n (by rfl), cnd_n (by rfl), cnd_n (by rfl), cnd_n (by rfl), cnd_y (by rfl), call_w (one _ (hv _ (by simp [vals])))]
    have hn := hc.2.2.2
    unfold numsOf at hn
    have hl : ∀ n ∈ c.2.2.2.2.2.2.2.2.2.2.2.1, Is64 n := fun n hn => hv n (by simp [vals, hn])
    have h1 := encs_len hl
    have h10 : (encs [(c.2.2.2.2.2.2.2.2.2.2.2.1.length : Int)]).length ≤ 10 := by
      have := encs_len (l := [(c.2.2.2.2.2.2.2.2.2.2.2.1.length : Int)]) (by intro n hn'; simp at hn'; subst hn'; unfold Is64; omega)
      simpa using this
    rw [call_w (r_ints hl (by omega)), room_w (by simp only [List.length_append]; omega) (by simp only [List.length_append]; omega)]
    show k7 ((b ++ encs [(c.2.2.2.2.2.2.2.2.2.2.2.1.length : Int)]) ++ encs c.2.2.2.2.2.2.2.2.2.2.2.1, ()) = _
    rw [List.append_assoc, ← encs_app]; rfl
theorem r_rEncode {c : ACommand'} (hc : okC c) : ref34_Encode c = some (if isB c = true then (bytesC c, (0, ())) else ([], (3, ()))) := by
  show ref34_EncodeW stdW c = _
  unfold ref34_EncodeW
  show stdW.call (ref34_Is c) _ = _
  rw [call_w (r_is c)]
  by_cases h : isB c = true
  · rw [h, cnd_n (by rfl), if_pos rfl]
    have h20 : (encs [c.1, c.2.1]).length ≤ 20 := by
      have := encs_len (l := [c.1, c.2.1]) (by intro n hn; simp at hn; rcases hn with rfl | rfl; exact hc.1; exact hc.2.1)
      simpa using this
    rw [call_w (r_nums (l := [c.1, c.2.1]) (by intro n hn; simp at hn; rcases hn with rfl | rfl; exact hc.1; exact hc.2.1) (by simp) (by simp)), call_w (r_rFields _)]
    have hls := fl_len c.1
    unfold bytesC
    generalize fl c.1 = ls at *
    have hlen : ∀ l : List Lt, (l.flatMap fun L => encs (vals L c)).length ≤ 10010 * l.length := by
      intro l
      induction l with
      | nil => simp
      | cons L l ih => rw [List.flatMap_cons, List.length_append, List.length_cons]; have := vals_len hc L; omega
    refine loop_n (N := ls.length) (by omega) (fun i s => s = (encs [c.1, c.2.1] ++ ((ls.take i).flatMap fun L => encs (vals L c)), ())) (some (encs [c.1, c.2.1] ++ (ls.flatMap fun L => encs (vals L c)), (0, ()))) (by simp) ?_ ?_
    · rintro _ again rfl
      show stdW.cnd (decide ((ls.length : Int) < ((str ls).size : Int))) _ _ = _
      rw [str_size, cnd_end, List.take_length]
    · rintro i hi _ rfl again ha
      have hl1 := hlen (ls.take i)
      rw [List.length_take] at hl1
      show stdW.cnd (decide ((i : Int) < ((str ls).size : Int))) _ _ = _
      rw [str_size, cnd_lt hi, join_w, sidx_w ls i hi]
      refine (r_letter ls[i] hc (b := encs [c.1, c.2.1] ++ ((ls.take i).flatMap fun L => encs (vals L c))) (by rw [List.length_append]; omega) (fun z6 => again (IntKind.i64.wrap ((i : Int) + 1), (z6.1, ())))).trans ?_
      show again (IntKind.i64.wrap ((i : Int) + 1), ((encs [c.1, c.2.1] ++ ((ls.take i).flatMap fun L => encs (vals L c))) ++ encs (vals ls[i] c), ())) = _
      rw [i64_s i (by omega)]
      refine ha _ ?_
      rw [show ls.take (i + 1) = ls.take i ++ [ls[i]] by simp, List.flatMap_append, List.append_assoc]
      simp
  · have h' : isB c = false := by cases h2 : isB c; rfl; exact absurd h2 h
    rw [h', cnd_y (by rfl), if_neg (by simp)]
end Go.Proofs.Ytnldhkhnfodplaa

namespace Go.Proofs.Ytnldhkhnfodplaa
open Go Go.Vc Go.RowKit
/-! ### the law of writing commands -/
theorem notIf_f (b : Bool) : Go.Vc.notIf false b = b := by cases b <;> rfl
theorem encodes_law {c : ACommand'} (op : Int) (hc : okC (shortC c)) : law34_CmdEncodes c op = some true := by
  show law34_CmdEncodesW stdW c op = _
  unfold law34_CmdEncodesW
  show stdW.call (law34_Short c) _ = _
  rw [call_w (r_short c)]
  generalize shortC c = x at *
  show stdW.call (cmd_Encode x) _ = _
  rw [call_w (r_encode hc)]
  show stdW.call (ref34_Encode x) _ = _
  rw [call_w (r_rEncode hc), chk_is hc]
  have e : (if (if isB x = true then (0 : Int) else 3) = 0 then (bytesC x, ((0 : Int), ())) else ([], ((if isB x = true then (0 : Int) else 3), ()))) = if isB x = true then (bytesC x, ((0 : Int), ())) else ([], ((3 : Int), ())) := by
    cases isB x <;> rfl
  rw [e]
  have hl : (if isB x = true then (bytesC x, ((0 : Int), ())) else ([], ((3 : Int), ()))).1.length ≤ 1000000 := by
    have := bytesC_len hc
    split
    · show (bytesC x).length ≤ _; omega
    · simp
  generalize (if isB x = true then (bytesC x, ((0 : Int), ())) else ([], ((3 : Int), ()))) = r at *
  have tail : stdW.call (cmd_Check x) (fun v5 => stdW.call (ref34_Is x) fun v6 =>
     stdW.cnd (Go.Vc.notIf false ((v5 == 0) == v6)) (stdW.call (cmd_Fields op) fun v7 => stdW.call (ref34_Fields op) fun v8 =>
      stdW.cnd (Go.Vc.notIf false (v7.toList == v8.toList)) (stdW.call (law34_lives) fun v9 => some v9)
       (some false))
      (some false)) = some true := by
    rw [call_w (r_check hc), call_w (r_is x), chk_is hc]
    rw [cnd_y (by cases isB x <;> rfl), call_w (r_cFields op), call_w (r_rFields op), cnd_y (by rw [notIf_f]; simp), call_w r_lives34]
  rw [call_w (r_sameB hl), decide_eq_true rfl, cnd_y (by rfl), cnd_y (by simp), cnd_y (by simp), both_w, both_w]
  exact tail
theorem cmdEncodes_true (x0 : DT.den tACommand) (x1 : Int) (o0 : DT.okD tACommand x0) (_ : DT.okD (.int .i64) x1) : law34_CmdEncodes x0 x1 = some true := by
  refine encodes_law x1 ?_
  exact short_ok o0
end Go.Proofs.Ytnldhkhnfodplaa

namespace Go.Proofs.Ytnldhkhnfodplaa
open Go Go.Vc Go.RowKit Go.ChangeShapes Go.WideShapes Go.ChangeAt Go.Joins

theorem own : ownKnob Try.prog.godebug = none := by kernel_rfl
theorem laidOut : laidOutB Try.prog = true := by kernel_rfl
theorem trod_places {H : Type} {enc : TypeId × Value → H} {w : World} {spare : Nat → Bool} {held : Bool} {t : TypeId} {v : Value} {d : DataW H} {p : List MemPlace} (h : DataW.Trod enc Try.prog w 0 spare held t v d p) : ∀ x ∈ p, x.block < w.heap.size := by
  obtain ⟨m, hm⟩ := h; exact DataW.trod_lt m _ _ _ hm
end Go.Proofs.Ytnldhkhnfodplaa

/-! A program's closures over a table of who leads to whom (own work): so that 'recurses' is not reckoned by the kernel function by function. -/
namespace Go.Vc
open Go
def closT (T : List (List Nat)) : Nat → List Nat → List Nat → List Nat
  | 0, _, seen => seen.reverse
  | _, [], seen => seen.reverse
  | n + 1, f :: todo, seen => if seen.contains f then closT T n todo seen else closT T n ((T[f]?).getD [] ++ todo) (f :: seen)
theorem lead_eq {P : Program} {T : List (List Nat)} (hT : P.funcs.toList.map P.leadsTo = T) (f : Nat) : (P.funcs[f]?).elim [] P.leadsTo = (T[f]?).getD [] := by
  subst hT
  rw [List.getElem?_map, Array.getElem?_toList]
  cases P.funcs[f]? <;> rfl
theorem closureVia_eq {P : Program} {T : List (List Nat)} (hT : P.funcs.toList.map P.leadsTo = T) : ∀ n todo seen, P.closureVia n todo seen = closT T n todo seen
  | 0, _, _ => by simp only [Program.closureVia, closT]
  | n + 1, [], _ => by simp only [Program.closureVia, closT]
  | n + 1, f :: todo, seen => by
    simp only [Program.closureVia, closT]
    rw [closureVia_eq hT n, closureVia_eq hT n, lead_eq hT f]
theorem closure_eq {P : Program} {T : List (List Nat)} (hT : P.funcs.toList.map P.leadsTo = T) (f : Nat) : P.closure f = closT T (1 + (T.map fun l => l.length + 1).sum) [f] [] := by
  unfold Program.closure
  rw [closureVia_eq hT]
  subst hT
  rw [List.map_map]; rfl
theorem mem_closT {T : List (List Nat)} {p : Nat → Prop} (hp : ∀ x, p x → ∀ y ∈ (T[x]?).getD [], p y) : ∀ n todo seen, (∀ x ∈ todo, p x) → (∀ x ∈ seen, p x) → ∀ x ∈ closT T n todo seen, p x
  | 0, _, _, _, hs => by intro x hx; simp only [closT] at hx; exact hs x (by simpa using hx)
  | n + 1, [], _, _, hs => by intro x hx; simp only [closT] at hx; exact hs x (by simpa using hx)
  | n + 1, f :: todo, seen, ht, hs => by
    intro x hx
    simp only [closT] at hx
    split at hx
    · exact mem_closT hp n todo seen (fun y hy => ht y (by simp [hy])) hs x hx
    · refine mem_closT hp n _ _ (fun y hy => ?_) (fun y hy => ?_) x hx
      · rcases List.mem_append.1 hy with h | h
        · exact hp f (ht f (by simp)) y h
        · exact ht y (by simp [h])
      · rcases List.mem_cons.1 hy with rfl | h
        · exact ht y (by simp)
        · exact hs y h
/-- a rank that falls along every call (0: not ranked) -/
def okRk (T : List (List Nat)) (rk : List Nat) : Bool :=
  (List.range T.length).all fun g => (rk[g]?).getD 0 == 0 || ((T[g]?).getD []).all fun h => decide (0 < (rk[h]?).getD 0) && decide ((rk[h]?).getD 0 < (rk[g]?).getD 0)
theorem okRk_at {T : List (List Nat)} {rk : List Nat} (h : okRk T rk = true) {g y : Nat} (hg : 0 < (rk[g]?).getD 0) (hy : y ∈ (T[g]?).getD []) : 0 < (rk[y]?).getD 0 ∧ (rk[y]?).getD 0 < (rk[g]?).getD 0 := by
  have hlt : g < T.length := by
    rcases Nat.lt_or_ge g T.length with h1 | h1
    · exact h1
    · rw [List.getElem?_eq_none h1] at hy; cases hy
  have := List.all_eq_true.1 h g (List.mem_range.2 hlt)
  simp only [Bool.or_eq_true, beq_iff_eq, List.all_eq_true, Bool.and_eq_true, decide_eq_true_eq] at this
  rcases this with h0 | h0
  · omega
  · exact h0 y hy
theorem recurses_no {P : Program} {T : List (List Nat)} {rk : List Nat} {f : Nat} (hT : P.funcs.toList.map P.leadsTo = T) (hk : okRk T rk = true) (hf : 0 < (rk[f]?).getD 0) (hu : P.unfollowed f = false) : P.recurses f = false := by
  unfold Program.recurses
  rw [hu, Bool.false_or, List.any_eq_false]
  intro g hg
  rw [closure_eq hT] at hg
  have hg0 : 0 < (rk[g]?).getD 0 := mem_closT (p := fun x => 0 < (rk[x]?).getD 0) (fun x hx y hy => (okRk_at hk hx hy).1) _ _ _ (by intro x hx; simp only [List.mem_singleton] at hx; subst hx; exact hf) (by intro x hx; cases hx) g hg
  simp only [Bool.not_eq_true, List.any_eq_false]
  intro h hh
  rw [lead_eq hT] at hh
  obtain ⟨h1, h2⟩ := okRk_at hk hg0 hh
  rw [closure_eq hT]
  cases hc : (closT T (1 + (T.map fun l => l.length + 1).sum) [h] []).contains g with
  | false => rfl
  | true =>
    have hm := List.contains_iff_mem.1 hc
    have := mem_closT (p := fun x => 0 < (rk[x]?).getD 0 ∧ (rk[x]?).getD 0 ≤ (rk[h]?).getD 0) (fun x hx y hy => by have := okRk_at hk hx.1 hy; exact ⟨this.1, by omega⟩) _ _ _ (by intro x hx; simp only [List.mem_singleton] at hx; subst hx; exact ⟨h1, Nat.le_refl _⟩) (by intro x hx; cases hx) g hm
    omega
end Go.Vc

namespace Go.Proofs.Ytnldhkhnfodplaa
open Go Go.Vc
def leadsT : List (List Nat) := [[], [], [1], [15, 16, 17, 18], [18, 19, 20, 18, 20, 20, 20, 18], [15, 21, 16, 22, 17, 23, 20, 24, 18], [25, 27, 26, 27, 28, 30, 29, 30, 31, 33, 32, 34], [27, 30, 35, 25, 26, 29, 33, 36, 37, 38, 39, 36, 25, 40, 37, 41, 26, 39, 33, 32, 34], [27, 26, 30, 29, 33, 37, 38, 40, 41, 39, 34], [42, 43, 44, 45, 46], [43, 47, 50, 49, 51, 48, 52, 49, 48, 53, 49, 48, 55, 56, 54, 58, 59, 57, 46], [60, 61, 62, 32, 63, 64, 65, 66, 67], [35, 60, 68, 69, 70, 61, 32, 61, 67, 68, 70, 67], [71, 35, 72, 73, 74, 32, 75, 73, 75, 67, 74, 32, 67], [76, 76, 77, 77, 78, 79], [80], [80], [80], [15, 16, 16, 19], [], [19], [81], [81], [81], [], [], [82, 84, 83], [], [85], [82, 84, 83], [], [85], [], [82, 86], [25, 26, 29, 33, 36, 32, 37, 37, 38, 39], [], [86], [87, 88, 89, 90], [37, 87, 90], [41], [87], [], [91, 92, 92, 76, 93, 94], [60, 95], [96, 97, 50, 98, 50], [100, 100, 99, 101, 51, 48, 102, 51, 48], [44, 50, 49, 103, 48], [56, 103, 99, 103, 99], [104], [105], [106, 108, 107, 108, 109, 110, 109, 111], [103, 99, 103, 104, 103, 104, 112, 104], [114, 113], [115, 113], [], [106], [], [], [106], [], [], [63, 116], [64, 117, 66, 117, 117, 117, 117, 117, 117, 117, 85, 85, 117, 28], [116, 118, 119], [66, 121, 120, 121, 120, 121, 120, 121, 120, 121, 120, 121, 120, 121, 120, 121, 120, 121, 120, 121, 121, 121], [], [], [61, 68, 32], [118], [122, 122, 66, 122, 122, 122, 122, 122, 122, 122, 122, 122, 122, 122, 123, 122, 124, 64], [125], [95], [25, 26, 26, 26, 126, 126, 26, 26, 126, 26, 26, 33], [36, 127, 128, 129, 41, 130, 130, 37, 129, 41, 131, 39, 72, 132], [117, 28, 117, 117, 85, 117, 117, 85, 117, 117, 85], [125, 54, 133], [], [134, 135, 136, 138, 137], [], [139, 140, 140, 134], [141], [142], [], [], [], [], [], [], [90, 90], [], [], [], [143], [95], [], [], [144, 144, 107, 111], [108, 145], [146, 145], [148, 147, 149, 150, 147, 150, 147], [151, 103, 99], [112, 99], [103, 99], [152, 152, 148], [153, 99], [103, 152, 99], [], [], [], [154, 107], [108, 146], [145], [103, 99], [55, 108, 107, 111], [], [], [25, 26, 65, 155, 33], [85], [36, 37, 129, 65, 156, 39], [157], [], [], [123], [158, 158, 158], [], [], [26], [37], [129, 41, 37], [37], [127, 127], [130, 37, 129, 41, 127, 127, 37], [], [159], [160], [161], [162, 163], [108, 145, 164], [], [165, 134, 77], [], [], [], [], [166, 108, 145], [167, 168], [108, 145], [], [], [], [], [], [], [147], [170, 172, 171, 169], [26, 126, 126, 26, 26, 26, 26, 26, 26, 26, 26], [129, 173, 173, 129, 129, 129, 129, 37, 37, 128], [], [], [], [], [], [175, 174], [160, 160], [176], [108, 108, 177, 164], [], [178, 178], [169], [], [172, 179, 179], [179, 179], [], [129, 129], [180, 181, 182, 183, 184, 185, 186, 187, 174, 174], [188, 189], [108], [167, 167, 108, 167, 168], [], [], [], [190, 190], [191, 192], [193, 193, 193, 194], [], [], [], [], [], [], [], [175], [], [194], [195, 195, 195], [], [], [], [], [], [], [], [], [], [], [], [], [], [], [], [], [], []]
def rankT : List Nat := [1, 1, 2, 5, 5, 5, 6, 6, 6, 9, 9, 11, 11, 11, 0, 3, 3, 3, 4, 1, 2, 3, 3, 3, 1, 1, 2, 1, 2, 2, 1, 2, 1, 2, 5, 1, 2, 3, 4, 2, 2, 1, 3, 2, 7, 5, 8, 3, 4, 4, 6, 4, 6, 6, 1, 2, 1, 1, 2, 1, 1, 9, 3, 8, 2, 1, 1, 10, 8, 4, 2, 2, 4, 7, 3, 3, 1, 0, 1, 0, 2, 2, 1, 1, 1, 1, 1, 1, 2, 1, 1, 1, 2, 2, 1, 1, 5, 4, 5, 2, 3, 4, 3, 2, 3, 3, 1, 1, 1, 4, 5, 4, 3, 5, 1, 1, 5, 2, 7, 2, 1, 1, 3, 2, 1, 1, 3, 4, 5, 4, 5, 6, 1, 2, 2, 2, 0, 4, 1, 0, 1, 1, 1, 1, 4, 3, 4, 1, 1, 1, 1, 1, 1, 2, 3, 4, 6, 1, 1, 1, 1, 1, 0, 2, 3, 4, 1, 2, 2, 1, 2, 2, 1, 5, 0, 2, 2, 3, 1, 1, 1, 2, 4, 4, 1, 1, 1, 1, 1, 1, 1, 3, 1, 3, 2, 1, 1, 1, 1, 1, 1, 1, 1, 1, 1, 1, 1, 1, 1, 1, 1, 1, 1]
set_option maxRecDepth 1000000 in
theorem leads_ok : Try.prog.funcs.toList.map Try.prog.leadsTo = leadsT := by kernel_rfl
set_option maxRecDepth 1000000 in
theorem rank_ok : okRk leadsT rankT = true := by kernel_rfl
end Go.Proofs.Ytnldhkhnfodplaa
