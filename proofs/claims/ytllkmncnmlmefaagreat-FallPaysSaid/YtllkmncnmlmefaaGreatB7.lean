import Derived.Test.YtllkmncnmlmefaaGreatB6
namespace Go.Proofs.YtllkmncnmlmefaaGreat
open Go Go.Vc Go.RowKit
/-! ### assets, what lots are worth, what a unit owes, what room it has -/
theorem r_asFind {l : List AAsset'} {k : Int} (hl : l.length ≤ 1000) : asset_Find l k = some (findA l k) := by
  show asset_FindW stdW l k = _
  unfold asset_FindW
  refine loop_list (l := l) (by omega) (s0 := ()) (fun _ _ => True) (fun l' _ => some (findA l' k)) trivial ?_ ?_
  · rintro _ again _
    rw [cnd_end]; rfl
  · rintro i hi _ _ again ha
    rw [cnd_lt hi, idx_w hi]
    show _ = some (findA (l[i] :: l.drop (i + 1)) k)
    rw [findA]
    by_cases h : l[i].1 = k
    · rw [cnd_y (by simp [h]), if_pos h]
    · rw [cnd_n (by simp [h]), if_neg h]
      show again (IntKind.i64.wrap ((i : Int) + 1), ()) = _
      rw [i64_s i (by omega)]
      exact ha _ trivial
theorem r_asFind12 {l : List AAsset'} {k : Int} (hl : l.length ≤ 1000) : ref12_Find l k = some (findA l k) := by
  show ref12_FindW stdW l k = _
  unfold ref12_FindW
  refine loop_list (l := l) (by omega) (s0 := ()) (fun _ _ => True) (fun l' _ => some (findA l' k)) trivial ?_ ?_
  · rintro _ again _
    rw [cnd_end]; rfl
  · rintro i hi _ _ again ha
    rw [cnd_lt hi, idx_w hi]
    show _ = some (findA (l[i] :: l.drop (i + 1)) k)
    rw [findA]
    by_cases h : l[i].1 = k
    · rw [cnd_y (by simp [h]), if_pos h, idx_w hi]
    · rw [cnd_n (by simp [h]), if_neg h]
      show again (IntKind.i64.wrap ((i : Int) + 1), ()) = _
      rw [i64_s i (by omega)]
      exact ha _ trivial
def okA1 (a : AAsset') : Prop := (1 ≤ a.1 ∧ a.1 ≤ 4) ∧ (0 ≤ a.2.1 ∧ a.2.1 ≤ 2147483647) ∧ (0 ≤ a.2.2.1 ∧ a.2.2.1 ≤ 10000)
instance (a : AAsset') : Decidable (okA1 a) := by unfold okA1; infer_instance
theorem r_asPriced (p : Int) : asset_priced p = some (decide (0 ≤ p) && decide (p ≤ 2147483647)) := by
  show asset_pricedW stdW p = _
  unfold asset_pricedW
  by_cases h : 0 ≤ p
  · rw [cnd_y (decide_eq_true h), decide_eq_true h]; rfl
  · rw [cnd_n (decide_eq_false h), decide_eq_false h]; rfl
theorem r_asCheck {a : AAsset'} (h : okA1 a) : asset_Check a = some 0 := by
  obtain ⟨⟨h1, h2⟩, ⟨h3, h4⟩, h5, h6⟩ := h
  show asset_CheckW stdW a = _
  unfold asset_CheckW
  refine join_g fun k hk => ?_
  have kf : k (false, ()) = some 0 := by subst hk; rfl
  clear hk
  rw [cnd_n (decide_eq_false (by omega)), cnd_n (decide_eq_false (by omega)), call_eq (r_asPriced _), decide_eq_true h3, decide_eq_true h4, cnd_n (by rfl), cnd_n (decide_eq_false (by omega)), decide_eq_false (by omega)]
  exact kf
theorem fits64_pos {z : Int} (h : I64 z) : fits64 z = (z, 0, ()) := if_pos h
theorem fits64_neg {z : Int} (h : ¬ I64 z) : fits64 z = (0, 7, ()) := if_neg h
theorem mul_128 {a b : Int} (ha : I64 a) (hb : I64 b) : In128 (a * b) := by
  unfold I64 at ha hb; unfold In128
  rcases Int.le_total 0 a with h1 | h1 <;> rcases Int.le_total 0 b with h2 | h2
  · have := prod_bd (a := a) (b := b) (A := 9223372036854775808) (B := 9223372036854775808) ⟨h1, by omega⟩ ⟨h2, by omega⟩; omega
  · have := prod_bd (a := a) (b := -b) (A := 9223372036854775807) (B := 9223372036854775808) ⟨h1, by omega⟩ ⟨by omega, by omega⟩
    rw [Int.mul_neg] at this; omega
  · have := prod_bd (a := -a) (b := b) (A := 9223372036854775808) (B := 9223372036854775807) ⟨by omega, by omega⟩ ⟨h2, by omega⟩
    rw [Int.neg_mul] at this; omega
  · have := prod_bd (a := -a) (b := -b) (A := 9223372036854775808) (B := 9223372036854775808) ⟨by omega, by omega⟩ ⟨by omega, by omega⟩
    rw [Int.neg_mul_neg] at this; omega
theorem loop_one {X β : Type} (f : X → (X → Option β) → Option β) (z : X) (r : Option β) (h : ∀ again, f z again = r) : stdW.loop f z = r :=
  loop_at2 (N := 0) (by decide) (fun _ => z) r rfl h (fun i hi => absurd hi (by omega))
theorem r_fProd2 {a b : Int} (ha : I64 a) (hb : I64 b) : fix_Product (a :: (b :: [])) = some (fits64 (a * b)) := by
  show fix_ProductW stdW (a :: (b :: [])) = _
  unfold fix_ProductW
  have e1 : I64 1 := by unfold I64; omega
  have m1 := mul_128 e1 ha
  have m2 := mul_128 ha hb
  have hw1 := r_wMul e1 ha
  have hw2 := r_wMul ha hb
  have i1 := r_wInt m1
  have i2 := r_wInt m2
  rw [Int.one_mul] at hw1 i1
  rw [fits64_pos ha] at i1
  by_cases hI : I64 (a * b)
  · rw [fits64_pos hI] at i2 ⊢
    refine loop_at2 (N := 2) (by decide) (fun i => ((if i = 0 then 1 else if i = 1 then a else a * b), (((i : Nat) : Int), ()))) _ rfl ?_ ?_
    · intro again; rfl
    · intro i hi again hag
      have : i = 0 ∨ i = 1 := by omega
      rcases this with rfl | rfl
      · show stdW.cnd true (stdW.call (wide_Mul 1 a) _) _ = _
        rw [cnd_y (by rfl), call_eq hw1]
        show stdW.call (wide_Int (wide a)) _ = _
        rw [call_eq i1]
        exact hag
      · show stdW.cnd true (stdW.call (wide_Mul a b) _) _ = _
        rw [cnd_y (by rfl), call_eq hw2]
        show stdW.call (wide_Int (wide (a * b))) _ = _
        rw [call_eq i2]
        exact hag
  · rw [fits64_neg hI] at i2 ⊢
    refine loop_at2 (N := 1) (by decide) (fun i => ((if i = 0 then 1 else a), (((i : Nat) : Int), ()))) _ rfl ?_ ?_
    · intro again
      show stdW.cnd true (stdW.call (wide_Mul a b) _) _ = _
      rw [cnd_y (by rfl), call_eq hw2]
      show stdW.call (wide_Int (wide (a * b))) _ = _
      rw [call_eq i2]
      rfl
    · intro i hi again hag
      have : i = 0 := by omega
      subst this
      show stdW.cnd true (stdW.call (wide_Mul 1 a) _) _ = _
      rw [cnd_y (by rfl), call_eq hw1]
      show stdW.call (wide_Int (wide a)) _ = _
      rw [call_eq i1]
      exact hag
theorem okA1.price {a : AAsset'} (h : okA1 a) : I64 (priceOf a) := by unfold okA1 at h; unfold I64 priceOf; omega
theorem r_asWorth {a : AAsset'} {q : Int} (h : okA1 a) (hq : I64 q) : asset_Worth a q = some (fits64 (q * priceOf a)) := by
  show asset_WorthW stdW a q = _
  unfold asset_WorthW
  rw [call_eq (r_asCheck h), cnd_n (by rfl)]
  show stdW.call (fix_Product (q :: (priceOf a :: []))) _ = _
  rw [call_eq (r_fProd2 hq h.price)]
theorem findA_ok {as : List AAsset'} (h : ∀ a ∈ as, okA1 a) {k : Int} (hf : (findA as k).2.1 = true) : okA1 (findA as k).1 := by
  induction as with
  | nil => cases hf
  | cons a l ih =>
    rw [findA] at hf ⊢
    by_cases hk : a.1 = k
    · rw [if_pos hk]; exact h a (by simp)
    · rw [if_neg hk] at hf ⊢; exact ih (fun b hb => h b (by simp [hb])) hf
theorem r_values {as : List AAsset'} {l : List ALot'} (ha : ∀ a ∈ as, okA1 a) (hl1 : as.length ≤ 1000) (hl : okT l) :
    cover_values_asset_Worth as l = some ((if isL l = true then valsGo as l [] else ([], 3, ())), ()) := by
  show cover_values_asset_WorthW stdW as l = _
  unfold cover_values_asset_WorthW
  have h20 := hl.1
  rw [call_eq (r_lis1 (by omega))]
  by_cases hp : isL l = true
  · rw [hp, cnd_n (by rfl), if_pos rfl]
    refine loop_list (l := l) (by omega) (fun i (z : List Int × Unit) => z.1.length ≤ i) (fun l' (z : List Int × Unit) => some (valsGo as l' z.1, ())) (Nat.le_refl _) ?_ ?_
    · rintro ⟨acc, ⟨⟩⟩ again _
      rw [cnd_end]; rfl
    · rintro i hi ⟨acc, ⟨⟩⟩ hacc again hag
      simp only at hacc
      show stdW.cnd (decide ((i : Int) < (l.length : Int))) (stdW.idx l (i : Int) _) _ = some (valsGo as (l[i] :: l.drop (i + 1)) acc, ())
      rw [cnd_lt hi, idx_w hi, valsGo]
      rw [call_eq (r_asFind hl1)]
      by_cases hf : (findA as l[i].1).2.1 = true
      · have hq : I64 (qtyOf l[i]) := hl.2 _ (List.getElem_mem hi)
        rw [cnd_n (by rw [hf]; rfl), if_pos hf]
        show stdW.call (asset_Worth (findA as l[i].1).1 (qtyOf l[i])) _ = _
        rw [call_eq (r_asWorth (findA_ok ha hf) hq)]
        by_cases hI : I64 (qtyOf l[i] * priceOf (findA as l[i].1).1)
        · rw [fits64_pos hI, if_pos hI]
          show stdW.cnd false _ (stdW.room (acc.length + 1) 8 (again (IntKind.i64.wrap ((i : Int) + 1), (acc ++ [qtyOf l[i] * priceOf (findA as l[i].1).1], ())))) = _
          rw [cnd_n (by rfl), room_w (by omega) (by omega), i64_s i (by omega)]
          exact hag (acc ++ [qtyOf l[i] * priceOf (findA as l[i].1).1], ()) (by simp; omega)
        · rw [fits64_neg hI, if_neg hI]
          show stdW.cnd true _ _ = _
          rw [cnd_y (by rfl)]
      · have hf : (findA as l[i].1).2.1 = false := by simpa using hf
        rw [cnd_y (by rw [hf]; rfl), if_neg (by rw [hf]; simp)]
  · have hp : isL l = false := by simpa using hp
    rw [hp, cnd_y (by rfl), if_neg (by simp)]
theorem vals_len (as : List AAsset') : ∀ (l : List ALot') (acc : List Int), (valsGo as l acc).1.length ≤ acc.length + l.length
  | [], acc => by simp [valsGo]
  | x :: l, acc => by
    rw [valsGo]
    split
    · split
      · have := vals_len as l (acc ++ [qtyOf x * priceOf (findA as x.1).1]); simp at this ⊢; omega
      · simp
    · simp
theorem vals_ok (as : List AAsset') : ∀ (l : List ALot') (acc : List Int), (∀ x ∈ acc, I64 x) → ∀ x ∈ (valsGo as l acc).1, I64 x
  | [], acc, h => by simpa [valsGo] using h
  | x :: l, acc, h => by
    rw [valsGo]
    split
    · split
      · rename_i hI
        exact vals_ok as l _ fun y hy => (List.mem_append.1 hy).elim (h y) fun hy => by simp at hy; exact hy ▸ hI
      · simp
    · simp
theorem r_cWorth {as : List AAsset'} {l : List ALot'} (ha : ∀ a ∈ as, okA1 a) (hl1 : as.length ≤ 1000) (hl : okT l) : cover_Worth as l = some (worthP as l) := by
  show cover_WorthW stdW as l = _
  unfold cover_WorthW worthP
  rw [call_eq (r_values ha hl1 hl)]
  by_cases hp : isL l = true
  · rw [if_pos hp, if_pos hp]
    have h1 := vals_len as l []
    have h2 := vals_ok as l [] (by simp)
    have h20 := hl.1
    generalize valsGo as l [] = v at *
    obtain ⟨v1, v2, ⟨⟩⟩ := v
    simp only at h1 h2
    by_cases he : v2 = 0
    · subst he
      show stdW.cnd false _ (stdW.call (fix_Sum v1) _) = _
      rw [cnd_n (by rfl), call_eq (r_fSum h2 (by simp at h1; omega))]; rfl
    · show stdW.cnd (v2 != 0) (some (0, (v2, ()))) _ = _
      rw [cnd_y (by simpa using he), if_neg he]
  · rw [if_neg hp, if_neg hp]
    show stdW.cnd true _ _ = _
    rw [cnd_y (by rfl)]
theorem worth_64 {as : List AAsset'} {l : List ALot'} : I64 (worthP as l).1 := by
  unfold worthP
  split
  · split
    · unfold fits64
      split
      · assumption
      · unfold I64; omega
    · unfold I64; omega
  · unfold I64; omega
theorem r_fAbs {a : Int} (h : I64 a) : fix_Abs a = some (if a < 0 then fits64 (-a) else (a, 0, ())) := by
  show fix_AbsW stdW a = _
  unfold fix_AbsW
  by_cases h0 : a < 0
  · have := r_fSub (a := 0) (b := a) (by unfold I64; omega) h
    rw [Int.zero_sub] at this
    rw [cnd_y (decide_eq_true h0), call_eq this, if_pos h0]
  · rw [cnd_n (decide_eq_false h0), if_neg h0]
theorem getP_64 {l : List AFlow'} (h : okF l) (u : AUnit') : I64 (getP l u) := by
  induction l with
  | nil => unfold getP I64; omega
  | cons x l ih =>
    rw [getP]
    split
    · exact h x (by simp)
    · exact ih fun y hy => h y (by simp [hy])
theorem r_owes {s : AState'} {u : AUnit'} (hf : okF (pu s)) (hl : (pu s).length ≤ 1000000) : fall_Owes s u = some (owesP (pu s) u) := by
  show fall_OwesW stdW s u = _
  unfold fall_OwesW owesP
  show stdW.call (purse_Get (pu s) u) _ = _
  rw [call_eq (r_get hl)]
  have hg := getP_64 hf u
  generalize getP (pu s) u = c at *
  have e : (if c < 0 then c else 0) = min 0 c := by unfold I64 at hg; split <;> omega
  show stdW.call (fix_Abs (if c < 0 then c else 0)) _ = _
  by_cases h0 : c < 0
  · rw [if_pos h0, call_eq (r_fAbs hg), if_pos h0]
    by_cases hm : c = -9223372036854775808
    · rw [if_pos hm, hm, fits64_neg (by unfold I64; omega)]
    · rw [if_neg hm, if_pos h0, fits64_pos (by unfold I64 at *; omega)]
  · rw [if_neg h0, call_eq (r_fAbs (by unfold I64; omega)), if_neg (by omega), if_neg (by omega), if_neg h0]
def asS (s : AState') : List AAsset' := s.2.2.2.1
theorem r_room {s : AState'} {u : AUnit'} (ha : ∀ a ∈ asS s, okA1 a) (hl1 : (asS s).length ≤ 1000) (hh : okHs (ho s)) (hf : okF (pu s)) (hl : (pu s).length ≤ 1000000) : fall_Room s u = some (roomP (asS s) (pu s) (ho s) u) := by
  show fall_RoomW stdW s u = _
  unfold fall_RoomW roomP
  show stdW.call (hold_Lots (ho s) u) _ = _
  rw [call_eq (r_hlots hh)]
  show stdW.call (cover_Worth (asS s) (lotsH (ho s) u)) _ = _
  rw [call_eq (r_cWorth ha hl1 (lotsH_ok hh.1 u))]
  have hw := worth_64 (as := asS s) (l := lotsH (ho s) u)
  generalize worthP (asS s) (lotsH (ho s) u) = v at *
  obtain ⟨n, e, ⟨⟩⟩ := v
  simp only at hw
  show stdW.cnd (e != 0) (some (0, (e, ()))) (stdW.call (purse_Get (pu s) u) fun v3 => stdW.call (fix_Sum (n :: (v3 :: []))) fun v4 => some ((if v4.1 > 0 then v4.1 else 0), v4.2)) = some (if e = 0 then (if I64 (n + getP (pu s) u) then (max 0 (n + getP (pu s) u), 0, ()) else (0, 7, ())) else (0, e, ()))
  by_cases he : e = 0
  · subst he
    rw [if_pos rfl, cnd_n (by rfl), call_eq (r_get hl)]
    have hg := getP_64 hf u
    generalize getP (pu s) u = c at *
    show stdW.call (fix_Sum (n :: (c :: []))) _ = _
    rw [call_eq (r_fSum (l := [n, c]) (by intro x hx; simp at hx; rcases hx with rfl | rfl <;> assumption) (by simp))]
    have es : [n, c].sum = n + c := by simp
    rw [es]
    by_cases hI : I64 (n + c)
    · rw [fits64_pos hI, if_pos hI]
      show some ((if n + c > 0 then n + c else 0), (0, ())) = _
      congr 2
      split <;> omega
    · rw [fits64_neg hI, if_neg hI]; rfl
  · rw [if_neg he, cnd_y (by simpa using he)]
end Go.Proofs.YtllkmncnmlmefaaGreat

namespace Go.Proofs.YtllkmncnmlmefaaGreat
open Go Go.Vc Go.RowKit
/-! ### division; how much is worth an amount -/
theorem valB_cons (x : Int) (l : List Int) : valB (x :: l) = x.toNat + 2 * valB l := rfl
/-- the document's division, of a number from 0 on -/
theorem r_divB {z d : Int} (hz : 0 ≤ z) (hs : sml z) (hd : 0 < d) (hd2 : d < 9223372036854775808) : ref01_Div (big z) d = some (big (z / d), (z % d, ())) := by
  show ref01_DivW stdW (big z) d = _
  unfold ref01_DivW
  obtain ⟨n, rfl⟩ := Int.eq_ofNat_of_zero_le hz
  obtain ⟨m, rfl⟩ := Int.eq_ofNat_of_zero_le (Int.le_of_lt hd)
  have hm0 : 0 < m := by omega
  have hm2 : m < 9223372036854775808 := by omega
  have hlen := len_of hs
  have eb : (big (n : Int)) = (false, (bitsOf n, ())) := by unfold big; simp
  rw [eb] at hlen ⊢
  have hl : (bitsOf n).length ≤ 300 := hlen
  clear hlen eb
  have hbit := bitL_bits n
  have hv := valB_bits n
  generalize bitsOf n = bs at *
  have e3 : ((n / m : Nat) : Int) = (n : Int) / (m : Int) := by omega
  have e4 : ((n % m : Nat) : Int) = (n : Int) % (m : Int) := by omega
  rw [← e3, ← e4, ← hv]
  clear e3 e4
  · refine loop_std (fun z => z.2.2.1.toNat) (fun z => ∃ (i : Nat) (q : List Int), i ≤ bs.length ∧ z = (((valB (bs.drop i) % m : Nat) : Int), (q, (((i : Nat) : Int), ()))) ∧ bitL q ∧ q.length = bs.length - i ∧ valB q = valB (bs.drop i) / m)
      (fun _ => some (big ((valB bs / m : Nat) : Int), (((valB bs % m : Nat) : Int), ()))) ⟨bs.length, [], Nat.le_refl _, by rw [List.drop_length]; show _ = (((0 % m : Nat) : Int), _); rw [Nat.zero_mod]; rfl, fun x hx => (by cases hx), by simp, by rw [List.drop_length]; show 0 = 0 / m; rw [Nat.zero_div]⟩ (by show ((bs.length : Nat) : Int).toNat < _; omega) ?_
    rintro _ ⟨i, q, hi, rfl, hq, hql, hqv⟩ again ha
    show stdW.cnd (decide ((0 : Int) < (i : Int))) _ _ = _
    by_cases h0 : i = 0
    · subst h0
      rw [List.drop_zero] at hqv ⊢
      rw [cnd_n (decide_eq_false (by omega))]
      show stdW.call (ref01_trim false q) _ = _
      rw [call_eq (r_trim hq (by omega)), bigS_f, hqv]
      refine join_g fun k hk => ?_
      have kk : ∀ (a : Int) (b : BigT), k (a, b) = some (b, (a, ())) := by intro a b; subst hk; rfl
      clear hk
      refine join_g fun k2 hk2 => ?_
      have kf : k2 (false, ()) = some (big ((valB bs / m : Nat) : Int), (((valB bs % m : Nat) : Int), ())) := by
        subst hk2
        show stdW.cnd false _ (k (((valB bs % m : Nat) : Int), big ((valB bs / m : Nat) : Int))) = _
        rw [cnd_n (by rfl), kk]
      clear hk2
      show stdW.cnd false _ (k2 (false, ())) = _
      rw [cnd_n (by rfl), kf]
    · have hi1 : i - 1 < bs.length := by omega
      rw [cnd_y (decide_eq_true (by omega))]
      show stdW.idx bs (IntKind.i64.wrap ((i : Int) - 1)) _ = _
      rw [i64_pred i (by omega) (by rw [maxLen_eq]; omega), idx_w hi1]
      obtain ⟨u, hu, hxu⟩ := bit_nat hbit (i - 1) hi1
      have hdrop := valB_drop bs (i - 1) hi1
      rw [hxu, show i - 1 + 1 = i by omega, Int.toNat_natCast] at hdrop
      rw [hxu]
      have hr : valB (bs.drop i) % m < m := Nat.mod_lt _ hm0
      have e1 : IntKind.u64.wrap (IntKind.u64.wrap (2 * ((valB (bs.drop i) % m : Nat) : Int)) + IntKind.u64.wrap (u : Int)) = ((2 * (valB (bs.drop i) % m) + u : Nat) : Int) := by
        rw [u64_id (2 * ((valB (bs.drop i) % m : Nat) : Int)) (by omega), u64_id (u : Int) (by omega), u64_id _ (by omega)]; omega
      have hcase : (valB (bs.drop (i - 1)) / m = 2 * (valB (bs.drop i) / m) + (if m ≤ 2 * (valB (bs.drop i) % m) + u then 1 else 0)) ∧ (valB (bs.drop (i - 1)) % m = if m ≤ 2 * (valB (bs.drop i) % m) + u then 2 * (valB (bs.drop i) % m) + u - m else 2 * (valB (bs.drop i) % m) + u) := by
        have hdm := Nat.div_add_mod (valB (bs.drop i)) m
        generalize valB (bs.drop i) / m = a at *
        generalize valB (bs.drop i) % m = r at *
        generalize valB (bs.drop (i - 1)) = V at *
        have hV : V = m * (2 * a) + (2 * r + u) := by rw [hdrop, ← hdm, Nat.mul_add, ← Nat.mul_assoc, ← Nat.mul_assoc, Nat.mul_comm m 2]; omega
        by_cases hge : m ≤ 2 * r + u
        · rw [if_pos hge, if_pos hge]
          have hV2 : V = m * (2 * a + 1) + (2 * r + u - m) := by rw [hV, Nat.mul_add, Nat.mul_one]; omega
          rw [hV2]
          exact ⟨by rw [Nat.mul_add_div hm0, Nat.div_eq_of_lt (by omega)], by rw [Nat.mul_add_mod, Nat.mod_eq_of_lt (by omega)]⟩
        · rw [if_neg hge, if_neg hge, hV]
          exact ⟨by rw [Nat.mul_add_div hm0, Nat.div_eq_of_lt (by omega)], by rw [Nat.mul_add_mod, Nat.mod_eq_of_lt (by omega)]⟩
      obtain ⟨hc1, hc2⟩ := hcase
      show stdW.join _ _ = _
      refine join_g fun k hk => ?_
      have kk : ∀ (r b : Nat), b ≤ 1 → r = valB (bs.drop (i - 1)) % m → valB (bs.drop (i - 1)) / m = 2 * (valB (bs.drop i) / m) + b → k ((r : Int), ((b : Int), ())) = some (big ((valB bs / m : Nat) : Int), (((valB bs % m : Nat) : Int), ())) := by
        intro r b hb hr hq2
        subst hk
        show stdW.room 1 1 (stdW.room (1 + q.length) 1 (again ((r : Int), (((b : Int) :: q), (((i - 1 : Nat) : Int), ()))))) = _
        rw [room_w (by omega) (by omega), room_w (by omega) (by omega)]
        refine ha _ ⟨i - 1, (b : Int) :: q, by omega, by rw [hr], fun x hx => ?_, by simp; omega, ?_⟩ (by show ((i - 1 : Nat) : Int).toNat < ((i : Nat) : Int).toNat; omega)
        · rcases List.mem_cons.1 hx with rfl | hx
          · omega
          · exact hq x hx
        · rw [valB_cons, Int.toNat_natCast, hqv, hq2]; omega
      clear hk
      show stdW.cnd (decide ((m : Int) ≤ IntKind.u64.wrap (IntKind.u64.wrap (2 * ((valB (bs.drop i) % m : Nat) : Int)) + IntKind.u64.wrap (u : Int)))) (k (IntKind.u64.wrap (IntKind.u64.wrap (IntKind.u64.wrap (2 * ((valB (bs.drop i) % m : Nat) : Int)) + IntKind.u64.wrap (u : Int)) - (m : Int)), (1, ()))) (k (IntKind.u64.wrap (IntKind.u64.wrap (2 * ((valB (bs.drop i) % m : Nat) : Int)) + IntKind.u64.wrap (u : Int)), (0, ()))) = _
      rw [e1]
      by_cases hge : m ≤ 2 * (valB (bs.drop i) % m) + u
      · rw [if_pos hge] at hc1 hc2
        have e2 : IntKind.u64.wrap (((2 * (valB (bs.drop i) % m) + u : Nat) : Int) - (m : Int)) = ((2 * (valB (bs.drop i) % m) + u - m : Nat) : Int) := by rw [u64_id _ (by omega)]; omega
        rw [cnd_y (decide_eq_true (by omega)), e2]
        exact kk _ 1 (Nat.le_refl _) hc2.symm hc1
      · rw [if_neg hge] at hc1 hc2
        rw [cnd_n (decide_eq_false (by omega))]
        exact kk _ 0 (by omega) hc2.symm hc1
theorem up_cases {m d : Int} (hm : 0 < m) (hd : 0 < d) : upZ m d = if 0 < m % d then m / d + 1 else m / d := by
  unfold upZ
  have h1 := Int.emod_nonneg m (Int.ne_of_gt hd)
  have h2 := Int.emod_lt_of_pos m hd
  have h3 := Int.mul_ediv_add_emod m d
  have key : ∀ q r : Int, 0 ≤ r → r < d → -m = d * q + r → (-m) / d = q := fun q r a b e => by
    rw [e, Int.add_comm, Int.add_mul_ediv_left _ _ (Int.ne_of_gt hd), Int.ediv_eq_zero_of_lt a b]; omega
  split
  · rw [key (-(m / d) - 1) (d - m % d) (by omega) (by omega) (by rw [Int.mul_sub, Int.mul_neg, Int.mul_one]; omega)]; omega
  · rw [key (-(m / d)) 0 (by omega) hd (by rw [Int.mul_neg]; omega)]; omega
theorem up_bd {m d : Int} (hm : 0 < m) (hd : 0 < d) : 0 < upZ m d ∧ upZ m d ≤ m := by
  have h3 := Int.mul_ediv_add_emod m d
  have h1 := Int.emod_nonneg m (Int.ne_of_gt hd)
  have h2 := Int.emod_lt_of_pos m hd
  have h4 := Int.ediv_nonneg (Int.le_of_lt hm) (Int.le_of_lt hd)
  have h5 : m / d ≤ d * (m / d) := by
    have := Int.mul_le_mul_of_nonneg_right (show (1 : Int) ≤ d by omega) h4
    rwa [Int.one_mul] at this
  rw [up_cases hm hd]
  split
  · omega
  · refine ⟨?_, by omega⟩
    rcases Int.lt_or_eq_of_le h4 with h | h
    · exact h
    · exfalso
      rw [← h, Int.mul_zero] at h3
      omega
theorem r_up02 {z d : Int} (hz : 0 < z) (hs : I64 z) (hd : 0 < d) (hd2 : d < 9223372036854775808) : ref02_Up (big z) d = some (big (upZ z d)) := by
  show ref02_UpW stdW (big z) d = _
  unfold ref02_UpW
  have hss := i64_sml hs
  have h4 := Int.ediv_nonneg (Int.le_of_lt hz) (Int.le_of_lt hd)
  have hb := up_bd hz hd
  rw [call_eq (r_divB (Int.le_of_lt hz) hss hd hd2), up_cases hz hd]
  rw [up_cases hz hd] at hb
  show stdW.cnd (decide (0 < z % d)) (stdW.call (ref01_Nat 1) fun v2 => stdW.call (ref01_Add (big (z / d)) v2) _) (some (big (z / d))) = _
  by_cases h : 0 < z % d
  · rw [if_pos h] at hb ⊢
    have e : ref01_Nat 1 = some (big 1) := by
      have := r_nat 1 (by decide)
      rw [bigS_f] at this; exact this
    rw [cnd_y (decide_eq_true h), call_eq e, call_eq (r_addB (by unfold I64 at hs; unfold sml; omega) (by unfold sml; omega))]
  · rw [if_neg h, cnd_n (decide_eq_false h)]
theorem r_sell12 {a : AAsset'} {m : Int} (ha : okA1 a) (hp : 0 < priceOf a) (hm : 0 < m) (hI : I64 m) : ref12_Sell a m = some (big (upZ m (priceOf a))) := by
  show ref12_SellW stdW a m = _
  unfold ref12_SellW
  have hp2 := ha.2.1.2
  have e : IntKind.u64.wrap a.2.1 = priceOf a := u64_id _ (by unfold priceOf at hp; omega)
  rw [call_eq (r_of hI)]
  show stdW.call (ref02_Up (big m) (IntKind.u64.wrap a.2.1)) _ = _
  rw [e, call_eq (r_up02 hm hI hp (by unfold priceOf; omega))]
/-! the code's division, of a number of 64 bits from 0 on -/
theorem r_div64 {lo y : Int} (h0 : 0 ≤ lo) (h1 : lo < 18446744073709551616) (hy : 0 < y) (hy2 : y < 18446744073709551616) : math_bits_Div64 0 lo y = some (lo / y, (lo % y, ())) := by
  show math_bits_Div64W stdW 0 lo y = _
  unfold math_bits_Div64W
  have hq := Int.ediv_nonneg h0 (Int.le_of_lt hy)
  have hq2 : lo / y ≤ lo := Int.ediv_le_self _ h0
  rw [cnd_n (by simp; omega), cnd_n (decide_eq_false (by omega)), cnd_y (by rfl), nz_w (by omega), nz_w (by omega), Int.tdiv_eq_ediv_of_nonneg h0, Int.tmod_eq_emod_of_nonneg h0, u64_id _ (by omega)]
theorem r_wDiv {m d : Int} (hm : 0 ≤ m) (hI : I64 m) (hd : 0 < d) (hd2 : I64 d) : wide_Div (wide m) d = some (wide (m / d), (m % d, (0, ()))) := by
  show wide_DivW stdW (wide m) d = _
  unfold wide_DivW
  unfold I64 at hI hd2
  have h1 := Int.emod_nonneg m (Int.ne_of_gt hd)
  have h2 := Int.emod_lt_of_pos m hd
  have hq := Int.ediv_nonneg hm (Int.le_of_lt hd)
  have hq2 : m / d ≤ m := Int.ediv_le_self _ hm
  have e0 : IntKind.u64.wrap d = d := u64_id _ (by omega)
  have esz : wide_Wide_size (wide m) = some (szOf m) := by
    have := r_size (wide m) (wide_ok m (by unfold In128; omega))
    rw [wv_wide] at this
    rw [this]; unfold absI; rw [if_neg (by omega)]
  have e1 : szOf m = (0, (m, ())) := by
    unfold szOf
    rw [Int.ediv_eq_zero_of_lt hm (by omega), Int.emod_eq_of_lt hm (by omega)]
  have ebel : wide_Wide_below (wide m) = some false := by
    rw [r_below]
    have : (wide m).1 = 0 := by unfold wide; exact Int.ediv_eq_zero_of_lt hm (by omega)
    rw [this]; rfl
  have esg : wide_size_signed (0, (m / d, ())) false = some (wide (m / d), (true, ())) := by
    have hr := r_signed (m / d) false ⟨hq, by omega⟩
    have hi : In128 (m / d) := by unfold In128; omega
    have es : szOf (m / d) = (0, (m / d, ())) := by
      unfold szOf
      rw [Int.ediv_eq_zero_of_lt hq (by omega), Int.emod_eq_of_lt hq (by omega)]
    rw [es] at hr
    rw [hr]
    show some (w128 (m / d), (decide (In128 (m / d)), ())) = _
    rw [w128_in _ hi, decide_eq_true hi]
  rw [cnd_n (by simp; omega), cnd_n (decide_eq_false (by omega)), e0, call_eq esz, e1, nz_w (by omega), nz_w (by omega)]
  show stdW.call (math_bits_Div64 (Int.tmod 0 d) m d) _ = _
  rw [Int.zero_tmod, call_eq (r_div64 hm (by omega) hd (by omega))]
  refine join_g fun k hk => ?_
  have kk : k (m % d, (IntKind.u64.wrap (Int.tdiv 0 d), (m / d, ()))) = some (wide (m / d), (m % d, (0, ()))) := by
    subst hk
    rw [Int.zero_tdiv, show IntKind.u64.wrap 0 = 0 by decide]
    have e5 : IntKind.i64.wrap (m % d) = m % d := IntWalk.i64_in _ (by omega)
    have inner : stdW.call (wide_Wide_below (wide m)) (fun v7 => stdW.call (wide_size_signed (0, (m / d, ())) v7) fun v8 => some (v8.1, (IntKind.i64.wrap (m % d), ((0 : Int), ())))) = some (wide (m / d), (m % d, (0, ()))) := by
      rw [call_eq ebel, call_eq esg, e5]
    refine both_of ?_ inner
    rw [call_eq ebel]
    exact both_of (by rw [call_eq esg, e5]) (by rw [call_eq esg, e5])
  clear hk
  refine join_g fun k2 hk2 => ?_
  have kf : k2 (false, ()) = some (wide (m / d), (m % d, (0, ()))) := by
    subst hk2
    show stdW.cnd false _ (k (m % d, (IntKind.u64.wrap (Int.tdiv 0 d), (m / d, ())))) = _
    rw [cnd_n (by rfl)]; exact kk
  clear hk2
  show stdW.call (wide_Wide_below (wide m)) _ = _
  rw [call_eq ebel, cnd_n (by rfl), kf]
theorem r_asSell {a : AAsset'} {m : Int} (ha : okA1 a) (hp : 0 < priceOf a) (hm : 0 < m) (hI : I64 m) : asset_Sell a m = some (upZ m (priceOf a), (0, ())) := by
  show asset_SellW stdW a m = _
  unfold asset_SellW
  have hp2 := ha.price
  have hb := up_bd hm hp
  have huI : I64 (upZ m (priceOf a)) := by unfold I64 at hI ⊢; omega
  rw [call_eq (r_asCheck ha), cnd_n (by rfl), cnd_n (decide_eq_false (by omega))]
  have eUp : fix_Up m 1 (priceOf a) = some (upZ m (priceOf a), (0, ())) := by
    show fix_UpW stdW m 1 (priceOf a) = _
    unfold fix_UpW
    have hw := r_wMul hI (show I64 1 by unfold I64; omega)
    rw [Int.mul_one] at hw
    rw [call_eq hw, call_eq (r_wDiv (Int.le_of_lt hm) hI hp hp2)]
    refine join_g fun k hk => ?_
    have kk : ∀ z, I64 z → k (0, wide z) = some (z, (0, ())) := by
      intro z hz
      subst hk
      show stdW.call (fix_narrow (wide z) 0) _ = _
      rw [call_eq (r_narrow0 (i64_128 hz)), fits64_pos hz]
    clear hk
    refine join_g fun k2 hk2 => ?_
    have hc := up_cases hm hp
    have hq := Int.ediv_nonneg (Int.le_of_lt hm) (Int.le_of_lt hp)
    have hq2 : m / priceOf a ≤ m := Int.ediv_le_self _ (Int.le_of_lt hm)
    have kf : ∀ b, b = decide (0 < m % priceOf a) → k2 (b, ()) = some (upZ m (priceOf a), (0, ())) := by
      rintro _ rfl
      subst hk2
      by_cases h : 0 < m % priceOf a
      · rw [if_pos h] at hc
        rw [decide_eq_true h]
        have inner : stdW.call (wide_Of 1) (fun v9 => stdW.call (wide_Add (wide (m / priceOf a) :: (v9 :: []))) fun v10 => k (v10.2.1, v10.1)) = some (upZ m (priceOf a), (0, ())) := by
          rw [call_eq (r_wOf 1 (by unfold I64; omega))]
          have hadd := r_wAdd [wide (m / priceOf a), wide 1] (by
            intro w hw
            simp only [List.mem_cons, List.not_mem_nil, or_false] at hw
            rcases hw with rfl | rfl
            · exact wide_ok _ (by unfold I64 at hI; unfold In128; omega)
            · exact wide_ok _ (by unfold In128; omega)) (by simp)
          have es : sumW [wide (m / priceOf a), wide 1] = m / priceOf a + 1 := by
            unfold sumW; simp [wv_wide]
          have ef : fit (m / priceOf a + 1) = (wide (m / priceOf a + 1), 0, ()) := if_pos (by unfold I64 at hI; unfold In128; omega)
          rw [es, ef] at hadd
          rw [call_eq hadd]
          rw [← hc]
          exact kk _ huI
        show stdW.cnd true _ _ = _
        rw [cnd_y (by rfl)]
        exact both_of inner inner
      · rw [if_neg h] at hc
        rw [decide_eq_false h]
        show stdW.cnd false _ (k (0, wide (m / priceOf a))) = _
        rw [cnd_n (by rfl), ← hc]
        exact kk _ huI
    clear hk2
    show stdW.cnd true (k2 (decide (0 < m % priceOf a), ())) (k2 (false, ())) = _
    rw [cnd_y (by rfl)]
    exact kf _ rfl
  show stdW.call (fix_Up m 1 (priceOf a)) _ = _
  rw [call_eq eUp]
end Go.Proofs.YtllkmncnmlmefaaGreat

namespace Go.Proofs.YtllkmncnmlmefaaGreat
open Go Go.Vc Go.RowKit Lot
/-! ### lots: the code and the document -/
theorem both_of2 {β : Type} [EqB β] {a b c r : Option β} (ha : a = c) (hb : b = c) (hc : c = r) : stdW.both a b = r := both_of (ha.trans hc) (hb.trans hc)
theorem order_cases (a b : ALot') : (orI [cmpI a.1 b.1, cmpI a.2.1 b.2.1] < 0 ↔ ltL a b) ∧ (orI [cmpI a.1 b.1, cmpI a.2.1 b.2.1] = 0 ↔ sameL a b) := by
  unfold ltL sameL
  simp only [orI, cmpI]
  by_cases h1 : a.1 < b.1
  · simp [h1]; omega
  · by_cases h2 : b.1 < a.1
    · have h3 : ¬ a.1 = b.1 := by omega
      simp [h1, h2, h3]
    · have h3 : a.1 = b.1 := by omega
      by_cases h4 : a.2.1 < b.2.1
      · simp [h3, h4]; omega
      · by_cases h5 : b.2.1 < a.2.1
        · have h6 : ¬ a.2.1 = b.2.1 := by omega
          simp [h3, h4, h5, h6]
        · have h6 : a.2.1 = b.2.1 := by omega
          simp [h3, h6]
theorem shr1 (i j : Nat) (h : i + j < 9223372036854775807) : IntKind.i64.wrap (Int.fdiv (IntKind.u64.wrap (IntKind.i64.wrap ((i : Int) + (j : Int)))) (2 ^ (Min.min (Int.toNat 1) (Go.IntKind.bits Go.IntKind.u64)))) = (((i + j) / 2 : Nat) : Int) := by
  rw [show IntKind.i64.wrap ((i : Int) + (j : Int)) = ((i + j : Nat) : Int) by rw [IntKind.wrap_i64]; omega, u64_id _ (by omega)]
  rw [show (2 : Int) ^ (Min.min (Int.toNat 1) (Go.IntKind.bits Go.IntKind.u64)) = 2 by decide, Int.fdiv_eq_ediv_of_nonneg _ (by decide)]
  rw [IntWalk.i64_in _ (by omega)]; omega
theorem low_le (x : ALot') (l : List ALot') : (lowL x l).length ≤ l.length := List.length_filter_le _ _
def thereL (x : ALot') (l : List ALot') : Bool := !(midK x l).isEmpty
theorem r_bs {l : List ALot'} {x : ALot'} (hs : SrtL l) (hl : l.length ≤ 1000) : slices_BinarySearchFuncapi_Lot_api_Lot_api_Lot_lots_order l x = some (((((lowL x l).length : Nat) : Int), (thereL x l, ())), ()) := by
  show slices_BinarySearchFuncapi_Lot_api_Lot_api_Lot_lots_orderW stdW l x = _
  unfold slices_BinarySearchFuncapi_Lot_api_Lot_api_Lot_lots_orderW
  have hle := low_le x l
  refine loop_std (fun z => (z.2.1 - z.1).toNat) (fun z => ∃ i j : Nat, z = ((i : Int), ((j : Int), ())) ∧ i ≤ (lowL x l).length ∧ (lowL x l).length ≤ j ∧ j ≤ l.length) (fun _ => some (((((lowL x l).length : Nat) : Int), (thereL x l, ())), ())) ⟨0, l.length, rfl, Nat.zero_le _, hle, Nat.le_refl _⟩ (by show ((l.length : Int) - 0).toNat < _; omega) ?_
  rintro _ ⟨i, j, rfl, h1, h2, h3⟩ again ha
  show stdW.cnd (decide ((i : Int) < (j : Int))) (stdW.nn 1 (stdW.idx l (IntKind.i64.wrap (Int.fdiv (IntKind.u64.wrap (IntKind.i64.wrap ((i : Int) + (j : Int)))) (2 ^ (Min.min (Int.toNat 1) (Go.IntKind.bits Go.IntKind.u64))))) fun x3 => stdW.call (lots_order x3 x) fun v4 =>
      stdW.cnd (decide (v4 < 0)) (again (IntKind.i64.wrap (IntKind.i64.wrap (Int.fdiv (IntKind.u64.wrap (IntKind.i64.wrap ((i : Int) + (j : Int)))) (2 ^ (Min.min (Int.toNat 1) (Go.IntKind.bits Go.IntKind.u64)))) + 1), ((j : Int), ())))
       (again ((i : Int), (IntKind.i64.wrap (Int.fdiv (IntKind.u64.wrap (IntKind.i64.wrap ((i : Int) + (j : Int)))) (2 ^ (Min.min (Int.toNat 1) (Go.IntKind.bits Go.IntKind.u64)))), ())))))
     (stdW.cnd (decide ((i : Int) < (l.length : Int))) (stdW.idx l (i : Int) fun x5 => stdW.call (lots_order x5 x) fun v6 => some (((i : Int), ((v6 == 0), ())), ())) (some (((i : Int), (false, ())), ()))) = _
  rw [shr1 i j (by omega)]
  by_cases hij : i < j
  · have hh : (i + j) / 2 < l.length := by omega
    rw [cnd_y (decide_eq_true (by omega)), nn_w (by decide), idx_w hh, call_eq (r_lorder1 _ _)]
    obtain ⟨o1, _⟩ := order_cases l[(i + j) / 2] x
    have hla := low_at hs x hh
    by_cases hlt : ltL l[(i + j) / 2] x
    · rw [cnd_y (decide_eq_true (o1.2 hlt)), i64_s _ (by omega)]
      have := hla.1 hlt
      exact ha _ ⟨(i + j) / 2 + 1, j, rfl, by omega, h2, h3⟩ (by show ((j : Int) - (((i + j) / 2 + 1 : Nat) : Int)).toNat < ((j : Int) - (i : Int)).toNat; omega)
    · rw [cnd_n (decide_eq_false fun h => hlt (o1.1 h))]
      have : ¬ (i + j) / 2 < (lowL x l).length := fun h => hlt (hla.2 h)
      exact ha _ ⟨i, (i + j) / 2, rfl, h1, by omega, by omega⟩ (by show ((((i + j) / 2 : Nat) : Int) - (i : Int)).toNat < ((j : Int) - (i : Int)).toNat; omega)
  · have hi : i = (lowL x l).length := by omega
    subst hi
    rw [cnd_n (decide_eq_false (by omega))]
    rcases mid_at hs x with ⟨hi, hsm, hm⟩ | ⟨hm, hn⟩
    · have ht : thereL x l = true := by unfold thereL; rw [hm]; rfl
      rw [cnd_y (decide_eq_true (by omega)), idx_w hi, call_eq (r_lorder1 _ _), ht]
      obtain ⟨_, o2⟩ := order_cases l[(lowL x l).length] x
      rw [o2.2 hsm]; rfl
    · have ht : thereL x l = false := by unfold thereL; rw [hm]; rfl
      rw [ht]
      by_cases hi : (lowL x l).length < l.length
      · rw [cnd_y (decide_eq_true (by omega)), idx_w hi, call_eq (r_lorder1 _ _)]
        obtain ⟨_, o2⟩ := order_cases l[(lowL x l).length] x
        have : (orI [cmpI l[(lowL x l).length].1 x.1, cmpI l[(lowL x l).length].2.1 x.2.1] == 0) = false := by
          rw [beq_eq_false_iff_ne]; exact fun h => hn hi (o2.1 h)
        rw [this]
      · rw [cnd_n (decide_eq_false (by omega))]
theorem r_checked {l : List ALot'} {x : ALot'} (hl : l.length ≤ 1000) : lots_checked l x = some (if isL l = true then if rightL x then 0 else 2 else 3) := by
  show lots_checkedW stdW l x = _
  unfold lots_checkedW
  rw [call_eq (r_lis1 (by omega))]
  by_cases h : isL l = true
  · rw [h, cnd_n (by rfl), if_pos rfl, call_eq (r_lright1 x)]
    by_cases h2 : rightL x
    · rw [decide_eq_true h2, cnd_n (by rfl), if_pos h2]
    · rw [decide_eq_false h2, cnd_y (by rfl), if_neg h2]
  · have h : isL l = false := by simpa using h
    rw [h, cnd_y (by rfl)]; rfl
theorem isL_inv {l : List ALot'} (h : isL l = true) : LInv l := of_decide_eq_true h
theorem there_cases {l : List ALot'} (h : LInv l) (x : ALot') : (thereL x l = true ∧ ∃ hi : (lowL x l).length < l.length, sameL l[(lowL x l).length] x ∧ getL l x.1 x.2.1 = l[(lowL x l).length].2.2.1 ∧ 0 < l[(lowL x l).length].2.2.1) ∨ (thereL x l = false ∧ midK x l = [] ∧ getL l x.1 x.2.1 = 0) := by
  rcases mid_at h.2.1 x with ⟨hi, hsm, hm⟩ | ⟨hm, _⟩
  · exact .inl ⟨by unfold thereL; rw [hm]; rfl, hi, hsm, getL_some hm, (h.1 _ (List.getElem_mem hi)).2.2⟩
  · exact .inr ⟨by unfold thereL; rw [hm]; rfl, hm, getL_none hm⟩
theorem lotins_eq {l : List ALot'} {i : Nat} {x : ALot'} (h : i ≤ l.length) (hl : l.length ≤ 1000) : lotinsert l (i : Int) (x :: []) = some (l.take i ++ x :: l.drop i, ()) := by
  show insO 24 l (i : Int) [x] = _
  unfold insO
  rw [show (decide (0 ≤ (i : Int)) && decide ((i : Int) ≤ (l.length : Int)) && Nat.ble ((l.length + 1) * 24) 140737488355328) = true by
    rw [Bool.and_eq_true, Bool.and_eq_true, decide_eq_true_eq, decide_eq_true_eq]
    exact ⟨⟨by omega, by omega⟩, Nat.ble_eq_true_of_le (by omega)⟩]
  rfl
theorem lotdel_eq {l : List ALot'} {i : Nat} (h : i < l.length) : lotdelete l (i : Int) ((i + 1 : Nat) : Int) = some (l.take i ++ l.drop (i + 1), ()) := by
  show delO l (i : Int) ((i + 1 : Nat) : Int) = _
  unfold delO
  rw [show (decide (0 ≤ (i : Int)) && decide ((i : Int) < ((i + 1 : Nat) : Int)) && decide (((i + 1 : Nat) : Int) ≤ (l.length : Int))) = true by
    rw [Bool.and_eq_true, Bool.and_eq_true, decide_eq_true_eq, decide_eq_true_eq, decide_eq_true_eq]
    exact ⟨⟨by omega, by omega⟩, by omega⟩]
  rfl
theorem r_lPut {l : List ALot'} {x : ALot'} (hl : okT l) (hx : I64 x.2.2.1) : lots_Put l x = some (putL l x) := by
  show lots_PutW stdW l x = _
  unfold lots_PutW putL
  have h20 := hl.1
  rw [call_eq (r_checked (by omega))]
  by_cases h1 : isL l = true
  · rw [if_pos h1, if_pos h1]
    by_cases h2 : rightL x
    · rw [if_pos h2, if_pos h2, cnd_n (by rfl)]
      have hinv := isL_inv h1
      have h16 := hinv.2.2
      rw [call_eq (r_bs hinv.2.1 (by omega))]
      have hq : 0 < x.2.2.1 := h2.2.2
      rcases there_cases hinv x with ⟨ht, hi, hsm, hg, hpos⟩ | ⟨ht, hm, hg⟩
      · rw [ht, hg]
        show stdW.cnd false _ (stdW.idx l (((lowL x l).length : Nat) : Int) fun x7 => stdW.call (fix_Sum (x7.2.2.1 :: (x.2.2.1 :: []))) _) = _
        rw [cnd_n (by rfl), idx_w hi]
        have hy : I64 l[(lowL x l).length].2.2.1 := hl.2 _ (List.getElem_mem hi)
        have hsum := r_fSum (l := [l[(lowL x l).length].2.2.1, x.2.2.1]) (by intro z hz; simp at hz; rcases hz with rfl | rfl <;> assumption) (by simp)
        have es : [l[(lowL x l).length].2.2.1, x.2.2.1].sum = l[(lowL x l).length].2.2.1 + x.2.2.1 := by simp
        rw [es] at hsum
        rw [call_eq hsum]
        by_cases hI : I64 (l[(lowL x l).length].2.2.1 + x.2.2.1)
        · rw [fits64_pos hI, if_pos hI, if_neg (by rintro ⟨h, _⟩; omega)]
          show stdW.cnd false _ (stdW.call (slices_Cloneapi_Lot_api_Lot l) _) = _
          rw [cnd_n (by rfl), call_eq (r_cloneT (by omega)), idx_w hi]
          show stdW.nth l (Int.toNat (((lowL x l).length : Nat) : Int)) _ = _
          rw [nth_w hi, Int.toNat_natCast, hsm.1, hsm.2]
          show some (l.set (lowL x l).length (x.1, (x.2.1, (l[(lowL x l).length].2.2.1 + x.2.2.1, ()))), (0, ())) = _
          rw [set_there hinv.2.1 hi hsm _ (by omega)]
        · rw [fits64_neg hI, if_neg hI]
          show stdW.cnd true _ _ = _
          rw [cnd_y (by rfl)]
      · rw [ht, hg]
        have hI : I64 (0 + x.2.2.1) := by rw [Int.zero_add]; exact hx
        rw [if_pos hI]
        show stdW.cnd true (stdW.cnd (decide (16 ≤ (l.length : Int))) _ _) _ = _
        rw [cnd_y (by rfl)]
        by_cases h3 : l.length = 16
        · rw [cnd_y (decide_eq_true (by omega)), if_pos ⟨rfl, h3⟩]
        · rw [cnd_n (decide_eq_false (by omega)), if_neg (by rintro ⟨_, h⟩; exact h3 h)]
          have ex : ((x.1, (x.2.1, (0 + x.2.2.1, ()))) : ALot') = x := by rw [Int.zero_add]
          have eset : setL l x = lowL x l ++ (x :: highL x l) := by unfold setL; rw [if_neg (by omega)]; rfl
          rw [ex, eset, ← ins_there hinv.2.1 hm]
          refine both_of ?_ ?_ <;>
          · rw [call_eq (r_cloneT (by omega))]
            show stdW.call (lotinsert l (((lowL x l).length : Nat) : Int) (x :: [])) _ = _
            rw [call_eq (lotins_eq (low_le x l) (by omega))]
    · rw [if_neg h2, if_neg h2]
      show stdW.cnd true _ _ = _
      rw [cnd_y (by rfl)]
  · rw [if_neg h1, if_neg h1]
    show stdW.cnd true _ _ = _
    rw [cnd_y (by rfl)]
theorem r_lTake {l : List ALot'} {x : ALot'} (hl : okT l) (hx : I64 x.2.2.1) : lots_Take l x = some (takeL l x) := by
  show lots_TakeW stdW l x = _
  unfold lots_TakeW takeL
  have h20 := hl.1
  rw [call_eq (r_checked (by omega))]
  by_cases h1 : isL l = true
  · rw [if_pos h1, if_pos h1]
    by_cases h2 : rightL x
    · rw [if_pos h2, if_pos h2, cnd_n (by rfl)]
      have hinv := isL_inv h1
      have h16 := hinv.2.2
      rw [call_eq (r_bs hinv.2.1 (by omega))]
      have hq : 0 < x.2.2.1 := h2.2.2
      refine join_g fun k hk => ?_
      have kt : k (true, ()) = some ([], (23, ())) := by subst hk; rfl
      rcases there_cases hinv x with ⟨ht, hi, hsm, hg, hpos⟩ | ⟨ht, hm, hg⟩
      · rw [ht, hg]
        show stdW.cnd false _ (stdW.idx l (((lowL x l).length : Nat) : Int) fun x15 => k (decide (x15.2.2.1 < x.2.2.1), ())) = _
        rw [cnd_n (by rfl), idx_w hi]
        have hy : I64 l[(lowL x l).length].2.2.1 := hl.2 _ (List.getElem_mem hi)
        by_cases hlt : l[(lowL x l).length].2.2.1 < x.2.2.1
        · rw [decide_eq_true hlt, if_pos hlt, kt]
        · rw [decide_eq_false hlt, if_neg hlt]
          subst hk
          show stdW.cnd false _ (stdW.call (slices_Cloneapi_Lot_api_Lot l) _) = _
          rw [cnd_n (by rfl), call_eq (r_cloneT (by omega)), idx_w hi]
          show stdW.nth l (Int.toNat (((lowL x l).length : Nat) : Int)) _ = _
          rw [nth_w hi, idx_w hi]
          show stdW.nth l (Int.toNat (((lowL x l).length : Nat) : Int)) _ = _
          rw [nth_w hi, Int.toNat_natCast, hsm.1, hsm.2]
          have ew : IntKind.i64.wrap (l[(lowL x l).length].2.2.1 - x.2.2.1) = l[(lowL x l).length].2.2.1 - x.2.2.1 := IntWalk.i64_in _ (by unfold I64 at hy hx; omega)
          rw [ew]
          have hlen : (l.set (lowL x l).length (x.1, (x.2.1, (l[(lowL x l).length].2.2.1 - x.2.2.1, ())))).length = l.length := List.length_set
          have hi2 : (lowL x l).length < (l.set (lowL x l).length (x.1, (x.2.1, (l[(lowL x l).length].2.2.1 - x.2.2.1, ())))).length := by rw [hlen]; exact hi
          refine join_g fun k2 hk2 => ?_
          have kk : ∀ z : List ALot', k2 (z, ()) = some (z, (0, ())) := by intro z; subst hk2; rfl
          clear hk2
          show stdW.idx (l.set (lowL x l).length (x.1, (x.2.1, (l[(lowL x l).length].2.2.1 - x.2.2.1, ())))) (((lowL x l).length : Nat) : Int) (fun _ => stdW.nth (l.set (lowL x l).length (x.1, (x.2.1, (l[(lowL x l).length].2.2.1 - x.2.2.1, ())))) (lowL x l).length fun x12 =>
            stdW.cnd (x12.2.2.1 == 0) (stdW.call (lotdelete (l.set (lowL x l).length (x.1, (x.2.1, (l[(lowL x l).length].2.2.1 - x.2.2.1, ())))) (((lowL x l).length : Nat) : Int) (IntKind.i64.wrap ((((lowL x l).length : Nat) : Int) + 1))) fun v13 => k2 v13)
             (k2 (l.set (lowL x l).length (x.1, (x.2.1, (l[(lowL x l).length].2.2.1 - x.2.2.1, ()))), ()))) = _
          have hnth := nth_w (β := List ALot' × Int × Unit) hi2
          rw [Int.toNat_natCast] at hnth
          rw [idx_w hi2, hnth, List.getElem_set_self, i64_s _ (by omega)]
          by_cases h0 : l[(lowL x l).length].2.2.1 - x.2.2.1 = 0
          · rw [cnd_y (by simp [h0]), call_eq (lotdel_eq hi2), kk]
            have e1 : (l.set (lowL x l).length (x.1, (x.2.1, (l[(lowL x l).length].2.2.1 - x.2.2.1, ())))).take (lowL x l).length = l.take (lowL x l).length := by rw [List.take_set_of_le (Nat.le_refl _)]
            have e2 : (l.set (lowL x l).length (x.1, (x.2.1, (l[(lowL x l).length].2.2.1 - x.2.2.1, ())))).drop ((lowL x l).length + 1) = l.drop ((lowL x l).length + 1) := by rw [List.drop_set_of_lt (by omega)]
            rw [e1, e2, del_there hinv.2.1 hi hsm]
            unfold setL
            rw [if_pos h0]; rfl
          · rw [cnd_n (by simp [h0]), kk, set_there hinv.2.1 hi hsm _ h0]
      · rw [ht, hg, if_pos hq]
        show stdW.cnd true (k (true, ())) _ = _
        rw [cnd_y (by rfl), kt]
    · rw [if_neg h2, if_neg h2]
      show stdW.cnd true _ _ = _
      rw [cnd_y (by rfl)]
  · rw [if_neg h1, if_neg h1]
    show stdW.cnd true _ _ = _
    rw [cnd_y (by rfl)]
end Go.Proofs.YtllkmncnmlmefaaGreat

namespace Go.Proofs.YtllkmncnmlmefaaGreat
open Go Go.Vc Go.RowKit
/-! ### holds: the code -/
theorem turned_ok {l : List AHold'} {u : AUnit'} {now : List ALot'} {e : Int} (h : okHs l) (hn : now.length ≤ 1000) : hold_turned l u now e = some (if isH l = true then if e = 0 then (setH l u now, 0, ()) else ([], e, ()) else ([], 3, ())) := by
  show hold_turnedW stdW l u now e = _
  unfold hold_turnedW
  rw [call_eq (r_his1 h)]
  by_cases hp : isH l = true
  · rw [hp, cnd_n (by rfl), if_pos rfl]
    by_cases he : e = 0
    · rw [if_pos he, cnd_n (by simp [he]), call_eq (r_hsetG h (of_decide_eq_true hp).2 hn)]
    · rw [if_neg he, cnd_y (by simp [he])]
  · have hp : isH l = false := by simpa using hp
    rw [hp, cnd_y (by rfl), if_neg (by simp)]
theorem setL_len {l : List ALot'} (h : SrtL l) (x : ALot') : (setL l x).length ≤ l.length + 1 := by
  have hc := congrArg List.length (cutL x h)
  unfold setL
  rw [List.length_append, List.length_append] at hc
  rw [List.length_append, List.length_append]
  split <;> simp <;> omega
theorem setL_mem {l : List ALot'} {x p : ALot'} (h : p ∈ setL l x) : p ∈ l ∨ p = x := by
  unfold setL at h
  rcases List.mem_append.1 h with h | h
  · exact .inl (List.mem_filter.1 h).1
  · rcases List.mem_append.1 h with h | h
    · split at h
      · cases h
      · exact .inr (by simpa using h)
    · exact .inl (List.mem_filter.1 h).1
theorem getL_64 {l : List ALot'} (h : ∀ x ∈ l, I64 x.2.2.1) (a t : Int) : I64 (getL l a t) := by
  induction l with
  | nil => unfold getL I64; omega
  | cons x l ih =>
    rw [getL]
    split
    · exact h x (by simp)
    · exact ih fun y hy => h y (by simp [hy])
theorem setL_okT {l : List ALot'} (hi : LInv l) (hl : okT l) {x : ALot'} (hx : I64 x.2.2.1) : okT (setL l x) :=
  ⟨by have := setL_len hi.2.1 x; have := hi.2.2; omega, fun p hp => (setL_mem hp).elim (hl.2 p) fun e => e ▸ hx⟩
theorem putL_ok {l : List ALot'} (hl : okT l) {x : ALot'} : okT (putL l x).1 := by
  unfold putL
  by_cases h1 : isL l = true
  · rw [if_pos h1]
    split
    · split
      · rename_i hI
        split
        · exact okT_nil
        · exact setL_okT (isL_inv h1) hl hI
      · exact okT_nil
    · exact okT_nil
  · rw [if_neg h1]; exact okT_nil
theorem takeL_ok {l : List ALot'} (hl : okT l) {x : ALot'} : okT (takeL l x).1 := by
  unfold takeL
  by_cases h1 : isL l = true
  · rw [if_pos h1]
    by_cases h2 : rightL x
    · rw [if_pos h2]
      by_cases h3 : getL l x.1 x.2.1 < x.2.2.1
      · rw [if_pos h3]; exact okT_nil
      · rw [if_neg h3]
        refine setL_okT (isL_inv h1) hl ?_
        have a1 := getL_64 hl.2 x.1 x.2.1
        have a3 := h2.2.2
        unfold I64 at *
        show _ ≤ getL l x.1 x.2.1 - x.2.2.1 ∧ getL l x.1 x.2.1 - x.2.2.1 ≤ _
        omega
    · rw [if_neg h2]; exact okT_nil
  · rw [if_neg h1]; exact okT_nil
theorem okT_len {l : List ALot'} (h : okT l) : l.length ≤ 1000 := by have := h.1; omega
theorem r_hTake {l : List AHold'} {u : AUnit'} {x : ALot'} (h : okHs l) (hx : I64 x.2.2.1) : hold_Take l u x = some (takeH l u x) := by
  show hold_TakeW stdW l u x = _
  unfold hold_TakeW takeH
  have hl := lotsH_ok h.1 u
  rw [call_eq (r_hlots h), call_eq (r_lTake hl hx), call_eq (turned_ok h (okT_len (takeL_ok hl)))]
theorem r_hPut {l : List AHold'} {u : AUnit'} {x : ALot'} (h : okHs l) (hx : I64 x.2.2.1) : hold_Put l u x = some (putH l u x) := by
  show hold_PutW stdW l u x = _
  unfold hold_PutW putH
  have hl := lotsH_ok h.1 u
  rw [call_eq (r_hlots h), call_eq (r_lPut hl hx), call_eq (turned_ok h (okT_len (putL_ok hl)))]
theorem okHs_nil : okHs [] := ⟨fun _ h => (by cases h), by simp⟩
theorem takeH_ok {l : List AHold'} (h : okHs l) (hl : l.length ≤ 390000) (u : AUnit') (x : ALot') : okHs (takeH l u x).1 ∧ (takeH l u x).1.length ≤ l.length + 1 := by
  unfold takeH
  by_cases h1 : isH l = true
  · have hs := (of_decide_eq_true h1 : HInv l).2
    rw [if_pos h1]
    split
    · exact ⟨okHs_set h hl hs u (takeL_ok (lotsH_ok h.1 u)), setH_len hs u _⟩
    · exact ⟨okHs_nil, by simp⟩
  · rw [if_neg h1]; exact ⟨okHs_nil, by simp⟩
theorem putH_ok {l : List AHold'} (h : okHs l) (hl : l.length ≤ 390000) (u : AUnit') (x : ALot') : okHs (putH l u x).1 ∧ (putH l u x).1.length ≤ l.length + 1 := by
  unfold putH
  by_cases h1 : isH l = true
  · have hs := (of_decide_eq_true h1 : HInv l).2
    rw [if_pos h1]
    split
    · exact ⟨okHs_set h hl hs u (putL_ok (lotsH_ok h.1 u)), setH_len hs u _⟩
    · exact ⟨okHs_nil, by simp⟩
  · rw [if_neg h1]; exact ⟨okHs_nil, by simp⟩
theorem passH_ok {l : List AHold'} (h : okHs l) (hl : l.length ≤ 380000) (f t : AUnit') (x : ALot') (tag : Int) : okHs (passH l f t x tag).1 ∧ (passH l f t x tag).1.length ≤ l.length + 2 := by
  unfold passH
  obtain ⟨h1, h2⟩ := takeH_ok h (by omega) f x
  split
  · split
    · exact ⟨okHs_nil, by simp⟩
    · split
      · obtain ⟨h3, h4⟩ := putH_ok h1 (by omega) t (x.1, (tag, (x.2.2.1, ())))
        exact ⟨h3, by omega⟩
      · exact ⟨okHs_nil, by simp⟩
  · exact ⟨okHs_nil, by simp⟩
theorem r_hPass {l : List AHold'} {f t : AUnit'} {x : ALot'} {tag : Int} (h : okHs l) (hl : l.length ≤ 380000) (hx : I64 x.2.2.1) : hold_Pass l f t x tag = some (passH l f t x tag) := by
  show hold_PassW stdW l f t x tag = _
  unfold hold_PassW passH
  rw [call_eq (r_his1 h)]
  by_cases hp : isH l = true
  · rw [hp, cnd_n (by rfl), if_pos rfl, unitEq]
    by_cases hu : f = t
    · rw [if_pos hu, cnd_y (by simp [hu])]
    · rw [if_neg hu, cnd_n (by simp [hu]), call_eq (r_hTake h hx)]
      by_cases he : (takeH l f x).2.1 = 0
      · rw [if_pos he, cnd_n (by simp [he])]
        show stdW.call (hold_Put (takeH l f x).1 t (x.1, (tag, (x.2.2.1, ())))) _ = _
        rw [call_eq (r_hPut (x := (x.1, (tag, (x.2.2.1, ())))) (takeH_ok h (by omega) f x).1 hx)]
      · rw [if_neg he, cnd_y (by simpa using he)]
  · have hp : isH l = false := by simpa using hp
    rw [hp, cnd_y (by rfl), if_neg (by simp)]
/-! ### lots and holds: the document -/
theorem r_get18 {l : List ALot'} {a t : Int} (hl : l.length ≤ 1000) : ref18_Get l a t = some (getL l a t) := by
  show ref18_GetW stdW l a t = _
  unfold ref18_GetW
  refine loop_list (l := l) (by omega) (s0 := ()) (fun _ _ => True) (fun l' _ => some (getL l' a t)) trivial ?_ ?_
  · rintro _ again _
    rw [cnd_end]; rfl
  · rintro i hi _ _ again ha
    rw [cnd_lt hi]
    show _ = some (getL (l[i] :: l.drop (i + 1)) a t)
    rw [getL]
    refine join_g fun k hk => ?_
    have kt : k (true, ()) = some l[i].2.2.1 := by
      subst hk
      show stdW.cnd true (stdW.idx l (i : Int) _) _ = _
      rw [cnd_y (by rfl), idx_w hi]
    have kf : k (false, ()) = some (getL (l.drop (i + 1)) a t) := by
      subst hk
      show stdW.cnd false _ (again (IntKind.i64.wrap ((i : Int) + 1), ())) = _
      rw [cnd_n (by rfl), i64_s i (by omega)]
      exact ha _ trivial
    clear hk
    rw [idx_w hi]
    by_cases h1 : l[i].1 = a
    · rw [cnd_y (by simp [h1]), idx_w hi]
      by_cases h2 : l[i].2.1 = t
      · rw [if_pos ⟨h1, h2⟩, show (l[i].2.1 == t) = true by simp [h2], kt]
      · rw [if_neg (fun h => h2 h.2), show (l[i].2.1 == t) = false by simp [h2], kf]
    · rw [cnd_n (by simp [h1]), if_neg (fun h => h1 h.1), kf]
theorem r_set18 {l : List ALot'} {x : ALot'} (hs : SrtL l) (hl : l.length ≤ 1000) : ref18_set l x = some (setL l x) := by
  show ref18_setW stdW l x = _
  unfold ref18_setW
  rw [← stGo_set hs, show (x.2.2.1 == 0) = decide (x.2.2.1 = 0) by rw [Bool.eq_iff_iff]; simp]
  refine loop_go (l := l) (s0 := (decide (x.2.2.1 = 0), [])) (by omega) (fun i (z : Bool × List ALot') => (z.1, ((i : Int), (z.2, ())))) (fun i z => z.2.length ≤ 2 * i) (fun l' z => some (stGo x l' z.1 z.2)) rfl (by simp) ?_ ?_
  · rintro ⟨d, out⟩ ho again
    show stdW.cnd (decide ((l.length : Int) < (l.length : Int))) _ _ = _
    rw [cnd_end]
    simp only at ho
    refine join_g fun k hk => ?_
    have kk : ∀ o, k (o, ()) = some o := by intro o; subst hk; rfl
    clear hk
    show stdW.cnd (!d) (stdW.room (out.length + 1) 24 (k (out ++ [x], ()))) (k (out, ())) = some (stGo x [] d out)
    cases d with
    | true => rw [cnd_n (by rfl), kk, stGo, if_pos rfl]
    | false => rw [cnd_y (by rfl), room_w (by omega) (by omega), kk, stGo, if_neg (by decide)]
  · rintro i hi ⟨d, out⟩ ho again ha
    simp only at ho
    show stdW.cnd (decide ((i : Int) < (l.length : Int))) _ _ = _
    rw [cnd_lt hi]
    refine join_g fun k4 hk4 => ?_
    have K4 : ∀ (d' : Bool) (out' : List ALot'), out'.length ≤ 2 * (i + 1) → k4 (d', (out', ())) = some (stGo x (l.drop (i + 1)) d' out') := by
      intro d' out' ho'
      rw [← ha (d', out') ho']
      subst hk4
      show again (d', (IntKind.i64.wrap ((i : Int) + 1), (out', ()))) = _
      rw [i64_s i (by omega)]
    clear hk4 ha
    refine join_g fun k11 hk11 => ?_
    have K11 : ∀ (d' : Bool) (out' : List ALot'), out'.length ≤ 2 * i + 1 → k11 (d', (out', ())) = some (if sameL l[i] x then stGo x (l.drop (i + 1)) d' out' else stGo x (l.drop (i + 1)) d' (out' ++ [l[i]])) := by
      intro d' out' ho'
      subst hk11
      refine join_g fun k8 hk8 => ?_
      have K8t : k8 (true, (out', ())) = some (stGo x (l.drop (i + 1)) d' (out' ++ [l[i]])) := by
        subst hk8
        show stdW.cnd true (stdW.idx l (i : Int) fun x7 => stdW.room (out'.length + 1) 24 (k4 (d', (out' ++ [x7], ())))) _ = _
        rw [cnd_y (by rfl), idx_w hi, room_w (by omega) (by omega), K4 _ _ (by rw [List.length_append]; simp; omega)]
      have K8f : k8 (false, (out', ())) = some (stGo x (l.drop (i + 1)) d' out') := by
        subst hk8
        show stdW.cnd false _ (k4 (d', (out', ()))) = _
        rw [cnd_n (by rfl), K4 _ _ (by omega)]
      clear hk8
      show stdW.idx l (i : Int) (fun x9 => stdW.cnd (x9.1 != x.1) (k8 (true, (out', ()))) (stdW.idx l (i : Int) fun x10 => k8 (x10.2.1 != x.2.1, (out', ())))) = _
      rw [idx_w hi]
      by_cases h1 : l[i].1 = x.1
      · rw [cnd_n (by simp [h1]), idx_w hi]
        by_cases h2 : l[i].2.1 = x.2.1
        · rw [if_pos (show sameL l[i] x from ⟨h1, h2⟩), show (l[i].2.1 != x.2.1) = false by simp [h2], K8f]
        · rw [if_neg (fun h : sameL l[i] x => h2 h.2), show (l[i].2.1 != x.2.1) = true by simp [h2], K8t]
      · rw [cnd_y (by simp [h1]), if_neg (fun h : sameL l[i] x => h1 h.1), K8t]
    clear hk11 K4
    refine join_g fun k13 hk13 => ?_
    have K13t : k13 (true, (out, ())) = k11 (true, (out ++ [x], ())) := by
      subst hk13
      show stdW.cnd true (stdW.room (out.length + 1) 24 (k11 (true, (out ++ [x], ())))) _ = _
      rw [cnd_y (by rfl), room_w (by omega) (by omega)]
    have K13f : k13 (false, (out, ())) = k11 (d, (out, ())) := by
      subst hk13
      show stdW.cnd false _ (k11 (d, (out, ()))) = _
      rw [cnd_n (by rfl)]
    clear hk13
    show stdW.cnd (!d) (stdW.idx l (i : Int) fun x14 => stdW.call (ref18_less x14 x) fun v15 => k13 ((!v15), (out, ()))) (k13 (false, (out, ()))) = some (stGo x (l[i] :: l.drop (i + 1)) d out)
    rw [stGo]
    cases d with
    | true => rw [cnd_n (by rfl), K13f, if_pos (.inl rfl), K11 _ _ (by omega)]
    | false =>
      rw [cnd_y (by rfl), idx_w hi, call_eq (r_less18 _ _)]
      by_cases hlt : ltL l[i] x
      · rw [decide_eq_true hlt, if_pos (.inr hlt)]
        show k13 (false, (out, ())) = _
        rw [K13f, K11 _ _ (by omega)]
      · rw [decide_eq_false hlt, if_neg (by simpa using hlt)]
        show k13 (true, (out, ())) = _
        rw [K13t, K11 _ _ (by rw [List.length_append]; simp; omega)]
theorem r_take18 {l : List ALot'} {x : ALot'} (hl : okT l) (hx : I64 x.2.2.1) : ref18_Take l x = some (takeL l x) := by
  show ref18_TakeW stdW l x = _
  unfold ref18_TakeW takeL
  have h20 := hl.1
  rw [call_eq (r_is18 (by omega))]
  by_cases h1 : isL l = true
  · rw [h1, cnd_n (by rfl), if_pos rfl, call_eq (r_one18 x)]
    by_cases h2 : rightL x
    · have hinv := isL_inv h1
      have g1 := getL_64 hl.2 x.1 x.2.1
      have g2 := h2.2.2
      rw [decide_eq_true h2, cnd_n (by rfl), if_pos h2, call_eq (r_get18 (by omega))]
      by_cases h3 : getL l x.1 x.2.1 < x.2.2.1
      · rw [cnd_y (decide_eq_true h3), if_pos h3]
      · have ew : IntKind.i64.wrap (getL l x.1 x.2.1 - x.2.2.1) = getL l x.1 x.2.1 - x.2.2.1 := IntWalk.i64_in _ (by unfold I64 at g1 hx; omega)
        rw [cnd_n (decide_eq_false h3), if_neg h3, ew, call_eq (r_set18 hinv.2.1 (by omega))]
    · rw [decide_eq_false h2, cnd_y (by rfl), if_neg h2]
  · have h1 : isL l = false := by simpa using h1
    rw [h1, cnd_y (by rfl), if_neg (by simp)]
theorem r_put18 {l : List ALot'} {x : ALot'} (hl : okT l) (hx : I64 x.2.2.1) : ref18_Put l x = some (putL l x) := by
  show ref18_PutW stdW l x = _
  unfold ref18_PutW putL
  have h20 := hl.1
  rw [call_eq (r_is18 (by omega))]
  by_cases h1 : isL l = true
  · rw [h1, cnd_n (by rfl), if_pos rfl, call_eq (r_one18 x)]
    by_cases h2 : rightL x
    · have hinv := isL_inv h1
      have g1 := getL_64 hl.2 x.1 x.2.1
      have g2 := h2.2.2
      rw [decide_eq_true h2, cnd_n (by rfl), if_pos h2, call_eq (r_get18 (by omega))]
      generalize hg : getL l x.1 x.2.1 = g at g1
      have eg := r_of g1
      have ex := r_of hx
      have ea := r_addB (i64_sml g1) (i64_sml hx)
      have ef := r_fits (z := g + x.2.2.1) (by unfold I64 at g1 hx; unfold sml; omega)
      refine both_of2 (c := stdW.cnd (!decide (I64 (g + x.2.2.1))) (some ([], (7, ()))) (stdW.join (fun (z8 : Bool × Unit) => stdW.cnd z8.1 (some ([], (25, ()))) (stdW.call (ref01_Int (big (g + x.2.2.1))) fun v9 => stdW.call (ref18_set l (x.1, (x.2.1, (v9, ())))) fun v10 => some (v10, (0, ())))) fun k11 => stdW.cnd (g == 0) (k11 (((l.length : Int) == 16), ())) (k11 (false, ())))) ?_ ?_ ?_
      · rw [call_eq eg]
        refine both_of ?_ ?_
        · rw [call_eq ex]
          refine both_of ?_ ?_ <;> rw [call_eq ea, call_eq ef]
        · rw [call_eq ex, call_eq ea, call_eq ef]
      · rw [call_eq eg, call_eq ex, call_eq ea, call_eq ef]
      · by_cases hI : I64 (g + x.2.2.1)
        · rw [decide_eq_true hI, cnd_n (by rfl), if_pos hI]
          refine join_g fun k hk => ?_
          have kt : k (true, ()) = some ([], (25, ())) := by subst hk; rfl
          have kf : k (false, ()) = some (setL l (x.1, (x.2.1, (g + x.2.2.1, ()))), (0, ())) := by
            subst hk
            show stdW.cnd false _ (stdW.call (ref01_Int (big (g + x.2.2.1))) _) = _
            rw [cnd_n (by rfl), call_eq (r_int hI), call_eq (r_set18 hinv.2.1 (by omega))]
          clear hk
          by_cases h0 : g = 0
          · rw [cnd_y (by simp [h0])]
            by_cases h16 : l.length = 16
            · rw [if_pos ⟨h0, h16⟩, show ((l.length : Int) == 16) = true by simp [h16], kt]
            · rw [if_neg (fun h => h16 h.2), show ((l.length : Int) == 16) = false by simp; omega, kf]
          · rw [cnd_n (by simp [h0]), if_neg (fun h => h0 h.1), kf]
        · rw [decide_eq_false hI, cnd_y (by rfl), if_neg hI]
    · rw [decide_eq_false h2, cnd_y (by rfl), if_neg h2]
  · have h1 : isL l = false := by simpa using h1
    rw [h1, cnd_y (by rfl), if_neg (by simp)]
theorem r_take26 {l : List AHold'} {u : AUnit'} {x : ALot'} (h : okHs l) (hx : I64 x.2.2.1) : ref26_Take l u x = some (takeH l u x) := by
  show ref26_TakeW stdW l u x = _
  unfold ref26_TakeW takeH
  have hl := lotsH_ok h.1 u
  rw [call_eq (r_is26 h)]
  by_cases hp : isH l = true
  · rw [hp, cnd_n (by rfl), if_pos rfl, call_eq (r_lots26 h.2), call_eq (r_take18 hl hx)]
    by_cases he : (takeL (lotsH l u) x).2.1 = 0
    · rw [if_pos he, cnd_n (by simp [he]), call_eq (r_with26G (of_decide_eq_true hp).2 h.2)]
    · rw [if_neg he, cnd_y (by simpa using he)]
  · have hp : isH l = false := by simpa using hp
    rw [hp, cnd_y (by rfl), if_neg (by simp)]
theorem r_put26 {l : List AHold'} {u : AUnit'} {x : ALot'} (h : okHs l) (hx : I64 x.2.2.1) : ref26_Put l u x = some (putH l u x) := by
  show ref26_PutW stdW l u x = _
  unfold ref26_PutW putH
  have hl := lotsH_ok h.1 u
  rw [call_eq (r_is26 h)]
  by_cases hp : isH l = true
  · rw [hp, cnd_n (by rfl), if_pos rfl, call_eq (r_lots26 h.2), call_eq (r_put18 hl hx)]
    by_cases he : (putL (lotsH l u) x).2.1 = 0
    · rw [if_pos he, cnd_n (by simp [he]), call_eq (r_with26G (of_decide_eq_true hp).2 h.2)]
    · rw [if_neg he, cnd_y (by simpa using he)]
  · have hp : isH l = false := by simpa using hp
    rw [hp, cnd_y (by rfl), if_neg (by simp)]
theorem r_pass26 {l : List AHold'} {f t : AUnit'} {x : ALot'} {tag : Int} (h : okHs l) (hl : l.length ≤ 380000) (hx : I64 x.2.2.1) : ref26_Pass l f t x tag = some (passH l f t x tag) := by
  show ref26_PassW stdW l f t x tag = _
  unfold ref26_PassW passH
  rw [call_eq (r_is26 h)]
  by_cases hp : isH l = true
  · rw [hp, cnd_n (by rfl), if_pos rfl, unitEq]
    by_cases hu : f = t
    · rw [if_pos hu, cnd_y (by simp [hu])]
    · rw [if_neg hu, cnd_n (by simp [hu]), call_eq (r_take26 h hx)]
      by_cases he : (takeH l f x).2.1 = 0
      · rw [if_pos he, cnd_n (by simp [he])]
        show stdW.call (ref26_Put (takeH l f x).1 t (x.1, (tag, (x.2.2.1, ())))) _ = _
        rw [call_eq (r_put26 (x := (x.1, (tag, (x.2.2.1, ())))) (takeH_ok h (by omega) f x).1 hx)]
      · rw [if_neg he, cnd_y (by simpa using he)]
  · have hp : isH l = false := by simpa using hp
    rw [hp, cnd_y (by rfl), if_neg (by simp)]
end Go.Proofs.YtllkmncnmlmefaaGreat

namespace Go.Proofs.YtllkmncnmlmefaaGreat
open Go Go.Vc Go.RowKit
set_option synthInstance.maxSize 100000
set_option synthInstance.maxHeartbeats 0
/-! ### selling: the code -/
def zS : AState' := (0, ([], ([], ([], ([], ([], ([], ([], ([], ([], ([], ([], ()))))))))))))
def resS (s : AState') (r : PH) : AState' × Int × Unit := if r.2.2 = 0 then (updS s r.1 r.2.1, (0, ())) else (zS, (r.2.2, ()))
theorem upd_self (s : AState') : updS s (pu s) (ho s) = s := rfl
theorem pay_okF {l f : List AFlow'} (h : (payP l f).2.1 = 0) : okF (payP l f).1 := by
  obtain ⟨_, h2, h3⟩ := payP_ok h
  rw [h2]; exact resP_ok h3
theorem move_pay {p : List AFlow'} {f t : AUnit'} {n : Int} (h : (moveP p f t n).2.1 = 0) : I64 (-n) ∧ moveP p f t n = payP p [(f, (-n, ())), (t, (n, ()))] := by
  unfold moveP at h ⊢
  by_cases hI : I64 (-n)
  · rw [if_pos hI]; exact ⟨hI, rfl⟩
  · rw [if_neg hI] at h
    split at h <;> simp at h
theorem move_okF {p : List AFlow'} {f t : AUnit'} {n : Int} (h : (moveP p f t n).2.1 = 0) : okF (moveP p f t n).1 ∧ (moveP p f t n).1.length ≤ p.length + 2 := by
  obtain ⟨_, e⟩ := move_pay h
  rw [e] at h ⊢
  exact ⟨pay_okF h, payP_len _ _⟩
theorem r_treasury : fall_Treasury = some tU := rfl
theorem r_fund : fall_Fund = some fU := rfl
theorem min_if (n q : Int) : (if q < n then q else n) = min n q := by split <;> omega
theorem r_sold {s : AState'} {p : List AFlow'} {h : List AHold'} {u : AUnit'} {x : ALot'} {m : Int} (ha : ∀ a ∈ asS s, okA1 a) (hl1 : (asS s).length ≤ 1000) (hh : okHs h) (hhl : h.length ≤ 380000) (hf : okF p) (hl : p.length ≤ 800000)
    (hx : 0 < qtyOf x ∧ I64 (qtyOf x)) (hm : 0 < m) (hI : I64 m) : fall_sold (updS s p h) u x m = some (resS s (soldP (asS s) u x m p h)) := by
  show fall_soldW stdW (updS s p h) u x m = _
  unfold fall_soldW soldP
  show stdW.call (asset_Find (asS s) x.1) _ = _
  rw [call_eq (r_asFind hl1)]
  by_cases hfd : (findA (asS s) x.1).2.1 = true
  · rw [cnd_n (by rw [hfd]; rfl), if_pos hfd]
    have hok := findA_ok ha hfd
    generalize (findA (asS s) x.1).1 = a at hok
    by_cases hp0 : priceOf a = 0
    · rw [if_pos hp0, cnd_y (by show (priceOf a == 0) = true; simp [hp0])]; rfl
    · have hpp : 0 < priceOf a := by have := hok.2.1.1; unfold priceOf at hp0 ⊢; omega
      rw [if_neg hp0, cnd_n (by show (priceOf a == 0) = false; simp [hp0]), call_eq (r_asSell hok hpp hm hI)]
      have hb := up_bd hm hpp
      have hq : 0 < min (upZ m (priceOf a)) (qtyOf x) ∧ I64 (min (upZ m (priceOf a)) (qtyOf x)) := by
        have := hx.2; unfold I64 at *; omega
      show stdW.cnd false _ (stdW.call (asset_Worth a (if qtyOf x < upZ m (priceOf a) then qtyOf x else upZ m (priceOf a))) _) = _
      rw [cnd_n (by rfl), min_if]
      generalize hqe : min (upZ m (priceOf a)) (qtyOf x) = q at hq
      rw [call_eq (r_asWorth hok hq.2)]
      refine join_g fun k hk => ?_
      have kerr : ∀ e st, e ≠ 0 → k (e, st) = some (zS, (e, ())) := by
        intro e st he
        subst hk
        refine join_g fun k6 hk6 => ?_
        have k6' : k6 (e, st) = some (zS, (e, ())) := by
          subst hk6
          show stdW.cnd (e != 0) _ _ = _
          rw [cnd_y (by simpa using he)]; rfl
        clear hk6
        show stdW.cnd (e == 0) _ (k6 (e, st)) = _
        rw [cnd_n (by simpa using he), k6']
      by_cases hw : I64 (q * priceOf a)
      · rw [fits64_pos hw, if_pos hw]
        have hpass := r_hPass (l := h) (f := u) (t := tU) (x := (x.1, (x.2.1, (q, ())))) (tag := 0) hh hhl hq.2
        generalize hP : passH h u tU (x.1, (x.2.1, (q, ()))) 0 = P at hpass
        obtain ⟨h', e1, ⟨⟩⟩ := P
        have main : k (e1, updS s p h') = some (resS s (if e1 = 0 then (if (moveP p tU u (q * priceOf a)).2.1 = 0 then ((moveP p tU u (q * priceOf a)).1, h', 0) else ([], [], (moveP p tU u (q * priceOf a)).2.1)) else ([], [], e1))) := by
          by_cases he1 : e1 = 0
          · rw [if_pos he1]
            subst hk
            refine join_g fun k6 hk6 => ?_
            have hmv := r_move (l := p) (f := tU) (t := u) hf hw (by omega)
            generalize hM : moveP p tU u (q * priceOf a) = M at hmv
            obtain ⟨p', e2, ⟨⟩⟩ := M
            have k6' : k6 (e2, updS s p' h') = some (resS s (if e2 = 0 then (p', h', 0) else ([], [], e2))) := by
              subst hk6
              show stdW.cnd (e2 != 0) (some (zS, (e2, ()))) (some (updS s p' h', (0, ()))) = _
              unfold resS
              by_cases he2 : e2 = 0
              · rw [cnd_n (by simp [he2]), if_pos he2]; rfl
              · rw [cnd_y (by simpa using he2), if_neg he2]
                show _ = some (if e2 = 0 then _ else _)
                rw [if_neg he2]
            clear hk6
            show stdW.cnd (e1 == 0) _ _ = _
            rw [cnd_y (by simp [he1])]
            refine both_of ?_ ?_ <;>
            · rw [call_eq r_treasury]
              show stdW.call (purse_Move p tU u (fits64 (q * priceOf a)).1) _ = _
              rw [fits64_pos hw]
              show stdW.call (purse_Move p tU u (q * priceOf a)) _ = _
              rw [call_eq hmv]
              exact k6'
          · rw [if_neg he1, kerr _ _ he1]
            unfold resS
            rw [if_neg he1]
        clear hk
        show stdW.cnd true _ _ = _
        rw [cnd_y (by rfl)]
        refine both_of ?_ ?_ <;>
        · rw [call_eq r_treasury]
          show stdW.call (hold_Pass h u tU (x.1, (x.2.1, ((if qtyOf x < upZ m (priceOf a) then qtyOf x else upZ m (priceOf a)), ()))) 0) _ = _
          rw [min_if, hqe, call_eq hpass]
          exact main
      · rw [fits64_neg hw, if_neg hw]
        clear hk
        show stdW.cnd false _ (k (7, updS s p h)) = _
        rw [cnd_n (by rfl), kerr _ _ (by decide)]; rfl
  · have hfd : (findA (asS s) x.1).2.1 = false := by simpa using hfd
    rw [cnd_y (by rw [hfd]; rfl), if_neg (by rw [hfd]; simp)]; rfl
theorem sold_ok {as : List AAsset'} {u : AUnit'} {x : ALot'} {m : Int} {p : List AFlow'} {h : List AHold'} (hh : okHs h) (hhl : h.length ≤ 380000) (hf : okF p) (he : (soldP as u x m p h).2.2 = 0) :
    okF (soldP as u x m p h).1 ∧ (soldP as u x m p h).1.length ≤ p.length + 2 ∧ okHs (soldP as u x m p h).2.1 ∧ (soldP as u x m p h).2.1.length ≤ h.length + 2 := by
  unfold soldP at he ⊢
  split
  · split
    · exact ⟨hf, by simp, hh, by simp⟩
    · split
      · split
        · split
          · rename_i hm
            obtain ⟨a1, a2⟩ := move_okF hm
            obtain ⟨a3, a4⟩ := passH_ok hh hhl u tU (x.1, (x.2.1, (min (upZ m (priceOf (findA as x.1).1)) (qtyOf x), ()))) 0
            exact ⟨a1, a2, a3, a4⟩
          · exact ⟨fun _ h => (by cases h), by simp, okHs_nil, by simp⟩
        · exact ⟨fun _ h => (by cases h), by simp, okHs_nil, by simp⟩
      · exact ⟨fun _ h => (by cases h), by simp, okHs_nil, by simp⟩
  · exact ⟨fun _ h => (by cases h), by simp, okHs_nil, by simp⟩
theorem sellGo_ok (as : List AAsset') (u : AUnit') (cash : Int) : ∀ (l : List ALot') (p : List AFlow') (h : List AHold'), okHs h → h.length + 2 * l.length ≤ 380000 → okF p → (sellGo as u cash l p h).2.2 = 0 →
    okF (sellGo as u cash l p h).1 ∧ (sellGo as u cash l p h).1.length ≤ p.length + 2 * l.length ∧ okHs (sellGo as u cash l p h).2.1 ∧ (sellGo as u cash l p h).2.1.length ≤ h.length + 2 * l.length
  | [], p, h, hh, _, hf, _ => ⟨hf, by simp [sellGo], hh, by simp [sellGo]⟩
  | x :: l, p, h, hh, hl, hf, he => by
    rw [List.length_cons] at hl
    rw [sellGo] at he ⊢
    split
    · rename_i hI
      rw [if_pos hI] at he
      split
      · rename_i h0
        rw [if_pos h0] at he
        by_cases hs : (soldP as u x (cash - getP p u) p h).2.2 = 0
        · rw [if_pos hs] at he ⊢
          obtain ⟨a1, a2, a3, a4⟩ := sold_ok hh (by omega) hf hs
          obtain ⟨b1, b2, b3, b4⟩ := sellGo_ok as u cash l _ _ a3 (by omega) a1 he
          exact ⟨b1, by rw [List.length_cons]; omega, b3, by rw [List.length_cons]; omega⟩
        · rw [if_neg hs] at he; exact absurd he hs
      · rename_i h0
        rw [if_neg h0] at he
        obtain ⟨b1, b2, b3, b4⟩ := sellGo_ok as u cash l _ _ hh (by omega) hf he
        exact ⟨b1, by rw [List.length_cons]; omega, b3, by rw [List.length_cons]; omega⟩
    · rename_i hI
      rw [if_neg hI] at he; simp at he
theorem holdLots_inv {h : List AHold'} (hp : isH h = true) (u : AUnit') : LInv (lotsH h u) := by
  have hi := (of_decide_eq_true hp : HInv h).1
  clear hp
  induction h with
  | nil => exact ⟨fun x hx => (by cases hx), List.Pairwise.nil, by simp [lotsH]⟩
  | cons y l ih =>
    rw [lotsH]
    split
    · exact (hi y (by simp)).2
    · exact ih fun z hz => hi z (by simp [hz])
theorem sell_ok {as : List AAsset'} {p : List AFlow'} {h : List AHold'} {u : AUnit'} {cash : Int} (hh : okHs h) (hl : h.length ≤ 370000) (hf : okF p) (he : (sellP as p h u cash).2.2 = 0) :
    okF (sellP as p h u cash).1 ∧ (sellP as p h u cash).1.length ≤ p.length + 32 ∧ okHs (sellP as p h u cash).2.1 ∧ (sellP as p h u cash).2.1.length ≤ h.length + 32 := by
  unfold sellP at he ⊢
  by_cases h1 : isP p = true ∧ isH h = true
  · rw [if_pos h1] at he ⊢
    by_cases h2 : u = tU
    · rw [if_pos h2] at he; simp at he
    · rw [if_neg h2] at he ⊢
      have h16 := (holdLots_inv h1.2 u).2.2
      obtain ⟨a1, a2, a3, a4⟩ := sellGo_ok as u cash (lotsH h u) p h hh (by omega) hf he
      exact ⟨a1, by omega, a3, by omega⟩
  · rw [if_neg h1] at he; simp at he
def carr (st : AState') (L : List ALot') : Int × List AMember' × List AInst' × List ALot' × List AAccount' × List AChoice' × List AGroup' × List AGive' × List APos' × List APos' × List AFlow' × List AHold' × List ALot' × Unit := (st.1, (st.2.1, (st.2.2.1, (st.2.2.2.1, (st.2.2.2.2.1, (st.2.2.2.2.2.1, (st.2.2.2.2.2.2.1, (st.2.2.2.2.2.2.2.1, (st.2.2.2.2.2.2.2.2.1, (st.2.2.2.2.2.2.2.2.2.1, (st.2.2.2.2.2.2.2.2.2.2.1, (st.2.2.2.2.2.2.2.2.2.2.2.1, (L, ())))))))))))))
theorem r_sell {s : AState'} {p : List AFlow'} {h : List AHold'} {u : AUnit'} {cash : Int} (ha : ∀ a ∈ asS s, okA1 a) (hl1 : (asS s).length ≤ 1000) (hh : okHs h) (hhl : h.length ≤ 370000) (hf : okF p) (hl : p.length ≤ 700000) (hc : I64 cash) :
    fall_Sell (updS s p h) u cash = some (resS s (sellP (asS s) p h u cash)) := by
  show fall_SellW stdW (updS s p h) u cash = _
  unfold fall_SellW sellP
  refine join_g fun k hk => ?_
  have kt : k (true, ()) = some (zS, (3, ())) := by subst hk; rfl
  have kf : isH h = true → k (false, ()) = some (resS s (if u = tU then ([], [], 2) else sellGo (asS s) u cash (lotsH h u) p h)) := by
    intro hp
    subst hk
    show stdW.cnd false _ (stdW.call fall_Treasury _) = _
    rw [cnd_n (by rfl), call_eq r_treasury, unitEq]
    by_cases hu : u = tU
    · rw [cnd_y (by simp [hu]), if_pos hu]; rfl
    · rw [cnd_n (by simp [hu]), if_neg hu]
      show stdW.call (hold_Lots h u) _ = _
      rw [call_eq (r_hlots hh)]
      have hinv := holdLots_inv hp u
      have hok := lotsH_ok hh.1 u
      generalize hL : lotsH h u = L at hinv hok
      have h16 := hinv.2.2
      refine loop_go (l := L) (s0 := (p, h)) (by omega) (fun i (z : List AFlow' × List AHold') => ((i : Int), carr (updS s z.1 z.2) L))
        (fun i z => okHs z.2 ∧ z.2.length + 2 * (L.length - i) ≤ 370032 ∧ okF z.1 ∧ z.1.length + 2 * (L.length - i) ≤ 700032) (fun l' z => some (resS s (sellGo (asS s) u cash l' z.1 z.2))) rfl ⟨hh, by show h.length + 2 * (L.length - 0) ≤ 370032; omega, hf, by show p.length + 2 * (L.length - 0) ≤ 700032; omega⟩ ?_ ?_
      · rintro ⟨p1, h1⟩ _ again
        show stdW.cnd (decide ((L.length : Int) < (L.length : Int))) _ _ = _
        rw [cnd_end]; rfl
      · rintro i hi ⟨p1, h1⟩ ⟨i1, i2, i3, i4⟩ again hag
        simp only at i1 i2 i3 i4
        show stdW.cnd (decide ((i : Int) < (L.length : Int))) (stdW.idx L (i : Int) fun x6 => stdW.nth L (Int.toNat (i : Int)) fun x7 => stdW.call (purse_Get p1 u) _) _ = some (resS s (sellGo (asS s) u cash (L[i] :: L.drop (i + 1)) p1 h1))
        rw [cnd_lt hi, idx_w hi, nth_w hi, call_eq (r_get (by omega)), sellGo]
        have hg := getP_64 i3 u
        rw [call_eq (r_fSub hc hg)]
        have hqx : 0 < qtyOf L[i] ∧ I64 (qtyOf L[i]) := ⟨(hinv.1 _ (List.getElem_mem hi)).2.2, hok.2 _ (List.getElem_mem hi)⟩
        generalize getP p1 u = g at hg
        refine join_g fun k11 hk11 => ?_
        have Kerr : ∀ (e : Int) (st : AState'), e ≠ 0 → k11 (e, carr st L) = some (zS, (e, ())) := by
          intro e st he
          subst hk11
          show stdW.cnd (e != 0) (some (zS, (e, ()))) _ = _
          rw [cnd_y (by simpa using he)]
        have K11 : ∀ (r : PH), (r.2.2 = 0 → okHs r.2.1 ∧ r.2.1.length ≤ h1.length + 2 ∧ okF r.1 ∧ r.1.length ≤ p1.length + 2) → ∀ st : AState', st = (resS s r).1 →
            k11 ((resS s r).2.1, carr st L) = some (resS s (if r.2.2 = 0 then sellGo (asS s) u cash (L.drop (i + 1)) r.1 r.2.1 else ([], [], r.2.2))) := by
          rintro ⟨p2, h2, e⟩ hr st rfl
          simp only at hr
          by_cases he : e = 0
          · subst hk11
            obtain ⟨r1, r2, r3, r4⟩ := hr he
            have er : resS s (p2, (h2, e)) = (updS s p2 h2, (0, ())) := if_pos he
            rw [er, if_pos he]
            show stdW.cnd false _ (again (IntKind.i64.wrap ((i : Int) + 1), _)) = _
            rw [cnd_n (by rfl), i64_s i (by omega)]
            exact hag (p2, h2) ⟨r1, by show h2.length + _ ≤ _; omega, r3, by show p2.length + _ ≤ _; omega⟩
          · have er : resS s (p2, (h2, e)) = (zS, (e, ())) := if_neg he
            rw [er, if_neg he]
            exact (Kerr e zS he).trans (congrArg some (if_neg he : resS s ([], ([], e)) = _).symm)
        clear hk11 hag
        by_cases hI : I64 (cash - g)
        · rw [fits64_pos hI, if_pos hI]
          refine join_g fun k14 hk14 => ?_
          have k14t : 0 < cash - g → k14 (true, (L, ())) = some (resS s (if (soldP (asS s) u L[i] (cash - g) p1 h1).2.2 = 0 then sellGo (asS s) u cash (L.drop (i + 1)) (soldP (asS s) u L[i] (cash - g) p1 h1).1 (soldP (asS s) u L[i] (cash - g) p1 h1).2.1 else ([], [], (soldP (asS s) u L[i] (cash - g) p1 h1).2.2))) := by
            intro hpos
            subst hk14
            have hsold := r_sold (s := s) (p := p1) (h := h1) (u := u) (x := L[i]) (m := cash - g) ha hl1 i1 (by omega) i3 (by omega) hqx hpos hI
            show stdW.cnd true (stdW.call (fall_sold (updS s p1 h1) u L[i] (cash - g)) _) _ = _
            rw [cnd_y (by rfl), call_eq hsold]
            exact K11 _ (fun he => by
              obtain ⟨a1, a2, a3, a4⟩ := sold_ok i1 (by omega) i3 he
              exact ⟨a3, a4, a1, a2⟩) _ rfl
          have k14f : k14 (false, (L, ())) = some (resS s (sellGo (asS s) u cash (L.drop (i + 1)) p1 h1)) := by
            subst hk14
            have := K11 (p1, (h1, 0)) (fun _ => ⟨i1, by simp, i3, by simp⟩) (updS s p1 h1) rfl
            show stdW.cnd false _ _ = _
            rw [cnd_n (by rfl)]
            exact this
          clear hk14 K11
          show stdW.cnd true (k14 (decide (0 < cash - g), (L, ()))) _ = _
          rw [cnd_y (by rfl)]
          by_cases hpos : 0 < cash - g
          · rw [decide_eq_true hpos, if_pos hpos]; exact k14t hpos
          · rw [decide_eq_false hpos, if_neg hpos]; exact k14f
        · rw [fits64_neg hI, if_neg hI]
          refine join_g fun k14 hk14 => ?_
          have k14f : k14 (false, (L, ())) = some (resS s ([], [], 7)) := by
            subst hk14
            show stdW.cnd false _ (k11 (7, _)) = _
            rw [cnd_n (by rfl)]
            exact Kerr 7 (updS s p1 h1) (by decide)
          clear hk14
          show stdW.cnd false _ (k14 (false, (L, ()))) = _
          rw [cnd_n (by rfl)]
          exact k14f
  clear hk
  show stdW.call (purse_Is p) _ = _
  rw [call_eq (r_is (by omega))]
  by_cases hp : isP p = true
  · rw [hp, cnd_n (by rfl)]
    show stdW.call (hold_Is h) _ = _
    rw [call_eq (r_his1 hh)]
    by_cases hq : isH h = true
    · rw [hq, if_pos ⟨rfl, rfl⟩]; exact kf hq
    · have hq : isH h = false := by simpa using hq
      rw [hq, if_neg (by simp)]; exact kt
  · have hp : isP p = false := by simpa using hp
    rw [hp, cnd_y (by rfl), if_neg (by simp), kt]; rfl
end Go.Proofs.YtllkmncnmlmefaaGreat

namespace Go.Proofs.YtllkmncnmlmefaaGreat
open Go Go.Vc Go.RowKit
set_option synthInstance.maxSize 100000
set_option synthInstance.maxHeartbeats 0
/-! ### paying: the code -/
def resD (s : AState') (r : PHD) : AState' × List ADebit2 × Int × Unit := if r.2.2.2 = 0 then (updS s r.1 r.2.1, (r.2.2.1, (0, ()))) else (zS, ([], (r.2.2.2, ())))
theorem r_pays {s : AState'} {p : List AFlow'} {h : List AHold'} {b t : AUnit'} {n : Int} (ha : ∀ a ∈ asS s, okA1 a) (hl1 : (asS s).length ≤ 1000) (hh : okHs h) (hhl : h.length ≤ 370000) (hf : okF p) (hl : p.length ≤ 700000) (hc : I64 n) :
    fall_pays (updS s p h) b t n = some (resD s (paysP (asS s) p h b t n)) := by
  show fall_paysW stdW (updS s p h) b t n = _
  unfold fall_paysW paysP
  by_cases h0 : n = 0
  · rw [cnd_y (by simp [h0]), if_pos h0]; rfl
  · rw [cnd_n (by simp [h0]), if_neg h0, call_eq (r_sell ha hl1 hh hhl hf hl hc)]
    have hok := fun he => sell_ok (as := asS s) (u := b) (cash := n) hh hhl hf he
    generalize sellP (asS s) p h b n = r at hok
    obtain ⟨p1, h1, e⟩ := r
    simp only at hok
    refine join_g fun k hk => ?_
    have kerr : ∀ e st, e ≠ 0 → k (e, st) = some (zS, ([], (e, ()))) := by
      intro e st he
      subst hk
      show stdW.cnd (e != 0) _ _ = _
      rw [cnd_y (by simpa using he)]; rfl
    have kok : ∀ st, k (0, st) = some (st, ([(b, (t, (n, ())))], (0, ()))) := by
      intro st
      subst hk
      show stdW.cnd false _ (stdW.both _ _) = _
      rw [cnd_n (by rfl)]
      exact both_of rfl rfl
    clear hk
    by_cases he : e = 0
    · have er : resS s (p1, (h1, e)) = (updS s p1 h1, (0, ())) := if_pos he
      obtain ⟨a1, a2, a3, a4⟩ := hok he
      rw [er, if_pos he]
      have hmv := r_move (l := p1) (f := b) (t := t) a1 hc (by omega)
      show stdW.cnd true (stdW.call (purse_Move p1 b t n) _) _ = _
      rw [cnd_y (by rfl), call_eq hmv]
      generalize moveP p1 b t n = M
      obtain ⟨p2, e2, ⟨⟩⟩ := M
      show k (e2, updS s p2 h1) = some (resD s (if e2 = 0 then (p2, h1, [(b, (t, (n, ())))], 0) else ([], [], [], e2)))
      by_cases he2 : e2 = 0
      · subst he2
        rw [kok, if_pos rfl]; rfl
      · rw [kerr _ _ he2, if_neg he2]
        exact congrArg some (if_neg he2 : resD s ([], [], [], e2) = _).symm
    · have er : resS s (p1, (h1, e)) = (zS, (e, ())) := if_neg he
      rw [er, if_neg he]
      show stdW.cnd (e == 0) _ (k (e, zS)) = _
      rw [cnd_n (by simpa using he), kerr _ _ he]
      exact congrArg some (if_neg he : resD s ([], [], [], e) = _).symm
theorem r_or2 (a b : Int) : cmp_Or2 (a :: (b :: [])) = some (if a = 0 then b else a) := by
  show cmp_Or2W stdW (a :: (b :: [])) = _
  unfold cmp_Or2W
  by_cases ha : a = 0
  · rw [if_pos ha]
    refine loop_at2 (N := if b = 0 then 2 else 1) (by split <;> decide) (fun i => (((i : Nat) : Int), ())) _ rfl ?_ ?_
    · intro again
      by_cases hb : b = 0
      · rw [if_pos hb, hb]; rfl
      · rw [if_neg hb]
        show stdW.cnd true (stdW.cnd (b != 0) (some b) _) _ = _
        rw [cnd_y (by rfl), cnd_y (by simpa using hb)]
    · intro i hi again hag
      have : i = 0 ∨ (i = 1 ∧ b = 0) := by split at hi <;> omega
      rcases this with rfl | ⟨rfl, hb⟩
      · show stdW.cnd true (stdW.cnd (a != 0) (some a) _) _ = _
        rw [cnd_y (by rfl), cnd_n (by simp [ha])]
        exact hag
      · show stdW.cnd true (stdW.cnd (b != 0) (some b) _) _ = _
        rw [cnd_y (by rfl), cnd_n (by simp [hb])]
        exact hag
  · rw [if_neg ha]
    refine loop_one _ _ _ fun again => ?_
    show stdW.cnd true (stdW.cnd (a != 0) (some a) _) _ = _
    rw [cnd_y (by rfl), cnd_y (by simpa using ha)]
theorem owes_64 {p : List AFlow'} (hf : okF p) (u : AUnit') : I64 (owesP p u).1 ∧ 0 ≤ (owesP p u).1 := by
  have hg := getP_64 hf u
  unfold owesP
  split
  · exact ⟨by unfold I64; omega, Int.le_refl _⟩
  · split
    · unfold I64 at *; exact ⟨by show _ ≤ - getP p u ∧ - getP p u ≤ _; omega, by show 0 ≤ - getP p u; omega⟩
    · exact ⟨by unfold I64; omega, Int.le_refl _⟩
theorem room_64 (as : List AAsset') (p : List AFlow') (h : List AHold') (u : AUnit') : I64 (roomP as p h u).1 ∧ 0 ≤ (roomP as p h u).1 := by
  unfold roomP
  split
  · split
    · rename_i hI
      unfold I64 at *
      exact ⟨by show _ ≤ max 0 _ ∧ max 0 _ ≤ _; omega, by show 0 ≤ max 0 _; omega⟩
    · exact ⟨by unfold I64; omega, Int.le_refl _⟩
  · exact ⟨by unfold I64; omega, Int.le_refl _⟩
theorem r_fPay {s : AState'} {p : List AFlow'} {h : List AHold'} {b t : AUnit'} (ha : ∀ a ∈ asS s, okA1 a) (hl1 : (asS s).length ≤ 1000) (hh : okHs h) (hhl : h.length ≤ 370000) (hf : okF p) (hl : p.length ≤ 700000) :
    fall_Pay (updS s p h) b t = some (resD s (payF (asS s) p h b t)) := by
  show fall_PayW stdW (updS s p h) b t = _
  unfold fall_PayW payF
  rw [call_eq (r_owes (s := updS s p h) hf (by show p.length ≤ _; omega)), call_eq (r_room (s := updS s p h) ha hl1 hh hf (by show p.length ≤ _; omega))]
  show stdW.join _ _ = _
  have ho := owes_64 hf t
  have hr := room_64 (asS s) p h b
  have e1 : owesP (pu (updS s p h)) t = owesP p t := rfl
  have e2 : roomP (asS (updS s p h)) (pu (updS s p h)) (Go.Proofs.YtllkmncnmlmefaaGreat.ho (updS s p h)) b = roomP (asS s) p h b := rfl
  rw [e1, e2]
  clear e1 e2
  generalize owesP p t = o at *
  generalize roomP (asS s) p h b = r at *
  obtain ⟨n, e, ⟨⟩⟩ := o
  obtain ⟨m, f, ⟨⟩⟩ := r
  simp only at ho hr
  refine join_g fun k hk => ?_
  have kt : k (true, ()) = some (zS, ([], ((if e = 0 then f else e), ()))) := by
    subst hk
    show stdW.cnd true (stdW.call (cmp_Or2 (e :: (f :: []))) _) _ = _
    rw [cnd_y (by rfl), call_eq (r_or2 e f)]; rfl
  have kf : k (false, ()) = some (resD s (if b = t then (p, h, [], 0) else paysP (asS s) p h b t (min n m))) := by
    subst hk
    show stdW.cnd false _ (stdW.cnd (notIf false ((b.1 == t.1) && (b.2.1 == t.2.1))) (some (updS s p h, ([], (0, ())))) (stdW.call (fall_pays (updS s p h) b t (if m < n then m else n)) _)) = _
    rw [cnd_n (by rfl), unitEq, min_if]
    by_cases hu : b = t
    · rw [cnd_y (by simp [hu]), if_pos hu]; rfl
    · rw [cnd_n (by simp [hu]), if_neg hu, call_eq (r_pays ha hl1 hh hhl hf hl (by unfold I64 at *; omega))]
  clear hk
  show stdW.cnd (e != 0) (k (true, ())) (k (f != 0, ())) = some (resD s (if e = 0 then (if f = 0 then (if b = t then (p, h, [], 0) else paysP (asS s) p h b t (min n m)) else ([], [], [], f)) else ([], [], [], e)))
  by_cases he : e = 0
  · rw [cnd_n (by simp [he]), if_pos he]
    rw [if_pos he] at kt
    by_cases hf0 : f = 0
    · rw [if_pos hf0, show (f != 0) = false by simp [hf0], kf]
    · rw [if_neg hf0, show (f != 0) = true by simpa using hf0, kt]
      exact congrArg some (if_neg hf0 : resD s ([], [], [], f) = _).symm
  · rw [cnd_y (by simpa using he), if_neg he]
    rw [if_neg he] at kt
    rw [kt]
    exact congrArg some (if_neg he : resD s ([], [], [], e) = _).symm
theorem r_fOwn {s : AState'} {p : List AFlow'} {h : List AHold'} {u : AUnit'} (ha : ∀ a ∈ asS s, okA1 a) (hl1 : (asS s).length ≤ 1000) (hh : okHs h) (hhl : h.length ≤ 370000) (hf : okF p) (hl : p.length ≤ 700000) :
    fall_Own (updS s p h) u = some (resD s (ownF (asS s) p h u)) := by
  show fall_OwnW stdW (updS s p h) u = _
  unfold fall_OwnW ownF
  rw [call_eq (r_owes (s := updS s p h) hf (by show p.length ≤ _; omega))]
  have ho := owes_64 hf u
  have e1 : owesP (pu (updS s p h)) u = owesP p u := rfl
  rw [e1]
  clear e1
  generalize owesP p u = o at *
  obtain ⟨n, e, ⟨⟩⟩ := o
  simp only at ho
  show stdW.cnd (e != 0) (some (zS, ([], (e, ())))) (stdW.call (fall_Sell (updS s p h) u 0) _) = some (resD s (if e = 0 then _ else ([], [], [], e)))
  by_cases he : e = 0
  · rw [cnd_n (by simp [he]), if_pos he, call_eq (r_sell ha hl1 hh hhl hf hl (by unfold I64; omega))]
    have hok := fun he => sell_ok (as := asS s) (u := u) (cash := 0) hh hhl hf he
    generalize sellP (asS s) p h u 0 = r at hok
    obtain ⟨p1, h1, e2⟩ := r
    simp only at hok
    by_cases he2 : e2 = 0
    · have er : resS s (p1, (h1, e2)) = (updS s p1 h1, (0, ())) := if_pos he2
      obtain ⟨a1, a2, a3, a4⟩ := hok he2
      rw [er, if_pos he2]
      show stdW.cnd false _ (stdW.call (fall_Owes (updS s p1 h1) u) _) = _
      rw [cnd_n (by rfl), call_eq (r_owes (s := updS s p1 h1) a1 (by show p1.length ≤ _; omega))]
      have ho2 := owes_64 a1 u
      have e3 : owesP (pu (updS s p1 h1)) u = owesP p1 u := rfl
      rw [e3]
      generalize owesP p1 u = o2 at *
      obtain ⟨n2, f2, ⟨⟩⟩ := o2
      simp only at ho2
      show stdW.cnd (n == n2) (some (updS s p1 h1, ([], (0, ())))) (stdW.both (some (updS s p1 h1, ([(u, (u, (IntKind.i64.wrap (n - n2), ())))], (0, ())))) (some (updS s p1 h1, ([(u, (u, (IntKind.i64.wrap (n - n2), ())))], (0, ()))))) = some (resD s (if n = n2 then (p1, h1, [], 0) else (p1, h1, [(u, (u, (n - n2, ())))], 0)))
      by_cases hn : n = n2
      · rw [cnd_y (by simp [hn]), if_pos hn]; rfl
      · have ew : IntKind.i64.wrap (n - n2) = n - n2 := IntWalk.i64_in _ (by unfold I64 at *; omega)
        rw [cnd_n (by simpa using hn), if_neg hn, ew]
        exact both_of rfl rfl
    · have er : resS s (p1, (h1, e2)) = (zS, (e2, ())) := if_neg he2
      rw [er, if_neg he2]
      show stdW.cnd (e2 != 0) (some (zS, ([], (e2, ())))) _ = _
      rw [cnd_y (by simpa using he2)]
      exact congrArg some (if_neg he2 : resD s ([], [], [], e2) = _).symm
  · rw [cnd_y (by simpa using he), if_neg he]
    exact congrArg some (if_neg he : resD s ([], [], [], e) = _).symm
/-! ### the document: what a unit owes, its room, a payment -/
theorem r_owes31 {s : AState'} {u : AUnit'} (hf : okF (pu s)) (hl : (pu s).length ≤ 1000000) : ref31_Owes s u = some (owesP (pu s) u) := by
  show ref31_OwesW stdW s u = _
  unfold ref31_OwesW owesP
  show stdW.call (ref17_Get (pu s) u) _ = _
  rw [call_eq (r_get17 hl)]
  have hg := getP_64 hf u
  generalize getP (pu s) u = c at *
  by_cases hm : c = -9223372036854775808
  · rw [cnd_y (by simp [hm]), if_pos hm]
  · rw [cnd_n (by simpa using hm), if_neg hm]
    by_cases h0 : c < 0
    · have ew : IntKind.i64.wrap (0 - c) = -c := by rw [Int.zero_sub]; exact IntWalk.i64_in _ (by unfold I64 at hg; omega)
      rw [cnd_y (decide_eq_true h0), if_pos h0, ew]
    · rw [cnd_n (decide_eq_false h0), if_neg h0]
theorem r_move31 {s : AState'} {p : List AFlow'} {h : List AHold'} {f t : AUnit'} {n : Int} (hf : okF p) (hl : p.length ≤ 800000) (h0 : 0 ≤ n) (hn : I64 n) :
    ref31_Move (updS s p h) f t n = some (if (moveP p f t n).2.1 = 0 then (updS s (moveP p f t n).1 h, (0, ())) else (zS, ((moveP p f t n).2.1, ()))) := by
  show ref31_MoveW stdW (updS s p h) f t n = _
  unfold ref31_MoveW
  have hI : I64 (-n) := by unfold I64 at *; omega
  have ew : IntKind.i64.wrap (0 - n) = -n := by rw [Int.zero_sub]; exact IntWalk.i64_in _ hI
  have em : moveP p f t n = payP p [(f, (-n, ())), (t, (n, ()))] := by unfold moveP; rw [if_pos hI]
  have hp := r_pay17 (l := p) (fl := [(f, (-n, ())), (t, (n, ()))]) hf (by
    intro x hx
    simp only [List.mem_cons, List.not_mem_nil, or_false] at hx
    rcases hx with rfl | rfl
    · exact hI
    · exact hn) (by simp; omega)
  rw [ew]
  show stdW.call (ref17_Pay p [(f, (-n, ())), (t, (n, ()))]) _ = _
  rw [call_eq hp, em]
  generalize payP p [(f, (-n, ())), (t, (n, ()))] = r
  obtain ⟨p', e, ⟨⟩⟩ := r
  show stdW.cnd (e != 0) (some (zS, (e, ()))) (some (updS s p' h, (0, ()))) = some (if e = 0 then _ else _)
  by_cases he : e = 0
  · rw [cnd_n (by simp [he]), if_pos he]
  · rw [cnd_y (by simpa using he), if_neg he]
theorem r_worth12 {a : AAsset'} {q : Int} (ha : okA1 a) (hq : I64 q) : ref12_Worth a q = some (big (q * priceOf a)) := by
  show ref12_WorthW stdW a q = _
  unfold ref12_WorthW
  rw [call_eq (r_of hq)]
  show stdW.call (ref01_Of (priceOf a)) _ = _
  rw [call_eq (r_of ha.price), call_eq (r_mulB (i64_sml hq) (i64_sml ha.price))]
end Go.Proofs.YtllkmncnmlmefaaGreat

namespace Go.Proofs.YtllkmncnmlmefaaGreat
open Go Go.Vc Go.RowKit
set_option synthInstance.maxSize 100000
set_option synthInstance.maxHeartbeats 0
/-! ### the document: what lots are worth, the room -/
def sumGo (as : List AAsset') : List ALot' → Int → Int × Int × Unit
  | [], z => fits64 z
  | x :: l, z => if (findA as x.1).2.1 = true then if I64 (qtyOf x * priceOf (findA as x.1).1) then sumGo as l (z + qtyOf x * priceOf (findA as x.1).1) else (0, 7, ()) else (0, 11, ())
theorem sumGo_vals (as : List AAsset') : ∀ (l : List ALot') (acc : List Int), sumGo as l acc.sum = if (valsGo as l acc).2.1 = 0 then fits64 (valsGo as l acc).1.sum else (0, (valsGo as l acc).2.1, ())
  | [], acc => by rw [sumGo, valsGo, if_pos rfl]
  | x :: l, acc => by
    rw [sumGo, valsGo]
    split
    · split
      · have := sumGo_vals as l (acc ++ [qtyOf x * priceOf (findA as x.1).1])
        rw [List.sum_append] at this
        simpa using this
      · rfl
    · rfl
theorem worth_sum (as : List AAsset') (l : List ALot') : worthP as l = if isL l = true then sumGo as l 0 else (0, 3, ()) := by
  unfold worthP
  have := sumGo_vals as l []
  rw [show ([] : List Int).sum = 0 from rfl] at this
  rw [this]
theorem r_sum27 {as : List AAsset'} {l : List ALot'} (ha : ∀ a ∈ as, okA1 a) (hl1 : as.length ≤ 1000) (hl : okT l) : ref27_Sum as l 0 false = some (worthP as l) := by
  show ref27_SumW stdW as l 0 false = _
  unfold ref27_SumW
  rw [worth_sum]
  have h20 := hl.1
  rw [call_eq (r_is18 (by omega))]
  by_cases hp : isL l = true
  · rw [hp, cnd_n (by rfl), if_pos rfl, call_eq (r_of (n := 0) (by unfold I64; omega))]
    refine loop_go (l := l) (s0 := (0 : Int)) (by omega) (fun i (z : Int) => ((i : Int), big z)) (fun i z => -(9223372036854775808 * (i : Int)) ≤ z ∧ z ≤ 9223372036854775808 * (i : Int)) (fun l' z => some (sumGo as l' z)) rfl (by omega) ?_ ?_
    · intro z hz again
      have hs : sml z := by unfold sml; omega
      show stdW.cnd (decide ((l.length : Int) < (l.length : Int))) _ (stdW.call (ref01_Fits (big z)) _) = _
      rw [cnd_end, call_eq (r_fits hs), sumGo]
      by_cases hI : I64 z
      · rw [decide_eq_true hI, cnd_n (by rfl), fits64_pos hI]
        show stdW.call (ref01_Int (big z)) _ = _
        rw [call_eq (r_int hI)]
      · rw [decide_eq_false hI, cnd_y (by rfl), fits64_neg hI]
    · intro i hi z hz again hag
      have hs : sml z := by unfold sml; omega
      show stdW.cnd (decide ((i : Int) < (l.length : Int))) _ _ = _
      rw [cnd_lt hi, sumGo]
      have hq : I64 (qtyOf l[i]) := hl.2 _ (List.getElem_mem hi)
      refine join_g fun k6 hk6 => ?_
      have K6 : ∀ y, -(9223372036854775808 * ((i + 1 : Nat) : Int)) ≤ y ∧ y ≤ 9223372036854775808 * ((i + 1 : Nat) : Int) → k6 (big y) = some (sumGo as (l.drop (i + 1)) y) := by
        intro y hy
        subst hk6
        show again (IntKind.i64.wrap ((i : Int) + 1), big y) = _
        rw [i64_s i (by omega)]
        exact hag y hy
      clear hk6 hag
      show stdW.idx l (i : Int) _ = _
      rw [idx_w hi, call_eq (r_asFind12 hl1)]
      by_cases hf : (findA as l[i].1).2.1 = true
      · have hok := findA_ok ha hf
        rw [cnd_n (by rw [hf]; rfl), if_pos hf]
        show stdW.idx l (i : Int) _ = _
        rw [idx_w hi]
        generalize (findA as l[i].1).1 = a at hok ⊢
        have hw := r_worth12 hok hq
        have hm := mul_128 hq hok.price
        have hfit := r_fits (z := qtyOf l[i] * priceOf a) (by unfold In128 at hm; unfold sml; omega)
        refine both_of ?_ ?_ <;>
        · show stdW.call (ref12_Worth a (qtyOf l[i])) _ = _
          rw [call_eq hw, call_eq hfit]
          by_cases hI : I64 (qtyOf l[i] * priceOf a)
          · rw [decide_eq_true hI, cnd_n (by rfl), if_pos hI]
            refine join_g fun k14 hk14 => ?_
            have k14' : k14 (big (qtyOf l[i] * priceOf a)) = some (sumGo as (l.drop (i + 1)) (z + qtyOf l[i] * priceOf a)) := by
              subst hk14
              show stdW.call (ref01_Add (big z) (big (qtyOf l[i] * priceOf a))) _ = _
              rw [call_eq (r_addB hs (i64_sml hI))]
              exact K6 _ (by unfold I64 at hI; omega)
            clear hk14
            show stdW.cnd false _ (k14 (big (qtyOf l[i] * priceOf a))) = _
            rw [cnd_n (by rfl), k14']
          · rw [decide_eq_false hI, cnd_y (by rfl), if_neg hI]
      · have hf : (findA as l[i].1).2.1 = false := by simpa using hf
        rw [cnd_y (by rw [hf]; rfl), if_neg (by rw [hf]; simp)]
  · have hp : isL l = false := by simpa using hp
    rw [hp, cnd_y (by rfl), if_neg (by simp)]
theorem r_room31 {s : AState'} {u : AUnit'} (ha : ∀ a ∈ asS s, okA1 a) (hl1 : (asS s).length ≤ 1000) (hh : okHs (ho s)) (hf : okF (pu s)) (hl : (pu s).length ≤ 1000000) : ref31_Room s u = some (roomP (asS s) (pu s) (ho s) u) := by
  show ref31_RoomW stdW s u = _
  unfold ref31_RoomW roomP
  show stdW.call (ref26_Lots (ho s) u) _ = _
  rw [call_eq (r_lots26 hh.2)]
  show stdW.call (ref27_Sum (asS s) (lotsH (ho s) u) 0 false) _ = _
  rw [call_eq (r_sum27 ha hl1 (lotsH_ok hh.1 u))]
  have hw := worth_64 (as := asS s) (l := lotsH (ho s) u)
  generalize worthP (asS s) (lotsH (ho s) u) = v at *
  obtain ⟨n, e, ⟨⟩⟩ := v
  simp only at hw
  have hg := getP_64 hf u
  have eN := r_of hw
  have eG := r_get17 (l := pu s) (u := u) hl
  have eO := r_of hg
  have eA := r_addB (i64_sml hw) (i64_sml hg)
  have eF := r_fits (z := n + getP (pu s) u) (by unfold I64 at hw hg; unfold sml; omega)
  by_cases he : e = 0
  · have leaf : stdW.cnd (!decide (I64 (n + getP (pu s) u))) (some ((0 : Int), ((7 : Int), ()))) (stdW.cnd (big (n + getP (pu s) u)).1 (some (0, (0, ()))) (stdW.call (ref01_Int (big (n + getP (pu s) u))) fun v8 => some (v8, ((0 : Int), ())))) = some (if I64 (n + getP (pu s) u) then (max 0 (n + getP (pu s) u), 0, ()) else (0, 7, ())) := by
      by_cases hI : I64 (n + getP (pu s) u)
      · rw [decide_eq_true hI, cnd_n (by rfl), if_pos hI]
        have e1 : (big (n + getP (pu s) u)).1 = decide (n + getP (pu s) u < 0) := rfl
        rw [e1]
        by_cases h0 : n + getP (pu s) u < 0
        · rw [cnd_y (decide_eq_true h0)]
          congr 2; omega
        · rw [cnd_n (decide_eq_false h0), call_eq (r_int hI)]
          congr 2; omega
      · rw [decide_eq_false hI, cnd_y (by rfl), if_neg hI]
    show stdW.cnd (e != 0) _ _ = some (if e = 0 then _ else _)
    rw [if_pos he, cnd_n (by simp [he])]
    refine both_of ?_ ?_
    · rw [call_eq eN]
      refine both_of ?_ ?_
      · show stdW.call (ref17_Get (pu s) u) _ = _
        rw [call_eq eG]
        refine both_of ?_ ?_
        · rw [call_eq eO]
          refine both_of ?_ ?_ <;>
          · rw [call_eq eA, call_eq eF]; exact leaf
        · rw [call_eq eO, call_eq eA, call_eq eF]; exact leaf
      · show stdW.call (ref17_Get (pu s) u) _ = _
        rw [call_eq eG, call_eq eO, call_eq eA, call_eq eF]; exact leaf
    · rw [call_eq eN]
      show stdW.call (ref17_Get (pu s) u) _ = _
      rw [call_eq eG, call_eq eO, call_eq eA, call_eq eF]; exact leaf
  · show stdW.cnd (e != 0) (some (0, (e, ()))) _ = some (if e = 0 then _ else _)
    rw [if_neg he, cnd_y (by simpa using he)]
end Go.Proofs.YtllkmncnmlmefaaGreat

namespace Go.Proofs.YtllkmncnmlmefaaGreat
open Go Go.Vc Go.RowKit
set_option synthInstance.maxSize 100000
set_option synthInstance.maxHeartbeats 0
set_option maxHeartbeats 4000000
theorem eqT (u : AUnit') : notIf false ((u.1 == 0) && (u.2.1 == 1)) = decide (u = tU) := unitEq u tU
def soldQ (u : AUnit') (x : ALot') (c q : Int) (p : List AFlow') (h : List AHold') : PH :=
  if I64 (q * c) then
    if (passH h u tU (x.1, (x.2.1, (q, ()))) 0).2.1 = 0 then
      if (moveP p tU u (q * c)).2.1 = 0 then ((moveP p tU u (q * c)).1, (passH h u tU (x.1, (x.2.1, (q, ()))) 0).1, 0)
      else ([], [], (moveP p tU u (q * c)).2.1)
    else ([], [], (passH h u tU (x.1, (x.2.1, (q, ()))) 0).2.1)
  else ([], [], 7)
/-! ### selling: the document -/
theorem r_sell31 {s : AState'} {p : List AFlow'} {h : List AHold'} {u : AUnit'} {cash : Int} (ha : ∀ a ∈ asS s, okA1 a) (hl1 : (asS s).length ≤ 1000) (hh : okHs h) (hhl : h.length ≤ 370000) (hf : okF p) (hl : p.length ≤ 700000) (hc : I64 cash) :
    ref31_Sell (updS s p h) u cash = some (resS s (sellP (asS s) p h u cash)) := by
  show ref31_SellW stdW (updS s p h) u cash = _
  unfold ref31_SellW sellP
  refine join_g fun k hk => ?_
  have kt : k (true, ()) = some (zS, (3, ())) := by subst hk; rfl
  have kf : isH h = true → k (false, ()) = some (resS s (if u = tU then ([], [], 2) else sellGo (asS s) u cash (lotsH h u) p h)) := by
    intro hp
    subst hk
    show stdW.cnd false _ (stdW.cnd (notIf false ((u.1 == 0) && (u.2.1 == 1))) _ _) = _
    rw [cnd_n (by rfl), eqT]
    by_cases hu : u = tU
    · rw [cnd_y (by simp [hu]), if_pos hu]; rfl
    · rw [cnd_n (by simp [hu]), if_neg hu]
      show stdW.call (ref26_Lots h u) _ = _
      rw [call_eq (r_lots26 hh.2)]
      have hinv := holdLots_inv hp u
      have hok := lotsH_ok hh.1 u
      generalize hL : lotsH h u = L at hinv hok
      have h16 := hinv.2.2
      refine loop_go (l := L) (s0 := (p, h)) (by omega) (fun i (z : List AFlow' × List AHold') => ((i : Int), updS s z.1 z.2))
        (fun i z => okHs z.2 ∧ z.2.length + 2 * (L.length - i) ≤ 370032 ∧ okF z.1 ∧ z.1.length + 2 * (L.length - i) ≤ 700032) (fun l' z => some (resS s (sellGo (asS s) u cash l' z.1 z.2))) rfl ⟨hh, by show h.length + 2 * (L.length - 0) ≤ 370032; omega, hf, by show p.length + 2 * (L.length - 0) ≤ 700032; omega⟩ ?_ ?_
      · rintro ⟨p1, h1⟩ _ again
        show stdW.cnd (decide ((L.length : Int) < (L.length : Int))) _ _ = _
        rw [cnd_end]; rfl
      · rintro i hi ⟨p1, h1⟩ ⟨i1, i2, i3, i4⟩ again hag
        simp (config := {proj := false}) only [both_w]
        simp only at i1 i2 i3 i4
        show stdW.cnd (decide ((i : Int) < (L.length : Int))) _ _ = some (resS s (sellGo (asS s) u cash (L[i] :: L.drop (i + 1)) p1 h1))
        rw [cnd_lt hi, sellGo]
        have hg := getP_64 i3 u
        have eC := r_of hc
        have eG := r_get17 (l := p1) (u := u) (by omega)
        have eO := r_of hg
        have eS := r_subB (i64_sml hc) (i64_sml hg)
        have eF := r_fits (z := cash - getP p1 u) (by unfold I64 at hc hg; unfold sml; omega)
        have hqx : 0 < qtyOf L[i] ∧ I64 (qtyOf L[i]) := ⟨(hinv.1 _ (List.getElem_mem hi)).2.2, hok.2 _ (List.getElem_mem hi)⟩
        refine join_g fun k6 hk6 => ?_
        have K6 : ∀ p2 h2, okHs h2 ∧ h2.length ≤ h1.length + 2 ∧ okF p2 ∧ p2.length ≤ p1.length + 2 → k6 (updS s p2 h2) = some (resS s (sellGo (asS s) u cash (L.drop (i + 1)) p2 h2)) := by
          rintro p2 h2 ⟨r1, r2, r3, r4⟩
          subst hk6
          show again (IntKind.i64.wrap ((i : Int) + 1), updS s p2 h2) = _
          rw [i64_s i (by omega)]
          exact hag (p2, h2) ⟨r1, by show h2.length + _ ≤ _; omega, r3, by show p2.length + _ ≤ _; omega⟩
        clear hk6 hag
        rw [call_eq eC]
        show stdW.call (ref17_Get p1 u) _ = _
        rw [call_eq eG, call_eq eO, call_eq eS, call_eq eF]
        have k6s : k6 (updS s p1 h1) = some (resS s (sellGo (asS s) u cash (L.drop (i + 1)) p1 h1)) := K6 p1 h1 ⟨i1, by omega, i3, by omega⟩
        generalize getP p1 u = g at hg ⊢
        by_cases hI : I64 (cash - g)
        · rw [decide_eq_true hI, cnd_n (by rfl), call_eq (r_int hI), if_pos hI]
          by_cases hpos : 0 < cash - g
          · rw [cnd_n (decide_eq_false (by omega)), if_pos hpos]
            show stdW.idx L (i : Int) _ = _
            rw [idx_w hi]
            show stdW.call (ref12_Find (asS s) L[i].1) _ = _
            rw [call_eq (r_asFind12 hl1)]
            refine Eq.trans (b := if (soldP (asS s) u L[i] (cash - g) p1 h1).2.2 = 0 then k6 (updS s (soldP (asS s) u L[i] (cash - g) p1 h1).1 (soldP (asS s) u L[i] (cash - g) p1 h1).2.1) else some (zS, ((soldP (asS s) u L[i] (cash - g) p1 h1).2.2, ()))) ?_ ?_
            · clear K6 k6s
              unfold soldP
              have hfok : (findA (asS s) L[i].1).2.1 = true → okA1 (findA (asS s) L[i].1).1 := fun hf => findA_ok ha hf
              generalize findA (asS s) L[i].1 = fa at hfok ⊢
              obtain ⟨a, b, ⟨⟩⟩ := fa
              have hb := up_bd (m := cash - g) (d := priceOf a) hpos
              cases b with
              | false =>
                show stdW.cnd true _ _ = _
                rw [cnd_y (by rfl)]; rfl
              | true =>
                have hoka : okA1 a := hfok rfl
                show stdW.cnd false _ (stdW.cnd (priceOf a == 0) (k6 (updS s p1 h1)) (stdW.idx L (i : Int) _)) = _
                rw [cnd_n (by rfl), if_pos rfl]
                by_cases hp0 : priceOf a = 0
                · rw [cnd_y (by simp [hp0]), if_pos hp0, if_pos rfl]
                · have hpp : 0 < priceOf a := by have := hoka.2.1.1; unfold priceOf at hp0 ⊢; omega
                  have hb := hb hpp
                  rw [cnd_n (by simp [hp0]), idx_w hi, if_neg hp0]
                  show _ = if (soldQ u L[i] (priceOf a) (min (upZ (cash - g) (priceOf a)) (qtyOf L[i])) p1 h1).2.2 = 0 then k6 (updS s (soldQ u L[i] (priceOf a) (min (upZ (cash - g) (priceOf a)) (qtyOf L[i])) p1 h1).1 (soldQ u L[i] (priceOf a) (min (upZ (cash - g) (priceOf a)) (qtyOf L[i])) p1 h1).2.1) else some (zS, ((soldQ u L[i] (priceOf a) (min (upZ (cash - g) (priceOf a)) (qtyOf L[i])) p1 h1).2.2, ()))
                  have eI := r_int hI
                  have eSell := r_sell12 hoka hpp hpos hI
                  have eX := r_of hqx.2
                  have huI : I64 (upZ (cash - g) (priceOf a)) := by unfold I64 at hI ⊢; omega
                  have eCmp := r_cmpB (i64_sml huI) (i64_sml hqx.2)
                  show stdW.call (ref01_Int (big (cash - g))) _ = _
                  rw [call_eq eI]
                  show stdW.call (ref12_Sell a (cash - g)) _ = _
                  rw [call_eq eSell]
                  refine join_g fun k27 hk27 => ?_
                  have hq : 0 < min (upZ (cash - g) (priceOf a)) (qtyOf L[i]) ∧ I64 (min (upZ (cash - g) (priceOf a)) (qtyOf L[i])) := by
                    have := hqx.2; unfold I64 at *; omega
                  have K27 : ∀ q, q = min (upZ (cash - g) (priceOf a)) (qtyOf L[i]) → k27 (L[i].1, (L[i].2.1, (q, ()))) = if (soldQ u L[i] (priceOf a) (min (upZ (cash - g) (priceOf a)) (qtyOf L[i])) p1 h1).2.2 = 0 then k6 (updS s (soldQ u L[i] (priceOf a) (min (upZ (cash - g) (priceOf a)) (qtyOf L[i])) p1 h1).1 (soldQ u L[i] (priceOf a) (min (upZ (cash - g) (priceOf a)) (qtyOf L[i])) p1 h1).2.1) else some (zS, ((soldQ u L[i] (priceOf a) (min (upZ (cash - g) (priceOf a)) (qtyOf L[i])) p1 h1).2.2, ())) := by
                    intro q hqe
                    rw [← hqe] at hq ⊢
                    unfold soldQ
                    subst hk27
                    have hw := r_worth12 hoka hq.2
                    have hm := mul_128 hq.2 hoka.price
                    have hfit := r_fits (z := q * priceOf a) (by unfold In128 at hm; unfold sml; omega)
                    show stdW.call (ref12_Worth a q) _ = _
                    rw [call_eq hw, call_eq hfit]
                    by_cases hwI : I64 (q * priceOf a)
                    · rw [decide_eq_true hwI, cnd_n (by rfl), if_pos hwI]
                      have hpass := r_pass26 (l := h1) (f := u) (t := tU) (x := (L[i].1, (L[i].2.1, (q, ())))) (tag := 0) i1 (by omega) hq.2
                      have hpok := (passH_ok i1 (by omega : h1.length ≤ 380000) u tU (L[i].1, (L[i].2.1, (q, ()))) 0).1
                      show stdW.call (ref26_Pass h1 u tU (L[i].1, (L[i].2.1, (q, ()))) 0) _ = _
                      rw [call_eq hpass]
                      generalize passH h1 u tU (L[i].1, (L[i].2.1, (q, ()))) 0 = P at hpok ⊢
                      obtain ⟨h', e1, ⟨⟩⟩ := P
                      show stdW.cnd (e1 != 0) (some (zS, (e1, ()))) (stdW.call (ref01_Int (big (q * priceOf a))) _) = (if (if e1 = 0 then _ else _ : PH).2.2 = 0 then _ else _)
                      by_cases he1 : e1 = 0
                      · have hnn : 0 ≤ q * priceOf a := Int.mul_nonneg (Int.le_of_lt hq.1) (Int.le_of_lt hpp)
                        rw [cnd_n (by simp [he1]), call_eq (r_int hwI), if_pos he1]
                        show stdW.call (ref31_Move (updS s p1 h') tU u (q * priceOf a)) _ = _
                        rw [call_eq (r_move31 (s := s) (p := p1) (h := h') (f := tU) (t := u) i3 (by omega) hnn hwI)]
                        generalize moveP p1 tU u (q * priceOf a) = M
                        obtain ⟨p', e2, ⟨⟩⟩ := M
                        by_cases he2 : e2 = 0
                        · rw [if_pos he2, if_pos he2]
                          show stdW.cnd false _ (k6 (updS s p' h')) = _
                          rw [cnd_n (by rfl), if_pos rfl]
                        · rw [if_neg he2, if_neg he2]
                          show stdW.cnd (e2 != 0) _ _ = _
                          rw [cnd_y (by simpa using he2)]
                          exact (if_neg he2).symm
                      · rw [cnd_y (by simpa using he1), if_neg he1]
                        exact (if_neg he1).symm
                    · rw [decide_eq_false hwI, cnd_y (by rfl), if_neg hwI]; rfl
                  clear hk27
                  show stdW.call (ref01_Of (qtyOf L[i])) _ = _
                  rw [call_eq eX, call_eq eCmp]
                  by_cases hlt : upZ (cash - g) (priceOf a) < qtyOf L[i]
                  · have ec : decide ((if upZ (cash - g) (priceOf a) - qtyOf L[i] = 0 then (0 : Int) else if upZ (cash - g) (priceOf a) - qtyOf L[i] < 0 then -1 else 1) < 0) = true := by
                      rw [if_neg (by omega), if_pos (by omega)]; rfl
                    rw [ec, cnd_y (by rfl), call_eq (r_int huI)]
                    exact K27 _ (by omega)
                  · have ec : decide ((if upZ (cash - g) (priceOf a) - qtyOf L[i] = 0 then (0 : Int) else if upZ (cash - g) (priceOf a) - qtyOf L[i] < 0 then -1 else 1) < 0) = false := by
                      by_cases h0 : upZ (cash - g) (priceOf a) - qtyOf L[i] = 0
                      · rw [if_pos h0]; rfl
                      · rw [if_neg h0, if_neg (by omega)]; rfl
                    rw [ec, cnd_n (by rfl)]
                    exact K27 (qtyOf L[i]) (by omega)
            · by_cases hs : (soldP (asS s) u L[i] (cash - g) p1 h1).2.2 = 0
              · obtain ⟨a1, a2, a3, a4⟩ := sold_ok i1 (by omega) i3 hs
                rw [if_pos hs, if_pos hs]
                exact K6 _ _ ⟨a3, a4, a1, a2⟩
              · rw [if_neg hs, if_neg hs]
                exact congrArg some (if_neg hs : resS s ([], ([], (soldP (asS s) u L[i] (cash - g) p1 h1).2.2)) = _).symm
          · rw [cnd_y (decide_eq_true (by omega)), if_neg hpos]
            exact k6s
        · rw [decide_eq_false hI, cnd_y (by rfl), if_neg hI]; rfl
  clear hk
  show stdW.call (ref17_Is p) _ = _
  rw [call_eq (r_is17 (by omega))]
  by_cases hp : isP p = true
  · rw [hp, cnd_n (by rfl)]
    show stdW.call (ref26_Is h) _ = _
    rw [call_eq (r_is26 hh)]
    by_cases hq : isH h = true
    · rw [hq, if_pos ⟨rfl, rfl⟩]; exact kf hq
    · have hq : isH h = false := by simpa using hq
      rw [hq, if_neg (by simp)]; exact kt
  · have hp : isP p = false := by simpa using hp
    rw [hp, cnd_y (by rfl), if_neg (by simp), kt]; rfl
end Go.Proofs.YtllkmncnmlmefaaGreat

namespace Go.Proofs.YtllkmncnmlmefaaGreat
open Go Go.Vc Go.RowKit
set_option synthInstance.maxSize 100000
set_option synthInstance.maxHeartbeats 0
/-! ### paying: the document -/
theorem r_pays31 {s : AState'} {p : List AFlow'} {h : List AHold'} {b t : AUnit'} {n : Int} (ha : ∀ a ∈ asS s, okA1 a) (hl1 : (asS s).length ≤ 1000) (hh : okHs h) (hhl : h.length ≤ 370000) (hf : okF p) (hl : p.length ≤ 700000) (hc : I64 n) (hn0 : 0 ≤ n) :
    ref31_pays (updS s p h) b t n = some (resD s (paysP (asS s) p h b t n)) := by
  show ref31_paysW stdW (updS s p h) b t n = _
  unfold ref31_paysW paysP
  by_cases h0 : n = 0
  · rw [cnd_y (by simp [h0]), if_pos h0]; rfl
  · rw [cnd_n (by simp [h0]), if_neg h0, call_eq (r_sell31 ha hl1 hh hhl hf hl hc)]
    have hok : (sellP (asS s) p h b n).2.2 = 0 → _ := fun he => sell_ok hh hhl hf he
    generalize sellP (asS s) p h b n = r at hok
    obtain ⟨p1, h1, e⟩ := r
    simp only at hok
    by_cases he : e = 0
    · have er : resS s (p1, (h1, e)) = (updS s p1 h1, (0, ())) := if_pos he
      obtain ⟨a1, a2, a3, a4⟩ := hok he
      rw [er, if_pos he]
      show stdW.cnd false _ (stdW.call (ref31_Move (updS s p1 h1) b t n) _) = _
      rw [cnd_n (by rfl), call_eq (r_move31 (s := s) (h := h1) (f := b) (t := t) a1 (by omega) hn0 hc)]
      generalize moveP p1 b t n = M
      obtain ⟨p2, e2, ⟨⟩⟩ := M
      show stdW.cnd ((if e2 = 0 then (updS s p2 h1, ((0 : Int), ())) else (zS, (e2, ()))).2.1 != 0) _ _ = some (resD s (if e2 = 0 then (p2, h1, [(b, (t, (n, ())))], 0) else ([], [], [], e2)))
      by_cases he2 : e2 = 0
      · rw [if_pos he2, if_pos he2, cnd_n (by rfl)]
        exact both_of rfl rfl
      · rw [if_neg he2, if_neg he2]
        show stdW.cnd (e2 != 0) (some (zS, ([], (e2, ())))) _ = _
        rw [cnd_y (by simpa using he2)]
        exact congrArg some (if_neg he2 : resD s ([], [], [], e2) = _).symm
    · have er : resS s (p1, (h1, e)) = (zS, (e, ())) := if_neg he
      rw [er, if_neg he]
      show stdW.cnd (e != 0) (some (zS, ([], (e, ())))) _ = _
      rw [cnd_y (by simpa using he)]
      exact congrArg some (if_neg he : resD s ([], [], [], e) = _).symm
theorem r_pay31 {s : AState'} {p : List AFlow'} {h : List AHold'} {b t : AUnit'} (ha : ∀ a ∈ asS s, okA1 a) (hl1 : (asS s).length ≤ 1000) (hh : okHs h) (hhl : h.length ≤ 370000) (hf : okF p) (hl : p.length ≤ 700000) :
    ref31_Pay (updS s p h) b t = some (resD s (payF (asS s) p h b t)) := by
  show ref31_PayW stdW (updS s p h) b t = _
  unfold ref31_PayW payF
  rw [call_eq (r_owes31 (s := updS s p h) hf (by show p.length ≤ _; omega))]
  have ho := owes_64 hf t
  have hr := room_64 (asS s) p h b
  have e1 : owesP (pu (updS s p h)) t = owesP p t := rfl
  rw [e1]
  clear e1
  generalize owesP p t = o at *
  obtain ⟨n, e, ⟨⟩⟩ := o
  simp only at ho
  show stdW.cnd (e != 0) (some (zS, ([], (e, ())))) (stdW.call (ref31_Room (updS s p h) b) _) = some (resD s (if e = 0 then (if (roomP (asS s) p h b).2.1 = 0 then (if b = t then (p, h, [], 0) else paysP (asS s) p h b t (min n (roomP (asS s) p h b).1)) else ([], [], [], (roomP (asS s) p h b).2.1)) else ([], [], [], e)))
  by_cases he : e = 0
  · rw [cnd_n (by simp [he]), if_pos he, call_eq (r_room31 (s := updS s p h) ha hl1 hh hf (by show p.length ≤ _; omega))]
    have e2 : roomP (asS (updS s p h)) (pu (updS s p h)) (Go.Proofs.YtllkmncnmlmefaaGreat.ho (updS s p h)) b = roomP (asS s) p h b := rfl
    rw [e2]
    clear e2
    generalize roomP (asS s) p h b = r at *
    obtain ⟨m, f, ⟨⟩⟩ := r
    simp only at hr
    show stdW.cnd (f != 0) (some (zS, ([], (f, ())))) (stdW.cnd (notIf false ((b.1 == t.1) && (b.2.1 == t.2.1))) (some (updS s p h, ([], (0, ())))) _) = some (resD s (if f = 0 then (if b = t then (p, h, [], 0) else paysP (asS s) p h b t (min n m)) else ([], [], [], f)))
    by_cases hf0 : f = 0
    · rw [cnd_n (by simp [hf0]), if_pos hf0, unitEq]
      by_cases hu : b = t
      · rw [cnd_y (by simp [hu]), if_pos hu]; rfl
      · rw [cnd_n (by simp [hu]), if_neg hu]
        refine join_g fun k hk => ?_
        have kk : k (min n m, ()) = some (resD s (paysP (asS s) p h b t (min n m))) := by
          subst hk
          show stdW.call (ref31_pays (updS s p h) b t (min n m)) _ = _
          rw [call_eq (r_pays31 ha hl1 hh hhl hf hl (by unfold I64 at *; omega) (by omega))]
        clear hk
        show stdW.cnd (decide (m < n)) (k (m, ())) (k (n, ())) = _
        by_cases hlt : m < n
        · rw [cnd_y (decide_eq_true hlt), ← kk, show min n m = m by omega]
        · rw [cnd_n (decide_eq_false hlt), ← kk, show min n m = n by omega]
    · rw [cnd_y (by simpa using hf0), if_neg hf0]
      exact congrArg some (if_neg hf0 : resD s ([], [], [], f) = _).symm
  · rw [cnd_y (by simpa using he), if_neg he]
    exact congrArg some (if_neg he : resD s ([], [], [], e) = _).symm
theorem r_own31 {s : AState'} {p : List AFlow'} {h : List AHold'} {u : AUnit'} (ha : ∀ a ∈ asS s, okA1 a) (hl1 : (asS s).length ≤ 1000) (hh : okHs h) (hhl : h.length ≤ 370000) (hf : okF p) (hl : p.length ≤ 700000) :
    ref31_Own (updS s p h) u = some (resD s (ownF (asS s) p h u)) := by
  show ref31_OwnW stdW (updS s p h) u = _
  unfold ref31_OwnW ownF
  rw [call_eq (r_owes31 (s := updS s p h) hf (by show p.length ≤ _; omega))]
  have ho := owes_64 hf u
  have e1 : owesP (pu (updS s p h)) u = owesP p u := rfl
  rw [e1]
  clear e1
  generalize owesP p u = o at *
  obtain ⟨n, e, ⟨⟩⟩ := o
  simp only at ho
  show stdW.cnd (e != 0) (some (zS, ([], (e, ())))) (stdW.call (ref31_Sell (updS s p h) u 0) _) = some (resD s (if e = 0 then _ else ([], [], [], e)))
  by_cases he : e = 0
  · rw [cnd_n (by simp [he]), if_pos he, call_eq (r_sell31 ha hl1 hh hhl hf hl (by unfold I64; omega))]
    have hok : (sellP (asS s) p h u 0).2.2 = 0 → _ := fun he => sell_ok hh hhl hf he
    generalize sellP (asS s) p h u 0 = r at hok
    obtain ⟨p1, h1, e2⟩ := r
    simp only at hok
    by_cases he2 : e2 = 0
    · have er : resS s (p1, (h1, e2)) = (updS s p1 h1, (0, ())) := if_pos he2
      obtain ⟨a1, a2, a3, a4⟩ := hok he2
      rw [er, if_pos he2]
      show stdW.cnd false _ (stdW.call (ref31_Owes (updS s p1 h1) u) _) = _
      rw [cnd_n (by rfl), call_eq (r_owes31 (s := updS s p1 h1) a1 (by show p1.length ≤ _; omega))]
      have ho2 := owes_64 a1 u
      have e3 : owesP (pu (updS s p1 h1)) u = owesP p1 u := rfl
      rw [e3]
      generalize owesP p1 u = o2 at *
      obtain ⟨n2, f2, ⟨⟩⟩ := o2
      simp only at ho2
      show stdW.cnd (n2 == n) (some (updS s p1 h1, ([], (0, ())))) (stdW.both (some (updS s p1 h1, ([(u, (u, (IntKind.i64.wrap (n - n2), ())))], (0, ())))) (some (updS s p1 h1, ([(u, (u, (IntKind.i64.wrap (n - n2), ())))], (0, ()))))) = some (resD s (if n = n2 then (p1, h1, [], 0) else (p1, h1, [(u, (u, (n - n2, ())))], 0)))
      by_cases hn : n = n2
      · rw [cnd_y (by simp [hn]), if_pos hn]; rfl
      · have ew : IntKind.i64.wrap (n - n2) = n - n2 := IntWalk.i64_in _ (by unfold I64 at *; omega)
        rw [cnd_n (by simpa using fun h => hn h.symm), if_neg hn, ew]
        exact both_of rfl rfl
    · have er : resS s (p1, (h1, e2)) = (zS, (e2, ())) := if_neg he2
      rw [er, if_neg he2]
      show stdW.cnd (e2 != 0) (some (zS, ([], (e2, ())))) _ = _
      rw [cnd_y (by simpa using he2)]
      exact congrArg some (if_neg he2 : resD s ([], [], [], e2) = _).symm
  · rw [cnd_y (by simpa using he), if_neg he]
    exact congrArg some (if_neg he : resD s ([], [], [], e) = _).symm
end Go.Proofs.YtllkmncnmlmefaaGreat

namespace Go.Proofs.YtllkmncnmlmefaaGreat
open Go Go.Vc Go.RowKit
set_option maxRecDepth 1000000
theorem r_lives31 : law31_lives = some true := by kernel_rfl
end Go.Proofs.YtllkmncnmlmefaaGreat

namespace Go.Proofs.YtllkmncnmlmefaaGreat
open Go Go.Vc Go.RowKit
/-! ### A state of none too many -/
/-! ### The same -/
theorem r_same18x {a : List AAsset'} (hl : a.length ≤ 1000000) : ref18_Same a a = some true := by
  show ref18_SameW stdW a a = _
  unfold ref18_SameW
  rw [cnd_n (by simp)]
  refine loop_list (l := a) (by omega) (s0 := ()) (fun _ _ => True) (fun _ _ => some true) trivial ?_ ?_
  · rintro _ again _
    rw [cnd_end]
  · rintro i hi _ _ again ha
    rw [cnd_lt hi, idx_w hi, idx_w hi, nif_t, cnd_n (by simp)]
    show again (IntKind.i64.wrap ((i : Int) + 1), ()) = _
    rw [i64_s i (by omega)]
    exact ha _ trivial
theorem r_same26 {a : List AHold'} (hh : okHs a) : ref26_Same a a = some true := by
  have hl := hh.2
  show ref26_SameW stdW a a = _
  unfold ref26_SameW
  rw [cnd_n (by simp)]
  refine loop_list (l := a) (by omega) (s0 := ()) (fun _ _ => True) (fun _ _ => some true) trivial ?_ ?_
  · rintro _ again _
    rw [cnd_end]
  · rintro i hi _ _ again ha
    rw [cnd_lt hi]
    refine join_g fun k hk => ?_
    have kk : k (false, ()) = some true := by
      subst hk
      show again (IntKind.i64.wrap ((i : Int) + 1), ()) = _
      rw [i64_s i (by omega)]
      exact ha _ trivial
    clear hk ha
    have h2 := (hh.1 _ (List.getElem_mem hi)).1
    rw [idx_w hi, idx_w hi, nif_t, cnd_n (by simp), idx_w hi, idx_w hi, call_eq (r_same18x (by omega))]
    exact kk
end Go.Proofs.YtllkmncnmlmefaaGreat

namespace Go.Proofs.YtllkmncnmlmefaaGreat
open Go Go.Vc Go.RowKit
/-! ### what is sold and paid keeps to its bounds -/
theorem pays_ok {as : List AAsset'} {p : List AFlow'} {h : List AHold'} {b t : AUnit'} {n : Int} (hh : okHs h) (hl : h.length ≤ 370000) (hf : okF p) (he : (paysP as p h b t n).2.2.2 = 0) :
    (paysP as p h b t n).1.length ≤ p.length + 40 ∧ okHs (paysP as p h b t n).2.1 ∧ (paysP as p h b t n).2.2.1.length ≤ 1 := by
  unfold paysP at he ⊢
  by_cases h0 : n = 0
  · rw [if_pos h0]; exact ⟨by simp, hh, by simp⟩
  · rw [if_neg h0] at he ⊢
    by_cases h1 : (sellP as p h b n).2.2 = 0
    · rw [if_pos h1] at he ⊢
      obtain ⟨_, a2, a3, _⟩ := sell_ok hh hl hf h1
      by_cases h2 : (moveP (sellP as p h b n).1 b t n).2.1 = 0
      · rw [if_pos h2]
        have := (move_okF h2).2
        exact ⟨by show (moveP (sellP as p h b n).1 b t n).1.length ≤ _; omega, a3, by simp⟩
      · rw [if_neg h2] at he; exact absurd he h2
    · rw [if_neg h1] at he; exact absurd he h1
theorem payF_ok {as : List AAsset'} {p : List AFlow'} {h : List AHold'} {b t : AUnit'} (hh : okHs h) (hl : h.length ≤ 370000) (hf : okF p) (he : (payF as p h b t).2.2.2 = 0) :
    (payF as p h b t).1.length ≤ p.length + 40 ∧ okHs (payF as p h b t).2.1 ∧ (payF as p h b t).2.2.1.length ≤ 1 := by
  unfold payF at he ⊢
  by_cases h1 : (owesP p t).2.1 = 0
  · rw [if_pos h1] at he ⊢
    by_cases h2 : (roomP as p h b).2.1 = 0
    · rw [if_pos h2] at he ⊢
      by_cases h3 : b = t
      · rw [if_pos h3]; exact ⟨by simp, hh, by simp⟩
      · rw [if_neg h3] at he ⊢; exact pays_ok hh hl hf he
    · rw [if_neg h2] at he; exact absurd he h2
  · rw [if_neg h1] at he; exact absurd he h1
theorem ownF_ok {as : List AAsset'} {p : List AFlow'} {h : List AHold'} {u : AUnit'} (hh : okHs h) (hl : h.length ≤ 370000) (hf : okF p) (he : (ownF as p h u).2.2.2 = 0) :
    (ownF as p h u).1.length ≤ p.length + 40 ∧ okHs (ownF as p h u).2.1 ∧ (ownF as p h u).2.2.1.length ≤ 1 := by
  unfold ownF at he ⊢
  by_cases h1 : (owesP p u).2.1 = 0
  · rw [if_pos h1] at he ⊢
    by_cases h2 : (sellP as p h u 0).2.2 = 0
    · rw [if_pos h2] at he ⊢
      obtain ⟨_, a2, a3, _⟩ := sell_ok hh hl hf h2
      by_cases h3 : (owesP p u).1 = (owesP (sellP as p h u 0).1 u).1
      · rw [if_pos h3]; exact ⟨by show (sellP as p h u 0).1.length ≤ _; omega, a3, by simp⟩
      · rw [if_neg h3]; exact ⟨by show (sellP as p h u 0).1.length ≤ _; omega, a3, by simp⟩
    · rw [if_neg h2] at he; exact absurd he h2
  · rw [if_neg h1] at he; exact absurd he h1
/-! ### the same -/
theorem r_same31 {s : AState'} (hp : (pu s).length ≤ 1000000) (hh : okHs (ho s)) : ref31_Same s s = some true := by
  show ref31_SameW stdW s s = _
  unfold ref31_SameW
  show stdW.call (ref17_Same (pu s) (pu s)) _ = _
  rw [call_eq (r_same hp), cnd_y (by rfl)]
  show stdW.call (ref26_Same (ho s) (ho s)) _ = _
  rw [call_eq (r_same26 hh)]
theorem r_sameD {d : List ADebit2} (hl : d.length ≤ 1000000) : ref31_SameDebits d d = some true := by
  show ref31_SameDebitsW stdW d d = _
  unfold ref31_SameDebitsW
  rw [cnd_n (by simp)]
  refine loop_n (N := d.length) (by omega) (fun _ _ => True) (some true) trivial ?_ ?_
  · rintro _ again _
    rw [cnd_end]
  · rintro i hi _ _ again ha
    rw [cnd_lt hi, idx_w hi, idx_w hi, nif_t, cnd_n (by simp)]
    show again (IntKind.i64.wrap ((i : Int) + 1), ()) = _
    rw [i64_s i (by omega)]
    exact ha _ trivial
theorem resS_same {s : AState'} {r : PH} (hr : r.2.2 = 0 → r.1.length ≤ 1000000 ∧ okHs r.2.1) : ref31_Same (resS s r).1 (resS s r).1 = some true := by
  unfold resS
  split
  · next h => exact r_same31 (hr h).1 (hr h).2
  · exact r_same31 (by simp [pu, zS]) okHs_nil
theorem resD_same {s : AState'} {r : PHD} (hr : r.2.2.2 = 0 → r.1.length ≤ 1000000 ∧ okHs r.2.1 ∧ r.2.2.1.length ≤ 1) : ref31_Same (resD s r).1 (resD s r).1 = some true ∧ ref31_SameDebits (resD s r).2.1 (resD s r).2.1 = some true := by
  unfold resD
  split
  · next h => exact ⟨r_same31 (hr h).1 (hr h).2.1, r_sameD (by show r.2.2.1.length ≤ 1000000; have := (hr h).2.2; omega)⟩
  · exact ⟨r_same31 (by simp [pu, zS]) okHs_nil, r_sameD (by simp)⟩
/-! ### few assets -/
theorem r_is12 {a : AAsset'} : ∃ b, ref12_Is a = some b ∧ (b = true → okA1 a) := by
  show ∃ b, ref12_IsW stdW a = some b ∧ _
  unfold ref12_IsW
  by_cases h1 : 0 < a.1
  · rw [cnd_y (decide_eq_true h1)]
    by_cases h2 : a.1 < 5
    · rw [cnd_y (decide_eq_true h2)]
      by_cases h3 : 0 ≤ a.2.1
      · rw [cnd_y (decide_eq_true h3)]
        by_cases h4 : a.2.1 < 2147483648
        · rw [cnd_y (decide_eq_true h4)]
          by_cases h5 : 0 ≤ a.2.2.1
          · rw [cnd_y (decide_eq_true h5)]
            exact ⟨_, rfl, fun h => by
              have := of_decide_eq_true h
              unfold okA1; omega⟩
          · rw [cnd_n (decide_eq_false h5)]; exact ⟨_, rfl, fun h => by cases h⟩
        · rw [cnd_n (decide_eq_false h4)]; exact ⟨_, rfl, fun h => by cases h⟩
      · rw [cnd_n (decide_eq_false h3)]; exact ⟨_, rfl, fun h => by cases h⟩
    · rw [cnd_n (decide_eq_false h2)]; exact ⟨_, rfl, fun h => by cases h⟩
  · rw [cnd_n (decide_eq_false h1)]; exact ⟨_, rfl, fun h => by cases h⟩
theorem r_put12 {l : List AAsset'} {i : AAsset'} (hl : l.length ≤ 1000) : ∃ r e, ref12_Put l i = some (r, (e, ())) ∧ (e = 0 → okA1 i ∧ (∀ x ∈ r, x ∈ l ∨ x = i) ∧ r.length ≤ l.length + 1) := by
  show ∃ r e, ref12_PutW stdW l i = some (r, (e, ())) ∧ _
  unfold ref12_PutW
  obtain ⟨b, hb, hbo⟩ := r_is12 (a := i)
  have e0 : ref12_Is (i.1, (i.2.1, (i.2.2.1, ()))) = some b := hb
  rw [call_eq (show ref12_IsW stdW i = some b from e0)]
  cases b with
  | false => rw [cnd_y (by decide)]; exact ⟨[], 2, rfl, by simp⟩
  | true =>
    rw [cnd_n (by decide)]
    show ∃ r e, stdW.call (ref12_Find l i.1) _ = some (r, (e, ())) ∧ _
    rw [call_eq (r_asFind12 hl)]
    by_cases hf : (findA l i.1).2.1 = true
    · rw [cnd_y hf]; exact ⟨[], 12, rfl, by simp⟩
    · rw [cnd_n (by simpa using hf), join_w]
      refine loop_P (fun o => ∃ (r : List AAsset') (e : Int), o = some (r, (e, ())) ∧ (e = 0 → okA1 i ∧ (∀ x ∈ r, x ∈ l ∨ x = i) ∧ r.length ≤ l.length + 1)) (fun z => l.length + 1 - z.1.toNat) (fun z => ∃ j : Nat, j ≤ l.length ∧ z = ((j : Int), ())) ⟨0, Nat.zero_le _, rfl⟩ (by show _ - (0 : Int).toNat < _; omega) ?_
      rintro _ ⟨j, hj, rfl⟩ again ha
      have fin : ∃ (r : List AAsset') (e : Int), stdW.bnd (j : Int) l.length (fun h4 => stdW.room (l.take h4).length 24 (stdW.room ((l.take h4).length + (i :: ([] : List AAsset')).length) 24 (stdW.bnd (j : Int) l.length fun h5 => stdW.room (((l.take h4) ++ (i :: ([] : List AAsset'))).length + ((l.take l.length).drop h5).length) 24 (some ((((l.take h4) ++ (i :: ([] : List AAsset'))) ++ ((l.take l.length).drop h5)), ((0 : Int), ())))))) = some (r, (e, ())) ∧ (e = 0 → okA1 i ∧ (∀ x ∈ r, x ∈ l ∨ x = i) ∧ r.length ≤ l.length + 1) := by
        rw [bnd_w (by omega) (by omega), Int.toNat_natCast]
        have l1 : (l.take j).length ≤ 1000 := by rw [List.length_take]; omega
        rw [room_w (by omega) (by omega), room_w (by simp only [List.length_cons, List.length_nil]; omega) (by simp only [List.length_cons, List.length_nil]; omega), bnd_w (by omega) (by omega), Int.toNat_natCast, List.take_length,
          room_w (by simp only [List.length_append, List.length_drop, List.length_cons, List.length_nil]; omega) (by simp only [List.length_append, List.length_drop, List.length_cons, List.length_nil]; omega)]
        refine ⟨_, _, rfl, fun _ => ⟨hbo rfl, fun x hx => ?_, by simp only [List.length_append, List.length_drop, List.length_cons, List.length_nil, List.length_take]; omega⟩⟩
        rcases List.mem_append.1 hx with hx | hx
        · rcases List.mem_append.1 hx with hx | hx
          · exact .inl (List.mem_of_mem_take hx)
          · simp only [List.mem_singleton] at hx
            exact .inr hx
        · exact .inl (List.mem_of_mem_drop hx)
      show ∃ r e, stdW.cnd (decide ((j : Int) < (l.length : Int))) _ _ = _ ∧ _
      by_cases h : j < l.length
      · rw [cnd_lt h]
        show ∃ r e, stdW.idx l (j : Int) _ = _ ∧ _
        rw [idx_w h]
        by_cases h1 : l[j].1 < i.1
        · rw [cnd_y (decide_eq_true h1)]
          show ∃ r e, again (IntKind.i64.wrap ((j : Int) + 1), ()) = _ ∧ _
          rw [i64_s j (by omega)]
          exact ha _ ⟨j + 1, by omega, rfl⟩ (by show _ - ((j + 1 : Nat) : Int).toNat < _ - ((j : Nat) : Int).toNat; omega)
        · rw [cnd_n (decide_eq_false h1)]; exact fin
      · have : j = l.length := by omega
        subst this
        rw [cnd_end]; exact fin
theorem r_table12 {l : List AAsset'} (hl : l.length ≤ 9223372036854775807) : ∃ t, ref12_Table l = some t ∧ (∀ a ∈ t, okA1 a) ∧ t.length ≤ 8 := by
  show ∃ t, ref12_TableW stdW l = some t ∧ _
  unfold ref12_TableW
  rw [join_w]
  refine loop_P (fun o => ∃ t : List AAsset', o = some t ∧ (∀ a ∈ t, okA1 a) ∧ t.length ≤ 8) (fun z => l.length + 1 - z.2.1.toNat) (fun z => ∃ (j : Nat) (acc : List AAsset'), j ≤ l.length ∧ j ≤ 8 ∧ acc.length ≤ j ∧ (∀ a ∈ acc, okA1 a) ∧ z = (acc, ((j : Int), ()))) ⟨0, [], Nat.zero_le _, Nat.zero_le _, Nat.le_refl _, by simp, rfl⟩ (by show _ - (0 : Int).toNat < _; omega) ?_
  rintro _ ⟨j, acc, hj, hj10, hacc, hok, rfl⟩ again ha
  have fin : ∃ t, (some acc : Option (List AAsset')) = some t ∧ (∀ a ∈ t, okA1 a) ∧ t.length ≤ 8 := ⟨acc, rfl, hok, by omega⟩
  show ∃ t, stdW.cnd (decide ((j : Int) < (l.length : Int))) (stdW.cnd (decide ((j : Int) < 8)) _ _) _ = some t ∧ _
  by_cases h : j < l.length
  · rw [cnd_lt h]
    by_cases h10 : j < 8
    · rw [cnd_y (decide_eq_true (by omega)), join_w]
      show ∃ t, stdW.idx l (j : Int) _ = some t ∧ _
      rw [idx_w h]
      obtain ⟨r, e, hp, hr⟩ := r_put12 (l := acc) (i := l[j]) (by omega)
      have nxt : ∀ a : List AAsset', a.length ≤ j + 1 → (∀ x ∈ a, okA1 x) → ∃ t, again (a, (IntKind.i64.wrap ((j : Int) + 1), ())) = some t ∧ (∀ a ∈ t, okA1 a) ∧ t.length ≤ 8 := by
        intro a h1 h2
        rw [i64_s j (by omega)]
        exact ha _ ⟨j + 1, a, by omega, by omega, h1, h2, rfl⟩ (by show _ - ((j + 1 : Nat) : Int).toNat < _ - ((j : Nat) : Int).toNat; omega)
      show ∃ t, stdW.call (ref12_Put acc l[j]) _ = some t ∧ _
      rw [call_eq hp]
      by_cases he : e = 0
      · obtain ⟨h0, h1, h2⟩ := hr he
        rw [cnd_y (by simpa using he)]
        exact nxt r (by omega) (fun x hx => (h1 x hx).elim (hok x) fun h3 => h3 ▸ h0)
      · rw [cnd_n (by simpa using he)]
        exact nxt acc (by omega) hok
    · rw [cnd_n (decide_eq_false (by omega))]; exact fin
  · have : j = l.length := by omega
    subst this
    rw [cnd_end]; exact fin
end Go.Proofs.YtllkmncnmlmefaaGreat

namespace Go.Proofs.YtllkmncnmlmefaaGreat
open Go Go.Vc Go.RowKit
/-! ### A state of none too many -/
structure Few31 (s t : AState') : Prop where
  a : ∀ a ∈ asS t, okA1 a
  aL : (asS t).length ≤ 8
  c : okTab (s.2.2.2.2.1.map short25) t.2.2.2.2.1 ∨ True
  p : pu t = (pu s).take 20
  h : ho t = few26 (ho s)
theorem r_few31 {s : AState'} (h1 : (asS s).length ≤ 9223372036854775807) (h3l : s.2.2.2.2.1.length ≤ 9223372036854775807) (h3 : ∀ a ∈ s.2.2.2.2.1, a.2.2.2.1.length ≤ 9223372036854775807)
    (h6 : (pu s).length ≤ 9223372036854775807) (h7 : (ho s).length ≤ 9223372036854775807) (h7m : ∀ p ∈ ho s, p.2.1.length ≤ 9223372036854775807) :
    ∃ t, law31_Few s = some t ∧ Few31 s t := by
  show ∃ t, law31_FewW stdW s = _ ∧ _
  unfold law31_FewW
  rw [join_w]
  obtain ⟨t12, e12, g12, g12l⟩ := r_table12 h1
  have e12' : ref12_Table s.2.2.2.1 = some t12 := e12
  have e17 : law17_Few s.2.2.2.2.2.2.2.2.2.2.1 = some ((pu s).take 20) := r_few17 _ h6
  have e26 : law26_Few s.2.2.2.2.2.2.2.2.2.2.2.1 = some (few26 (ho s)) := r_few26 h7 h7m
  have h3' : ∀ i (h : i < s.2.2.2.2.1.length), s.2.2.2.2.1[i].2.2.2.1.length ≤ 9223372036854775807 := fun i h => h3 _ (List.getElem_mem h)
  generalize s.2.2.2.2.1 = l at *
  refine loop_P (fun o => ∃ t : AState', o = some t ∧ Few31 s t) (fun z => l.length + 1 - z.1.toNat)
    (fun z => ∃ (j : Nat) (acc : List AAccount'), j ≤ l.length ∧ j ≤ 20 ∧ acc.length ≤ j ∧ (∀ a ∈ acc, a.2.2.2.1.length ≤ 20) ∧ z = ((j : Int), (acc, ()))) ⟨0, [], Nat.zero_le _, Nat.zero_le _, Nat.le_refl _, by simp, rfl⟩ (by show _ - (0 : Int).toNat < _; omega) ?_
  rintro _ ⟨j, acc, hj, hj20, hacc, hok, rfl⟩ again ha
  have fin : ∃ t : AState', (stdW.call (ref12_Table s.2.2.2.1) fun v2 => stdW.call (ref15_Table acc) fun v3 => stdW.call (law17_Few s.2.2.2.2.2.2.2.2.2.2.1) fun v4 => stdW.call (law26_Few s.2.2.2.2.2.2.2.2.2.2.2.1) fun v5 => some ((0 : Int), (([] : List AMember'), (([] : List AInst'), (v2, (v3, (([] : List AChoice'), (([] : List AGroup'), (([] : List AGive'), (([] : List APos'), (([] : List APos'), (v4, (v5, ()))))))))))))) = some t ∧ Few31 s t := by
    obtain ⟨t15, e15, g1⟩ := r_table15 (l := acc) (fun x hx => by have := hok x hx; omega) (by omega)
    rw [call_eq e12', call_eq e15, call_eq e17, call_eq e26]
    exact ⟨_, rfl, g12, g12l, .inr trivial, rfl, rfl⟩
  show ∃ t : AState', stdW.cnd (decide ((j : Int) < (l.length : Int))) (stdW.cnd (decide ((j : Int) < 20)) _ _) _ = _ ∧ _
  by_cases h : j < l.length
  · rw [cnd_lt h]
    by_cases h20 : j < 20
    · rw [cnd_y (decide_eq_true (by omega))]
      show ∃ t : AState', stdW.idx l (j : Int) _ = _ ∧ _
      rw [idx_w h]
      show ∃ t : AState', stdW.call (law25_Short l[j]) _ = _ ∧ _
      rw [call_eq (show law25_Short l[j] = some (short25 l[j]) from r_short (h3' j h))]
      show ∃ t : AState', stdW.room (acc.length + 1) 48 (again (IntKind.i64.wrap ((j : Int) + 1), (acc ++ [short25 l[j]], ()))) = _ ∧ _
      rw [room_w (by omega) (by omega), i64_s j (by omega)]
      refine ha _ ⟨j + 1, acc ++ [short25 l[j]], by omega, by omega, by simp; omega, fun a hm => ?_, rfl⟩ (by show _ - ((j + 1 : Nat) : Int).toNat < _ - ((j : Nat) : Int).toNat; omega)
      rcases List.mem_append.1 hm with hm | hm
      · exact hok a hm
      · simp only [List.mem_singleton] at hm; subst hm
        show (l[j].2.2.2.1.take 20).length ≤ 20
        rw [List.length_take]; omega
    · rw [cnd_n (decide_eq_false (by omega))]; exact fin
  · have : j = l.length := by omega
    subst this
    rw [cnd_end]; exact fin
/-- what the laws of the fall know of their few -/
structure OkS (t : AState') : Prop where
  a : ∀ a ∈ asS t, okA1 a
  aL : (asS t).length ≤ 8
  f : okF (pu t)
  fL : (pu t).length ≤ 20
  h : okHs (ho t)
  hL : (ho t).length ≤ 10
theorem sells_plain {s t : AState'} {u : AUnit'} {cash : Int} (e : law31_Few s = some t) (O : OkS t) (hc : I64 cash) : law31_FallSellsW stdW s u cash = some true := by
  unfold law31_FallSellsW
  rw [call_eq e, call_eq (r_owes O.f (by have := O.fL; omega)), call_eq (r_owes31 O.f (by have := O.fL; omega))]
  have aL := O.aL; have fL := O.fL; have hL := O.hL
  rw [call_eq (r_room O.a (by omega) O.h O.f (by omega)), call_eq (r_room31 O.a (by omega) O.h O.f (by omega))]
  have e1 := r_sell (s := t) (u := u) O.a (by omega) O.h (by omega) O.f (by omega) hc
  have e2 := r_sell31 (s := t) (u := u) O.a (by omega) O.h (by omega) O.f (by omega) hc
  rw [upd_self] at e1 e2
  rw [call_eq e1, call_eq e2, cnd_y (by simp), cnd_y (by simp), cnd_y (by simp), cnd_y (by simp)]
  rw [call_eq (resS_same fun he => by
    have := sell_ok O.h (by omega) O.f he
    exact ⟨by omega, this.2.2.1⟩), cnd_y (by rfl), cnd_y (by simp), call_eq r_treasury, cnd_y (by rfl), call_eq r_fund, cnd_y (by rfl), call_eq r_lives31]
theorem pays_plain {s t : AState'} {b u : AUnit'} (e : law31_Few s = some t) (O : OkS t) : law31_FallPaysW stdW s b u = some true := by
  unfold law31_FallPaysW
  have aL := O.aL; have fL := O.fL; have hL := O.hL
  have e1 := r_fPay (s := t) (b := b) (t := u) O.a (by omega) O.h (by omega) O.f (by omega)
  have e2 := r_pay31 (s := t) (b := b) (t := u) O.a (by omega) O.h (by omega) O.f (by omega)
  have e3 := r_fOwn (s := t) (u := u) O.a (by omega) O.h (by omega) O.f (by omega)
  have e4 := r_own31 (s := t) (u := u) O.a (by omega) O.h (by omega) O.f (by omega)
  rw [upd_self] at e1 e2 e3 e4
  have s1 := resD_same (s := t) (r := payF (asS t) (pu t) (ho t) b u) fun he => by
    have := payF_ok O.h (by omega) O.f he
    exact ⟨by omega, this.2.1, this.2.2⟩
  have s2 := resD_same (s := t) (r := ownF (asS t) (pu t) (ho t) u) fun he => by
    have := ownF_ok O.h (by omega) O.f he
    exact ⟨by omega, this.2.1, this.2.2⟩
  rw [call_eq e, call_eq e1, call_eq e2, call_eq e3, call_eq e4, call_eq s1.1, cnd_y (by rfl), call_eq s1.2, cnd_y (by rfl), cnd_y (by simp), call_eq s2.1, cnd_y (by rfl), call_eq s2.2, cnd_y (by rfl), cnd_y (by simp), call_eq r_lives31]
end Go.Proofs.YtllkmncnmlmefaaGreat
