import Derived.Test.YtllkmncnmlmefaaGreatB5
namespace Go.Proofs.YtllkmncnmlmefaaGreat
open Go Go.Vc Go.RowKit
theorem r_nat (u : Nat) (hu : u < 18446744073709551616) : ref01_Nat (u : Int) = some (bigS false u) := nat_is u hu
theorem r_plus {xs ys : List Int} (hx : Nrm xs) (hy : Nrm ys) (lx : xs.length ≤ 1000) (ly : ys.length ≤ 1000) : ref01_plus xs ys = some (bitsOf (valB xs + valB ys)) := plus_is hx hy lx ly
theorem r_less {xs ys : List Int} (hx : Nrm xs) (hy : Nrm ys) (lx : xs.length ≤ 1000) (ly : ys.length ≤ 1000) : ref01_less xs ys = some (decide (valB xs < valB ys)) := less_is hx hy lx ly
theorem r_minus {xs ys : List Int} (hx : Nrm xs) (hy : Nrm ys) (lx : xs.length ≤ 1000) (hle : valB ys ≤ valB xs) : ref01_minus xs ys = some (bitsK xs.length (valB xs - valB ys)) := minus_is hx hy lx hle
theorem r_trim {g : Bool} {xs : List Int} (h : bitL xs) (lx : xs.length ≤ 1000) : ref01_trim g xs = some (bigS g (valB xs)) := trim_is h lx
end Go.Proofs.YtllkmncnmlmefaaGreat

namespace Go.Proofs.YtllkmncnmlmefaaGreat
open Go Go.Vc Go.RowKit
theorem bits_len_le {n k K : Nat} (h : n < 2 ^ k) (hk : k ≤ K) : (bitsOf n).length ≤ K := Nat.le_trans (bits_len k n h) hk
theorem pw {a b k : Nat} (ha : a < 2 ^ k) (hb : b < 2 ^ k) : a + b < 2 ^ (k + 1) := by rw [Nat.pow_succ]; omega
theorem call_eq {α β : Type} {o : Option α} {a : α} (h : o = some a) (K : α → Option β) : stdW.call o K = K a := by subst h; rfl
theorem valB_lt' {xs : List Int} (h : Nrm xs) {k : Nat} (hl : xs.length ≤ k) : valB xs < 2 ^ k := Nat.lt_of_lt_of_le (valB_lt xs h.bits) (Nat.pow_le_pow_right (by omega) hl)
theorem sum_len {a b : List Int} (ha : Nrm a) (hb : Nrm b) {k : Nat} (la : a.length ≤ k) (lb : b.length ≤ k) : (bitsOf (valB a + valB b)).length ≤ k + 1 := bits_len_le (pw (valB_lt' ha la) (valB_lt' hb lb)) (Nat.le_refl _)
theorem r_add {x y : BigT} (hx : Nb x) (hy : Nb y) (lx : x.2.1.length ≤ 900) (ly : y.2.1.length ≤ 900) : ref01_Add x y = some (big (bv x + bv y)) := by
  show ref01_AddW stdW x y = _
  have nx := nb_nrm hx
  have ny := nb_nrm hy
  unfold ref01_AddW
  have eta : ∀ z : BigT, (some (z.1, (z.2.1, ())) : Option BigT) = some z := fun z => rfl
  by_cases h : x.1 = y.1
  · have e : notIf false (x.1 == y.1) = true := by simp [notIf, h]
    have hs : (bitsOf (valB x.2.1 + valB y.2.1)).length ≤ 1000 := Nat.le_trans (sum_len nx ny lx ly) (by omega)
    rw [e]
    show (stdW.call _ _ : Option BigT) = _
    rw [call_eq (r_plus nx ny (by omega) (by omega)), call_eq (r_trim (bitL_bits _) hs), eta, add_same h]
  · have e : notIf false (x.1 == y.1) = false := by simp [notIf, h]
    rw [e]
    show (stdW.call _ _ : Option BigT) = _
    rw [call_eq (r_less nx ny (by omega) (by omega))]
    by_cases hl : valB x.2.1 < valB y.2.1
    · rw [decide_eq_true hl]
      show (stdW.call _ _ : Option BigT) = _
      rw [call_eq (r_minus ny nx (by omega) (by omega)), call_eq (r_trim (bitL_K _ _) (by rw [len_K]; omega)), eta, add_less ny h hl]
    · rw [decide_eq_false hl]
      show (stdW.call _ _ : Option BigT) = _
      rw [call_eq (r_minus nx ny (by omega) (by omega)), call_eq (r_trim (bitL_K _ _) (by rw [len_K]; omega)), eta, add_more nx h hl]
end Go.Proofs.YtllkmncnmlmefaaGreat


namespace Go.Proofs.YtllkmncnmlmefaaGreat
open Go Go.Vc Go.RowKit
/-! ### numbers of 128 bits, by their values -/
def wv (w : WideWide') : Int := w.1 * 18446744073709551616 + w.2.1
def wOk (w : WideWide') : Prop := (-9223372036854775808 ≤ w.1 ∧ w.1 ≤ 9223372036854775807) ∧ (0 ≤ w.2.1 ∧ w.2.1 < 18446744073709551616)
def wide (z : Int) : WideWide' := (z / 18446744073709551616, z % 18446744073709551616, ())
def In128 (z : Int) : Prop := -170141183460469231731687303715884105728 ≤ z ∧ z < 170141183460469231731687303715884105728
instance (z : Int) : Decidable (In128 z) := by unfold In128; infer_instance
theorem wv_wide (z : Int) : wv (wide z) = z := by unfold wide wv; simp only; omega
theorem wv_in (w : WideWide') (h : wOk w) : In128 (wv w) := by unfold wOk at h; unfold In128 wv; omega
theorem wide_ok (z : Int) (h : In128 z) : wOk (wide z) := by unfold In128 at h; unfold wOk wide; simp only; omega
theorem wide_inj {a b : Int} (h : wide a = wide b) : a = b := by rw [← wv_wide a, h, wv_wide]
theorem shr63 (n : Int) (h : -9223372036854775808 ≤ n ∧ n ≤ 9223372036854775807) : n.fdiv (2 ^ min (Int.toNat 63) IntKind.i64.bits) = n / 18446744073709551616 := by
  have e : (2 : Int) ^ min (Int.toNat 63) IntKind.i64.bits = 9223372036854775808 := by decide +kernel
  rw [e, Int.fdiv_eq_ediv_of_nonneg _ (by omega)]; omega
def fit (z : Int) : WideWide' × Int × Unit := if In128 z then (wide z, 0, ()) else ((0, 0, ()), 7, ())
def I64 (n : Int) : Prop := -9223372036854775808 ≤ n ∧ n ≤ 9223372036854775807
theorem i64_128 {n : Int} (h : I64 n) : In128 n := by unfold I64 at h; unfold In128; omega
theorem r_wOf (n : Int) (h : I64 n) : wide_Of n = some (wide n) := by
  show wide_OfW stdW n = _
  unfold wide_OfW
  rw [nn_w (by omega), shr63 n h, IntKind.wrap_u64]; rfl
/-! a running sum -/
def totT (V : Int) : Int × Int × Int × Unit := (V / 340282366920938463463374607431768211456, IntKind.i64.wrap (V / 18446744073709551616), V % 18446744073709551616, ())
def InTot (V : Int) : Prop := -1569275433846670190958947355801916604025588861116008628224 ≤ V ∧ V < 1569275433846670190958947355801916604025588861116008628224
theorem wrap_wrap_u (z : Int) : IntKind.u64.wrap (IntKind.i64.wrap z) = z % 18446744073709551616 := by
  rw [IntKind.wrap_u64, IntKind.wrap_i64]; omega
theorem wrap_mod_i (z : Int) : IntKind.i64.wrap (z % 18446744073709551616) = IntKind.i64.wrap z := by
  rw [IntKind.wrap_i64, IntKind.wrap_i64]; omega
theorem tot_next (V x y : Int) (hV : InTot V) (hx : -9223372036854775808 ≤ x ∧ x ≤ 9223372036854775807) (hy : 0 ≤ y ∧ y < 18446744073709551616) :
    ((IntKind.i64.wrap (V / 340282366920938463463374607431768211456 + IntKind.i64.wrap (x.fdiv (2 ^ min (Int.toNat 63) IntKind.i64.bits) + IntKind.i64.wrap ((IntKind.u64.wrap (IntKind.i64.wrap (V / 18446744073709551616)) + IntKind.u64.wrap x + (V % 18446744073709551616 + y + 0) / 18446744073709551616) / 18446744073709551616))),
      IntKind.i64.wrap ((IntKind.u64.wrap (IntKind.i64.wrap (V / 18446744073709551616)) + IntKind.u64.wrap x + (V % 18446744073709551616 + y + 0) / 18446744073709551616) % 18446744073709551616),
      (V % 18446744073709551616 + y + 0) % 18446744073709551616, ()) : Int × Int × Int × Unit) = totT (V + (x * 18446744073709551616 + y)) := by
  unfold InTot at hV
  rw [wrap_wrap_u, wrap_mod_i, shr63 x hx, IntKind.wrap_u64]
  have e1 : (V + (x * 18446744073709551616 + y)) / 18446744073709551616 = V / 18446744073709551616 + x + (V % 18446744073709551616 + y + 0) / 18446744073709551616 := by omega
  have e0 : (V + (x * 18446744073709551616 + y)) / 340282366920938463463374607431768211456 = (V / 18446744073709551616 + x + (V % 18446744073709551616 + y + 0) / 18446744073709551616) / 18446744073709551616 := by omega
  have e3 : V / 340282366920938463463374607431768211456 = V / 18446744073709551616 / 18446744073709551616 := by omega
  unfold totT
  rw [e1, e0, e3]
  have hc : 0 ≤ (V % 18446744073709551616 + y + 0) / 18446744073709551616 ∧ (V % 18446744073709551616 + y + 0) / 18446744073709551616 ≤ 1 := by omega
  generalize (V % 18446744073709551616 + y + 0) / 18446744073709551616 = c at *
  have hu : -92233720368547758080000000000000000000 ≤ V / 18446744073709551616 ∧ V / 18446744073709551616 < 92233720368547758080000000000000000000 := by omega
  generalize V / 18446744073709551616 = u at *
  have f1 : (V + (x * 18446744073709551616 + y)) % 18446744073709551616 = (V % 18446744073709551616 + y + 0) % 18446744073709551616 := by omega
  rw [f1]
  have g2 : (u % 18446744073709551616 + x % 18446744073709551616 + c) / 18446744073709551616 ≤ 2 ∧ 0 ≤ (u % 18446744073709551616 + x % 18446744073709551616 + c) / 18446744073709551616 := by omega
  have g1 : IntKind.i64.wrap ((u % 18446744073709551616 + x % 18446744073709551616 + c) / 18446744073709551616) = (u % 18446744073709551616 + x % 18446744073709551616 + c) / 18446744073709551616 := IntWalk.i64_in _ (by omega)
  rw [g1]
  have g3 : IntKind.i64.wrap (x / 18446744073709551616 + (u % 18446744073709551616 + x % 18446744073709551616 + c) / 18446744073709551616) = x / 18446744073709551616 + (u % 18446744073709551616 + x % 18446744073709551616 + c) / 18446744073709551616 := IntWalk.i64_in _ (by omega)
  rw [g3]
  have g4 : u / 18446744073709551616 + (x / 18446744073709551616 + (u % 18446744073709551616 + x % 18446744073709551616 + c) / 18446744073709551616) = (u + x + c) / 18446744073709551616 := by omega
  rw [g4]
  have g5 : IntKind.i64.wrap ((u + x + c) / 18446744073709551616) = (u + x + c) / 18446744073709551616 := IntWalk.i64_in _ (by omega)
  rw [g5]
  have g6 : IntKind.i64.wrap (u % 18446744073709551616 + x % 18446744073709551616 + c) = IntKind.i64.wrap (u + x + c) := by rw [IntKind.wrap_i64, IntKind.wrap_i64]; omega
  rw [g6]
theorem add64_is {x y c : Int} (hx : 0 ≤ x) (hy : 0 ≤ y) (hc0 : 0 ≤ c) (hc : c ≤ 1) : add64 x y c = some ((x + y + c) % 18446744073709551616, (x + y + c) / 18446744073709551616, ()) := by unfold add64; rw [if_pos ⟨hx, hy, hc0, hc⟩]
theorem sub64_is {x y b : Int} (hx : 0 ≤ x) (hy : 0 ≤ y) (hy2 : y < 18446744073709551616) (hb0 : 0 ≤ b) (hb : b ≤ 1) : sub64 x y b = some ((x - y - b) % 18446744073709551616, if x < y + b then 1 else 0, ()) := by unfold sub64; rw [if_pos ⟨hx, hy, hy2, hb0, hb⟩]
theorem r_tadd (V : Int) (x : WideWide') (hV : InTot V) (hx : wOk x) : wide_total_add (totT V).1 (totT V).2.1 (totT V).2.2.1 x = some ((), totT (V + wv x)) := by
  unfold wOk at hx
  show wide_total_addW stdW (V / 340282366920938463463374607431768211456) (IntKind.i64.wrap (V / 18446744073709551616)) (V % 18446744073709551616) x = _
  unfold wide_total_addW wv
  rw [← tot_next V x.1 x.2.1 hV hx.1 hx.2]
  have hV' := hV
  unfold InTot at hV'
  rw [call_eq (add64_is (by omega) (by omega) (by omega) (by omega)), call_eq (add64_is (by rw [IntKind.wrap_u64]; omega) (by rw [IntKind.wrap_u64]; omega) (by show 0 ≤ (V % 18446744073709551616 + x.2.1 + 0) / 18446744073709551616; omega) (by show (V % 18446744073709551616 + x.2.1 + 0) / 18446744073709551616 ≤ 1; omega)), nn_w (by omega)]
theorem tot_fits (V : Int) (hV : InTot V) : (V / 340282366920938463463374607431768211456 == (IntKind.i64.wrap (V / 18446744073709551616)).fdiv (2 ^ min (Int.toNat 63) IntKind.i64.bits)) = decide (In128 V) := by
  have hr : -9223372036854775808 ≤ IntKind.i64.wrap (V / 18446744073709551616) ∧ IntKind.i64.wrap (V / 18446744073709551616) ≤ 9223372036854775807 := by
    rw [IntKind.wrap_i64]; omega
  rw [shr63 _ hr]
  unfold InTot at hV
  by_cases h : In128 V
  · rw [decide_eq_true h]
    unfold In128 at h
    rw [IntWalk.i64_in _ (by omega)]
    first | (simp; done) | (simp; omega) | skip
  · rw [decide_eq_false h]
    unfold In128 at h
    rw [IntKind.wrap_i64]
    simp; omega
theorem r_ranged (w : WideWide') (ok : Bool) : wide_ranged w ok = some (if ok = true then (w, 0, ()) else ((0, 0, ()), 7, ())) := by
  show wide_rangedW stdW w ok = _
  unfold wide_rangedW
  cases ok <;> rfl
theorem r_tdone (V : Int) (hV : InTot V) : wide_total_done (totT V).1 (totT V).2.1 (totT V).2.2.1 = some (fit V, totT V) := by
  show wide_total_doneW stdW _ _ _ = _
  unfold wide_total_doneW
  rw [nn_w (by omega), call_eq (r_ranged _ _)]
  have := tot_fits V hV
  show some ((if (V / 340282366920938463463374607431768211456 == (IntKind.i64.wrap (V / 18446744073709551616)).fdiv (2 ^ min (Int.toNat 63) IntKind.i64.bits)) = true then _ else _), _) = _
  rw [this]
  unfold fit
  by_cases h : In128 V
  · rw [if_pos (decide_eq_true h), if_pos h]
    have e : IntKind.i64.wrap (V / 18446744073709551616) = V / 18446744073709551616 := by unfold In128 at h; exact IntWalk.i64_in _ (by omega)
    show some (((IntKind.i64.wrap (V / 18446744073709551616), V % 18446744073709551616, ()), 0, ()), _) = _
    rw [e]; rfl
  · rw [decide_eq_false h, if_neg (by simp), if_neg h]
def sumW (l : List WideWide') : Int := (l.map wv).sum
theorem sumW_in : ∀ (l : List WideWide'), (∀ w ∈ l, wOk w) → -(170141183460469231731687303715884105728 * (l.length : Int)) ≤ sumW l ∧ sumW l ≤ 170141183460469231731687303715884105728 * (l.length : Int)
  | [], _ => by simp [sumW]
  | x :: l, h => by
    have h1 := wv_in x (h x (by simp))
    have h2 := sumW_in l fun w hw => h w (by simp [hw])
    unfold In128 at h1
    simp only [sumW, List.map_cons, List.sum_cons, List.length_cons] at h2 ⊢
    omega
theorem sumW_tot (l : List WideWide') (h : ∀ w ∈ l, wOk w) (hl : l.length < 9223372036854775807) : InTot (sumW l) := by
  have := sumW_in l h
  unfold InTot; omega
theorem sumW_app (a b : List WideWide') : sumW (a ++ b) = sumW a + sumW b := by unfold sumW; simp
theorem sumW_one (a : WideWide') : sumW [a] = wv a := by unfold sumW; simp
theorem sumW_take (l : List WideWide') (i : Nat) (h : i < l.length) : sumW (l.take (i + 1)) = sumW (l.take i) + wv l[i] := by
  rw [show l.take (i + 1) = l.take i ++ [l[i]] by simp, sumW_app, sumW_one]
theorem r_wAdd (l : List WideWide') (h : ∀ w ∈ l, wOk w) (hl : l.length < 9223372036854775807) : wide_Add l = some (fit (sumW l)) := by
  show wide_AddW stdW l = _
  unfold wide_AddW
  refine loop_list (l := l) (by omega) (fun i s => s = totT (sumW (l.take i))) (fun _ _ => some (fit (sumW l))) (by simp [sumW]; rfl) ?_ ?_
  · rintro _ again rfl
    rw [List.take_length, cnd_end, call_eq (r_tdone _ (sumW_tot l h hl))]
  · rintro i hi _ rfl again ha
    rw [cnd_lt hi, idx_w hi, call_eq (r_tadd _ _ (sumW_tot _ (fun w hw => h w (List.mem_of_mem_take hw)) (by rw [List.length_take]; omega)) (h _ (List.getElem_mem hi)))]
    dsimp only
    rw [i64_s i (by omega)]
    exact ha _ (by rw [sumW_take l i hi])
end Go.Proofs.YtllkmncnmlmefaaGreat

namespace Go.Proofs.YtllkmncnmlmefaaGreat
open Go Go.Vc Go.RowKit
/-! ### numbers without bounds: the reference's -/
theorem r_neg {a : BigT} (h : Nb a) (la : a.2.1.length ≤ 1000) : ref01_Neg a = some (big (-(bv a))) := by
  show ref01_NegW stdW a = _
  unfold ref01_NegW
  rw [call_eq (r_trim (nb_nrm h).bits la), neg_is]
theorem r_sub {a b : BigT} (ha : Nb a) (hb : Nb b) (la : a.2.1.length ≤ 900) (lb : b.2.1.length ≤ 900) : ref01_Sub a b = some (big (bv a - bv b)) := by
  show ref01_SubW stdW a b = _
  unfold ref01_SubW
  have e : ∀ z : BigT, (z.1, (z.2.1, ())) = z := fun z => rfl
  rw [call_eq (r_neg hb (by omega)), call_eq (r_add ha (nb_big _) la (by rw [neg_len hb]; exact lb)), bv_big]
  congr 2
theorem r_cmp {a b : BigT} (ha : Nb a) (hb : Nb b) (la : a.2.1.length ≤ 900) (lb : b.2.1.length ≤ 900) : ref01_Cmp a b = some (if bv a - bv b = 0 then 0 else if bv a - bv b < 0 then -1 else 1) := by
  show ref01_CmpW stdW a b = _
  unfold ref01_CmpW
  have e : ∀ z : BigT, (z.1, (z.2.1, ())) = z := fun z => rfl
  rw [call_eq (r_sub ha hb la lb)]
  by_cases h : bv a - bv b = 0
  · rw [cnd_y (by have := (big_len0 (bv a - bv b)).2 h; simp [this]), if_pos h]
  · rw [cnd_n (by have := mt (big_len0 (bv a - bv b)).1 h; simpa using this), if_neg h, cnd_b]
    show (if decide (bv a - bv b < 0) = true then _ else _) = _
    by_cases h2 : bv a - bv b < 0
    · rw [if_pos (by simpa using h2), if_pos h2]
    · rw [if_neg (by simpa using h2), if_neg h2]
theorem r_of {n : Int} (h : I64 n) : ref01_Of n = some (big n) := by
  show ref01_OfW stdW n = _
  unfold I64 at h
  unfold ref01_OfW
  by_cases h0 : 0 ≤ n
  · rw [cnd_y (decide_eq_true h0), u64_id n (by omega)]
    obtain ⟨m, rfl⟩ := Int.eq_ofNat_of_zero_le h0
    rw [call_eq (r_nat m (by omega)), bigS_f]
  · rw [cnd_n (decide_eq_false h0), of_neg (by omega) (by omega)]
    obtain ⟨m, hm⟩ := Int.eq_ofNat_of_zero_le (show 0 ≤ -(n + 1) by omega)
    rw [hm, call_eq (r_nat m (by omega))]
    have hl : (bitsOf m).length ≤ 1000 := bits_len_le (show m < 2 ^ 64 by omega) (by omega)
    show stdW.call (ref01_plus (bitsOf m) [1]) _ = _
    rw [call_eq (r_plus (nrm_bits m) nrm1 hl (by simp)), of_negB (by omega) (by omega) hm.symm]
    rfl
theorem len_big2 {z : Int} (h : -170141183460469231731687303715884105728 ≤ z ∧ z ≤ 170141183460469231731687303715884105728) : (big z).2.1.length ≤ 200 := by
  refine len_big z ?_
  have : (2 : Nat) ^ 200 = 1606938044258990275541962092341162602522202993782792835301376 := by decide
  omega
end Go.Proofs.YtllkmncnmlmefaaGreat

namespace Go.Proofs.YtllkmncnmlmefaaGreat
open Go Go.Vc Go.RowKit
/-! ### Units in order, plain -/
def ltA (a b : U0') : Prop := a.1 < b.1 ∨ (a.1 = b.1 ∧ a.2.1 < b.2.1)
instance (a b : U0') : Decidable (ltA a b) := by unfold ltA; infer_instance
instance : DecidableEq U0' := inferInstanceAs (DecidableEq (Int × Int × Unit))
theorem extA {a b : U0'} (h1 : a.1 = b.1) (h2 : a.2.1 = b.2.1) : a = b := by
  obtain ⟨a1, a2, ⟨⟩⟩ := a; obtain ⟨b1, b2, ⟨⟩⟩ := b; simp only at h1 h2; subst h1 h2; rfl
theorem ltA_irr (a : U0') : ¬ ltA a a := by unfold ltA; omega
theorem ltA_tr {a b c : U0'} (h1 : ltA a b) (h2 : ltA b c) : ltA a c := by unfold ltA at *; omega
theorem ltA_tot {a b : U0'} (h1 : ¬ ltA a b) (h2 : ¬ ltA b a) : a = b := by
  unfold ltA at *; exact extA (by omega) (by omega)
theorem ltA_as {a b : U0'} (h1 : ltA a b) (h2 : ltA b a) : False := ltA_irr a (ltA_tr h1 h2)
abbrev SrtA (l : List U0') : Prop := l.Pairwise ltA
/-- two ordered lists with the same members are one -/
theorem srt_ext : ∀ {l m : List U0'}, SrtA l → SrtA m → (∀ x, x ∈ l ↔ x ∈ m) → l = m
  | [], [], _, _, _ => rfl
  | [], b :: m, _, _, h => absurd ((h b).2 (by simp)) (by simp)
  | a :: l, [], _, _, h => absurd ((h a).1 (by simp)) (by simp)
  | a :: l, b :: m, hl, hm, h => by
    obtain ⟨h1, h2⟩ := List.pairwise_cons.1 hl
    obtain ⟨h3, h4⟩ := List.pairwise_cons.1 hm
    have hab : a = b := by
      rcases List.mem_cons.1 ((h a).1 (by simp)) with e | e
      · exact e
      · rcases List.mem_cons.1 ((h b).2 (by simp)) with e' | e'
        · exact e'.symm
        · exact (ltA_as (h1 b e') (h3 a e)).elim
    subst hab
    rw [srt_ext h2 h4 fun x => ?_]
    constructor
    · intro hx
      rcases List.mem_cons.1 ((h x).1 (List.mem_cons_of_mem _ hx)) with rfl | e
      · exact (ltA_irr _ (h1 _ hx)).elim
      · exact e
    · intro hx
      rcases List.mem_cons.1 ((h x).2 (List.mem_cons_of_mem _ hx)) with rfl | e
      · exact (ltA_irr _ (h3 _ hx)).elim
      · exact e
theorem insU_cases (x y : U0') (l : List U0') : insU x (y :: l) = if ltA x y then x :: y :: l else if x = y then y :: l else y :: insU x l := by
  have e0 : insU x (y :: l) = bif decide (x.1 < y.1) || (x.1 == y.1 && decide (x.2.1 < y.2.1)) then x :: y :: l else bif x.1 == y.1 && x.2.1 == y.2.1 then y :: l else y :: insU x l := rfl
  have e1 : (decide (x.1 < y.1) || (x.1 == y.1 && decide (x.2.1 < y.2.1))) = decide (ltA x y) := by
    rw [Bool.eq_iff_iff, decide_eq_true_eq]; simp [ltA]
  have e2 : (x.1 == y.1 && x.2.1 == y.2.1) = decide (x = y) := by
    rw [Bool.eq_iff_iff]
    simp only [Bool.and_eq_true, beq_iff_eq, decide_eq_true_eq]
    exact ⟨fun h => extA h.1 h.2, fun h => by rw [h]; exact ⟨rfl, rfl⟩⟩
  rw [e0, e1, e2]
  by_cases h1 : ltA x y
  · rw [decide_eq_true h1, if_pos h1]; rfl
  · rw [decide_eq_false h1, if_neg h1]
    by_cases h2 : x = y
    · rw [decide_eq_true h2, if_pos h2]; rfl
    · rw [decide_eq_false h2, if_neg h2]; rfl
theorem insU_mem (x u : U0') : ∀ (l : List U0'), u ∈ insU x l ↔ u = x ∨ u ∈ l
  | [] => by simp [insU]
  | y :: l => by
    rw [insU_cases]
    split
    · simp
    · split
      · rename_i h; subst h; simp
      · rw [List.mem_cons, insU_mem x u l, List.mem_cons]
        constructor
        · rintro (h | h | h) <;> simp [h]
        · rintro (h | h | h) <;> simp [h]
theorem insU_srt (x : U0') : ∀ {l : List U0'}, SrtA l → SrtA (insU x l)
  | [], _ => by simp [insU]
  | y :: l, h => by
    obtain ⟨h1, h2⟩ := List.pairwise_cons.1 h
    rw [insU_cases]
    split
    · rename_i hlt
      exact List.pairwise_cons.2 ⟨fun z hz => (List.mem_cons.1 hz).elim (fun e => e ▸ hlt) fun hz => ltA_tr hlt (h1 z hz), h⟩
    · rename_i hlt
      split
      · exact h
      · rename_i hne
        refine List.pairwise_cons.2 ⟨fun z hz => ?_, insU_srt x h2⟩
        rcases (insU_mem x z l).1 hz with rfl | hz
        · exact Classical.byContradiction fun hn => hne (ltA_tot hlt hn)
        · exact h1 z hz
theorem insU_len (x : U0') : ∀ (l : List U0'), (insU x l).length ≤ l.length + 1
  | [] => by simp [insU]
  | y :: l => by
    rw [insU_cases]
    split
    · simp
    · split
      · simp
      · have := insU_len x l; simp; omega
theorem units_all : ∀ (l : List F0') (ks : List U0'), SrtA ks → SrtA (l.foldl (fun s x => insU x.1 s) ks) ∧ (∀ u, u ∈ l.foldl (fun s x => insU x.1 s) ks ↔ u ∈ ks ∨ ∃ x ∈ l, x.1 = u) ∧ (l.foldl (fun s x => insU x.1 s) ks).length ≤ ks.length + l.length
  | [], ks, h => ⟨h, fun u => by simp, by simp⟩
  | y :: l, ks, h => by
    obtain ⟨h1, h2, h3⟩ := units_all l (insU y.1 ks) (insU_srt _ h)
    refine ⟨h1, fun u => ?_, ?_⟩
    · rw [List.foldl_cons, h2, insU_mem]
      constructor
      · rintro ((h | h) | ⟨x, hx, h⟩)
        · exact .inr ⟨y, by simp, h.symm⟩
        · exact .inl h
        · exact .inr ⟨x, by simp [hx], h⟩
      · rintro (h | ⟨x, hx, h⟩)
        · exact .inl (.inr h)
        · rcases List.mem_cons.1 hx with rfl | hx
          · exact .inl (.inl h.symm)
          · exact .inr ⟨x, hx, h⟩
    · rw [List.foldl_cons, List.length_cons]
      have := insU_len y.1 ks
      omega
theorem units_mem (l : List F0') (u : U0') : u ∈ unitsOf l ↔ ∃ x ∈ l, x.1 = u := by
  have := (units_all l [] .nil).2.1 u
  simpa [unitsOf] using this
theorem units_srt (l : List F0') : SrtA (unitsOf l) := (units_all l [] .nil).1
theorem units_len (l : List F0') : (unitsOf l).length ≤ l.length := by simpa [unitsOf] using (units_all l [] .nil).2.2
/-! the reference's way: each one put where it belongs -/
def lowU (u : U0') (l : List U0') : List U0' := l.filter fun x => decide (ltA x u)
def highU (u : U0') (l : List U0') : List U0' := l.filter fun x => !decide (ltA x u)
theorem low_take : ∀ {l : List U0'}, SrtA l → ∀ u, l.take (lowU u l).length = lowU u l ∧ l.drop (lowU u l).length = highU u l
  | [], _, u => by simp [lowU, highU]
  | a :: l, h, u => by
    obtain ⟨h1, h2⟩ := List.pairwise_cons.1 h
    obtain ⟨e1, e2⟩ := low_take h2 u
    by_cases ha : ltA a u
    · have p1 : lowU u (a :: l) = a :: lowU u l := by simp [lowU, ha]
      have p2 : highU u (a :: l) = highU u l := by simp [highU, ha]
      rw [p1, p2]; simp [e1, e2]
    · have hall : ∀ x ∈ l, ¬ ltA x u := fun x hx hxu => ha (ltA_tr (h1 x hx) hxu)
      have p1 : lowU u (a :: l) = [] := by
        unfold lowU; rw [List.filter_eq_nil_iff]
        intro x hx
        rcases List.mem_cons.1 hx with rfl | hx
        · simp [ha]
        · simp [hall x hx]
      have p2 : highU u (a :: l) = a :: l := by
        unfold highU; rw [List.filter_eq_self]
        intro x hx
        rcases List.mem_cons.1 hx with rfl | hx
        · simp [ha]
        · simp [hall x hx]
      rw [p1, p2]; simp
theorem low_step {l : List U0'} (h : SrtA l) (u : U0') (i : Nat) (hi : i < l.length) : (lowU u (l.take (i + 1))).length = if ltA l[i] u then i + 1 else (lowU u (l.take i)).length := by
  have e : l.take (i + 1) = l.take i ++ [l[i]] := by simp
  rw [e]
  unfold lowU
  rw [List.filter_append, List.length_append]
  by_cases hu : ltA l[i] u
  · have hall : (l.take i).filter (fun x => decide (ltA x u)) = l.take i := by
      rw [List.filter_eq_self]
      intro x hx
      have hs := h
      rw [← List.take_append_drop i l] at hs
      have := (List.pairwise_append.1 hs).2.2 x hx l[i] (List.mem_of_getElem? (i := 0) (by rw [List.getElem?_drop]; simp [hi]))
      simp [ltA_tr this hu]
    rw [hall]; simp [hu]; omega
  · simp [hu]
def insA (u : U0') (l : List U0') : List U0' := if u ∈ l then l else lowU u l ++ u :: highU u l
theorem insA_mem (u : U0') (l : List U0') (x : U0') : x ∈ insA u l ↔ x = u ∨ x ∈ l := by
  unfold insA lowU highU
  split
  · rename_i h
    constructor
    · exact .inr
    · rintro (rfl | h') <;> assumption
  · simp only [List.mem_append, List.mem_filter, List.mem_cons, decide_eq_true_eq, Bool.not_eq_true', decide_eq_false_iff_not]
    constructor
    · rintro (h | h | h)
      · exact .inr h.1
      · exact .inl h
      · exact .inr h.1
    · rintro (h | h)
      · exact .inr (.inl h)
      · by_cases hx : ltA x u
        · exact .inl ⟨h, hx⟩
        · exact .inr (.inr ⟨h, hx⟩)
theorem insA_srt {u : U0'} {l : List U0'} (h : SrtA l) : SrtA (insA u l) := by
  unfold insA
  split
  · exact h
  · rename_i hu
    refine List.pairwise_append.2 ⟨h.filter _, List.pairwise_cons.2 ⟨fun x hx => ?_, h.filter _⟩, fun a ha b hb => ?_⟩
    · unfold highU at hx
      simp only [List.mem_filter, Bool.not_eq_true', decide_eq_false_iff_not] at hx
      by_cases hux : ltA u x
      · exact hux
      · exact absurd (ltA_tot hux hx.2 ▸ hx.1) hu
    · unfold lowU at ha
      simp only [List.mem_filter, decide_eq_true_eq] at ha
      rcases List.mem_cons.1 hb with rfl | hb
      · exact ha.2
      · unfold highU at hb
        simp only [List.mem_filter, Bool.not_eq_true', decide_eq_false_iff_not] at hb
        by_cases hub : ltA u b
        · exact ltA_tr ha.2 hub
        · exact absurd (ltA_tot hub hb.2 ▸ hb.1) hu
theorem ins_all : ∀ (l : List F0') (acc : List U0'), SrtA acc → SrtA (l.foldl (fun a x => insA x.1 a) acc) ∧ ∀ u, u ∈ l.foldl (fun a x => insA x.1 a) acc ↔ u ∈ acc ∨ ∃ x ∈ l, x.1 = u
  | [], acc, h => ⟨h, fun u => by simp⟩
  | x :: l, acc, h => by
    obtain ⟨h1, h2⟩ := ins_all l (insA x.1 acc) (insA_srt h)
    refine ⟨h1, fun u => ?_⟩
    rw [List.foldl_cons, h2, insA_mem]
    constructor
    · rintro ((rfl | h) | ⟨y, hy, e⟩)
      · exact .inr ⟨x, by simp, rfl⟩
      · exact .inl h
      · exact .inr ⟨y, by simp [hy], e⟩
    · rintro (h | ⟨y, hy, e⟩)
      · exact .inl (.inr h)
      · rcases List.mem_cons.1 hy with rfl | hy
        · exact .inl (.inl e.symm)
        · exact .inr ⟨y, hy, e⟩
theorem ins_units (l : List F0') : l.foldl (fun a x => insA x.1 a) [] = unitsOf l := by
  obtain ⟨h1, h2⟩ := ins_all l [] List.Pairwise.nil
  exact srt_ext h1 (units_srt l) fun u => by rw [h2, units_mem]; simp
end Go.Proofs.YtllkmncnmlmefaaGreat

namespace Go.Proofs.YtllkmncnmlmefaaGreat
open Go Go.Vc Go.RowKit
/-! ### numbers: what fits, what it is -/
theorem valB_drop_le (xs : List Int) (i : Nat) (h : i ≤ xs.length) : valB (xs.drop i) ≤ valB xs := by
  have h1 := valB_split xs i h
  have h2 : valB (xs.drop i) ≤ 2 ^ i * valB (xs.drop i) := Nat.le_mul_of_pos_left _ (Nat.two_pow_pos i)
  omega
theorem r_int {z : Int} (h : I64 z) : ref01_Int (big z) = some z := by
  unfold I64 at h
  show ref01_IntW stdW (big z) = _
  unfold ref01_IntW
  have hb : bitL (big z).2.1 := bitL_bits _
  have hv : valB (big z).2.1 = z.natAbs := valB_bits _
  have hl : (big z).2.1.length ≤ 64 := bits_len 64 _ (by omega)
  have hs : (big z).1 = decide (z < 0) := rfl
  generalize (big z).1 = sg at *
  generalize (big z).2.1 = xs at *
  refine (loop_std (fun z => z.2.1.toNat) (fun y => ∃ i : Nat, i ≤ xs.length ∧ y = ((if z < 0 then -((valB (xs.drop i) : Nat) : Int) else ((valB (xs.drop i) : Nat) : Int)), ((i : Int), ()))) (fun _ => some z) ⟨xs.length, Nat.le_refl _, by simp [valB]⟩ (by show ((xs.length : Nat) : Int).toNat < _; omega) ?_)
  rintro _ ⟨i, hi, rfl⟩ again ha
  show stdW.cnd (decide ((0 : Int) < ((i : Nat) : Int))) _ _ = _
  by_cases h0 : i = 0
  · subst h0
    rw [cnd_n (c := decide ((0 : Int) < ((0 : Nat) : Int))) rfl, List.drop_zero, hv]
    congr 1; split <;> omega
  · have hm : i - 1 < xs.length := by omega
    rw [cnd_y (decide_eq_true (by omega)), join_w, i64_pred i (by omega) (by rw [maxLen_eq]; omega)]
    have hd : xs.drop (i - 1) = xs[i - 1] :: xs.drop i := by rw [List.drop_eq_getElem_cons hm, show i - 1 + 1 = i by omega]
    have hbit := hb _ (List.getElem_mem hm)
    have hle := valB_drop_le xs (i - 1) (by omega)
    rw [hv, hd, valB] at hle
    have hx0 : 0 ≤ xs[i - 1] ∧ xs[i - 1] ≤ 1 := by rcases hbit with e | e <;> rw [e] <;> omega
    have next : ∀ n : Int, n = (if z < 0 then -((valB (xs.drop (i - 1)) : Nat) : Int) else ((valB (xs.drop (i - 1)) : Nat) : Int)) → again (n, (((i - 1 : Nat) : Int), ())) = some z := fun n hn => ha _ ⟨i - 1, by omega, by rw [hn]⟩ (by show ((i - 1 : Nat) : Int).toNat < ((i : Nat) : Int).toNat; omega)
    rw [hd, valB] at next
    by_cases hz : z < 0
    · rw [hs, cnd_y (decide_eq_true hz), idx_w hm]
      refine next _ ?_
      rw [if_pos hz, if_pos hz, IntWalk.i64_in xs[i - 1] (by omega), IntWalk.i64_in (2 * -((valB (xs.drop i) : Nat) : Int)) (by omega), IntWalk.i64_in _ (by omega)]
      omega
    · rw [hs, cnd_n (decide_eq_false hz), idx_w hm]
      refine next _ ?_
      rw [if_neg hz, if_neg hz, IntWalk.i64_in xs[i - 1] (by omega), IntWalk.i64_in (2 * ((valB (xs.drop i) : Nat) : Int)) (by omega), IntWalk.i64_in _ (by omega)]
      omega
def sml (z : Int) : Prop := -170141183460469231731687303715884105728 ≤ z ∧ z ≤ 170141183460469231731687303715884105728
instance (z : Int) : Decidable (I64 z) := by unfold I64; infer_instance
theorem len_lt63 (n : Nat) : (bitsOf n).length < 64 ↔ n < 9223372036854775808 := by
  constructor
  · intro h
    have := valB_lt' (nrm_bits n) (k := 63) (by omega)
    rw [valB_bits] at this; simpa using this
  · intro h
    have := bits_len 63 n (by simpa using h)
    omega
theorem r_fits {z : Int} (h : sml z) : ref01_Fits (big z) = some (decide (I64 z)) := by
  unfold sml at h
  have hw : ref01_Within ((big z).1, ((big z).2.1, ())) 64 = some (decide (I64 z)) := by
    show ref01_WithinW stdW (big z) 64 = _
    unfold ref01_WithinW
    rw [join_w]
    by_cases hz : z < 0
    · have hs : (big z).1 = true := decide_eq_true hz
      have e1 : ref01_Nat 1 = some (big 1) := r_nat 1 (by omega)
      have e2 : ref01_Add ((big z).1, ((big z).2.1, ())) ((big 1).1, ((big 1).2.1, ())) = some (big (z + 1)) := by
        have := r_add (nb_big z) (nb_big 1) (Nat.le_trans (len_big2 h) (by decide)) (Nat.le_trans (len_big2 (by omega)) (by decide))
        rw [bv_big, bv_big] at this; exact this
      have e3 : (decide (((big (z + 1)).2.1.length : Int) < 64)) = decide (I64 z) := by
        refine decide_eq_decide.2 ?_
        have := len_lt63 (z + 1).natAbs
        show (((bitsOf (z + 1).natAbs).length : Int) < 64) ↔ _
        unfold I64; omega
      rw [cnd_y hs, both_w, call_eq e1, call_eq e2]
      show some (decide _) = _
      rw [e3]
    · have hs : (big z).1 = false := decide_eq_false hz
      rw [cnd_n hs]
      show some (decide (((bitsOf z.natAbs).length : Int) < 64)) = _
      congr 1
      refine decide_eq_decide.2 ?_
      have := len_lt63 z.natAbs
      unfold I64; omega
  show ref01_FitsW stdW (big z) = _
  unfold ref01_FitsW
  rw [call_eq hw]
/-! 64 bits of 128 -/
def fits64 (z : Int) : Int × Int × Unit := if I64 z then (z, 0, ()) else (0, 7, ())
theorem nif_t (c : Bool) : notIf true c = !c := by cases c <;> rfl
theorem nif_f (c : Bool) : notIf false c = c := by cases c <;> rfl
theorem r_wInt {z : Int} (h : In128 z) : wide_Int (wide z) = some (fits64 z) := by
  show wide_IntW stdW (wide z) = _
  unfold wide_IntW
  have hw : IntKind.i64.wrap (wide z).2.1 = IntKind.i64.wrap z := wrap_mod_i z
  have hI : I64 (IntKind.i64.wrap z) := by unfold I64; rw [IntKind.wrap_i64]; omega
  rw [hw, call_eq (r_wOf _ hI), nif_t]
  unfold fits64
  by_cases hz : I64 z
  · have e : IntKind.i64.wrap z = z := by unfold I64 at hz; exact IntWalk.i64_in _ (by omega)
    rw [if_pos hz, e, cnd_n (by simp)]
  · rw [if_neg hz, cnd_y ?_]
    rw [Bool.not_eq_true']
    cases hc : ((wide (IntKind.i64.wrap z)).1 == (wide z).1 && (wide (IntKind.i64.wrap z)).2.1 == (wide z).2.1) with
    | false => rfl
    | true =>
      simp only [Bool.and_eq_true, beq_iff_eq] at hc
      have : wide (IntKind.i64.wrap z) = wide z := Prod.ext hc.1 (Prod.ext hc.2 rfl)
      exact absurd (wide_inj this ▸ hI) hz
theorem r_narrow0 {z : Int} (h : In128 z) : fix_narrow (wide z) 0 = some (fits64 z) := by
  show fix_narrowW stdW (wide z) 0 = _
  unfold fix_narrowW
  rw [cnd_n (by decide), call_eq (r_wInt h)]
theorem sum_in {l : List Int} (h : ∀ x ∈ l, I64 x) : -(9223372036854775808 * (l.length : Int)) ≤ l.sum ∧ l.sum ≤ 9223372036854775808 * (l.length : Int) := by
  have := sumBy_in (f := fun x : Int => x) (B := 9223372036854775808) (l := l) (fun x hx => by have := h x hx; unfold I64 at this; omega)
  simpa [sumBy] using this
theorem sumW_wide (l : List Int) : sumW (l.map wide) = l.sum := by
  unfold sumW
  rw [List.map_map]
  have : (wv ∘ wide) = id := funext wv_wide
  rw [this, List.map_id]
theorem wides_ok {l : List Int} (h : ∀ x ∈ l, I64 x) : ∀ w ∈ l.map wide, wOk w := by
  intro w hw
  obtain ⟨x, hx, rfl⟩ := List.mem_map.1 hw
  exact wide_ok _ (i64_128 (h x hx))
theorem sum128 {l : List Int} (h : ∀ x ∈ l, I64 x) (hl : l.length ≤ 1000000) : In128 l.sum := by
  have := sum_in h; unfold In128; omega
theorem r_wSum {l : List Int} (h : ∀ x ∈ l, I64 x) (hl : l.length ≤ 1000000) : wide_Add (l.map wide) = some (wide l.sum, 0, ()) := by
  rw [r_wAdd _ (wides_ok h) (by rw [List.length_map]; omega), sumW_wide]
  unfold fit; rw [if_pos (sum128 h hl)]
theorem r_fSum {l : List Int} (h : ∀ x ∈ l, I64 x) (hl : l.length ≤ 1000000) : fix_Sum l = some (fits64 l.sum) := by
  show fix_SumW stdW l = _
  unfold fix_SumW
  rw [nn_w (by omega), room_w (by simp; omega) (by simp; omega)]
  refine loop_n (N := l.length) (by omega) (fun i s => s = ((l.take i).map wide, ())) (some (fits64 l.sum)) rfl ?_ ?_
  · rintro _ again rfl
    rw [cnd_end, List.take_length, call_eq (r_wSum h hl), call_eq (r_narrow0 (sum128 h hl))]
  · rintro i hi _ rfl again ha
    rw [cnd_lt hi, idx_w hi, call_eq (r_wOf _ (h _ (List.getElem_mem hi))), i64_s i (by omega), room_w (by simp; omega) (by simp; omega)]
    refine ha _ ?_
    rw [List.take_succ_eq_append_getElem hi, List.map_append]; rfl
end Go.Proofs.YtllkmncnmlmefaaGreat

namespace Go.Proofs.YtllkmncnmlmefaaGreat
open Go Go.Vc Go.RowKit
theorem join_g {X β : Type} {k0 : X → Option β} {f : (X → Option β) → Option β} {r : Option β} (h : ∀ k, k = k0 → f k = r) : stdW.join k0 f = r := h k0 rfl
/-! ### purses: which are, what each unit has, what there is in all -/
theorem r_lessA (a b : AUnit') : acct_Less a b = some (decide (ltA a b)) := by
  show acct_LessW stdW a b = _
  unfold acct_LessW
  by_cases h : a.1 = b.1
  · rw [cnd_n (by simp [h])]
    congr 1; refine decide_eq_decide.2 ?_; unfold ltA; omega
  · rw [cnd_y (by simp [h])]
    congr 1; refine decide_eq_decide.2 ?_; unfold ltA; omega
theorem r_less15 (a b : AUnit') : ref15_Less a b = some (decide (ltA a b)) := by
  show ref15_LessW stdW a b = _
  unfold ref15_LessW
  by_cases h1 : a.1 < b.1
  · rw [cnd_y (decide_eq_true h1), decide_eq_true (by unfold ltA; omega)]
  · rw [cnd_n (decide_eq_false h1)]
    by_cases h : a.1 = b.1
    · rw [cnd_y (by simp [h])]
      congr 1; refine decide_eq_decide.2 ?_; unfold ltA; omega
    · rw [cnd_n (by simp [h]), decide_eq_false (by unfold ltA; omega)]
def PInv (l : List AFlow') : Prop := (∀ x ∈ l, x.2.1 ≠ 0) ∧ SrtA (l.map (·.1))
instance (l : List AFlow') : Decidable (PInv l) := by unfold PInv SrtA; infer_instance
def isP (l : List AFlow') : Bool := decide (PInv l)
theorem isP_bad0 {l : List AFlow'} {i : Nat} (hi : i < l.length) (h : l[i].2.1 = 0) : isP l = false :=
  decide_eq_false fun hp => hp.1 _ (List.getElem_mem hi) h
theorem isP_bad1 {l : List AFlow'} {i : Nat} (hi : i < l.length) (h0 : 0 < i) (h : ¬ ltA (l[i - 1]'(by omega)).1 l[i].1) : isP l = false :=
  decide_eq_false fun hp => h (by
    have := List.pairwise_iff_getElem.1 hp.2 (i - 1) i (by simp; omega) (by simpa using hi) (by omega)
    simpa using this)
theorem isP_next {l : List AFlow'} {i : Nat} (hi : i < l.length) (inv : PInv (l.take i)) (h1 : l[i].2.1 ≠ 0) (h2 : ∀ h0 : 0 < i, ltA (l[i - 1]'(by omega)).1 l[i].1) : PInv (l.take (i + 1)) := by
  rw [List.take_succ_eq_append_getElem hi]
  refine ⟨fun x hx => ?_, ?_⟩
  · rcases List.mem_append.1 hx with hx | hx
    · exact inv.1 x hx
    · simp at hx; rw [hx]; exact h1
  · show SrtA ((l.take i ++ [l[i]]).map (·.1))
    rw [List.map_append]
    refine List.pairwise_append.2 ⟨inv.2, by simp, fun a ha b hb => ?_⟩
    simp only [List.map_cons, List.map_nil, List.mem_singleton] at hb
    subst hb
    obtain ⟨k, hk, hka⟩ := List.mem_iff_getElem.1 ha
    have hk' : k < i := by simp at hk; omega
    have h3 := h2 (by omega)
    by_cases hki : k = i - 1
    · subst hki; rw [← hka]; simpa using h3
    · have h4 := List.pairwise_iff_getElem.1 inv.2 k (i - 1) (by simpa using hk) (by simp; omega) (by omega)
      rw [hka] at h4
      refine ltA_tr h4 ?_
      simpa using h3
theorem isP_end {l : List AFlow'} (h : PInv (l.take l.length)) : isP l = true := by rw [List.take_length] at h; exact decide_eq_true h
theorem r_is {l : List AFlow'} (hl : l.length ≤ 1000000) : purse_Is l = some (isP l) := by
  show purse_IsW stdW l = _
  unfold purse_IsW
  refine loop_n (N := l.length) (by omega) (fun i _ => PInv (l.take i)) (some (isP l)) (by simp [PInv]) ?_ ?_
  · rintro _ again h
    rw [cnd_end, isP_end h]
  · rintro i hi _ inv again ha
    rw [cnd_lt hi, idx_w hi]
    refine join_g fun k hk => ?_
    have kt : k (true, ()) = some false := by subst hk; rfl
    have kf : k (false, ()) = again (((i + 1 : Nat) : Int), ()) := by rw [← i64_s i (by omega)]; subst hk; rfl
    clear hk
    by_cases h1 : l[i].2.1 = 0
    · rw [cnd_y (by simpa using h1), kt, isP_bad0 hi h1]
    · rw [cnd_n (by simpa using h1)]
      by_cases h0 : 0 < i
      · rw [cnd_y (decide_eq_true (by omega)), i64_pred i h0 (by rw [maxLen_eq]; omega), idx_w (by omega), call_eq (r_lessA _ _)]
        by_cases h2 : ltA (l[i - 1]'(by omega)).1 l[i].1
        · rw [decide_eq_true h2]
          exact kf.trans (ha _ (isP_next hi inv h1 fun _ => h2))
        · rw [decide_eq_false h2, isP_bad1 hi h0 h2]; exact kt
      · rw [cnd_n (decide_eq_false (by omega))]
        exact kf.trans (ha _ (isP_next hi inv h1 fun h => absurd h h0))
theorem r_is17 {l : List AFlow'} (hl : l.length ≤ 1000000) : ref17_Is l = some (isP l) := by
  show ref17_IsW stdW l = _
  unfold ref17_IsW
  refine loop_n (N := l.length) (by omega) (fun i _ => PInv (l.take i)) (some (isP l)) (by simp [PInv]) ?_ ?_
  · rintro _ again h
    rw [cnd_end, isP_end h]
  · rintro i hi _ inv again ha
    rw [cnd_lt hi]
    refine join_g fun k hk => ?_
    have kt : k (true, ()) = some false := by subst hk; rfl
    have kf : k (false, ()) = again (((i + 1 : Nat) : Int), ()) := by rw [← i64_s i (by omega)]; subst hk; rfl
    clear hk
    rw [idx_w hi]
    by_cases h1 : l[i].2.1 = 0
    · rw [cnd_y (by simpa using h1), kt, isP_bad0 hi h1]
    · rw [cnd_n (by simpa using h1)]
      by_cases h0 : 0 < i
      · rw [cnd_y (decide_eq_true (by omega)), i64_pred i h0 (by rw [maxLen_eq]; omega), idx_w (by omega), idx_w hi, call_eq (r_less15 _ _)]
        by_cases h2 : ltA (l[i - 1]'(by omega)).1 l[i].1
        · rw [decide_eq_true h2]
          exact kf.trans (ha _ (isP_next hi inv h1 fun _ => h2))
        · rw [decide_eq_false h2, isP_bad1 hi h0 h2]; exact kt
      · rw [cnd_n (decide_eq_false (by omega))]
        exact kf.trans (ha _ (isP_next hi inv h1 fun h => absurd h h0))
theorem eqA (a b : AUnit') : (a.1 == b.1 && a.2.1 == b.2.1) = decide (a = b) := by
  by_cases h : a = b
  · subst h; simp
  · rw [decide_eq_false h]
    cases hc : (a.1 == b.1 && a.2.1 == b.2.1) with
    | false => rfl
    | true => simp only [Bool.and_eq_true, beq_iff_eq] at hc; exact absurd (extA hc.1 hc.2) h
def getP : List AFlow' → AUnit' → Int
  | [], _ => 0
  | x :: l, u => if x.1 = u then x.2.1 else getP l u
theorem r_get {l : List AFlow'} {u : AUnit'} (hl : l.length ≤ 1000000) : purse_Get l u = some (getP l u) := by
  show purse_GetW stdW l u = _
  unfold purse_GetW
  refine loop_list (l := l) (by omega) (fun _ _ => True) (fun l _ => some (getP l u)) trivial ?_ ?_
  · rintro _ again _
    rw [cnd_end]; rfl
  · rintro i hi _ _ again ha
    rw [cnd_lt hi, idx_w hi, nif_f, eqA]
    unfold getP
    by_cases h : l[i].1 = u
    · rw [cnd_y (decide_eq_true h), if_pos h]
    · rw [cnd_n (decide_eq_false h), if_neg h, i64_s i (by omega)]
      exact ha _ trivial
theorem r_get17 {l : List AFlow'} {u : AUnit'} (hl : l.length ≤ 1000000) : ref17_Get l u = some (getP l u) := by
  show ref17_GetW stdW l u = _
  unfold ref17_GetW
  refine loop_list (l := l) (by omega) (fun _ _ => True) (fun l _ => some (getP l u)) trivial ?_ ?_
  · rintro _ again _
    rw [cnd_end]; rfl
  · rintro i hi _ _ again ha
    rw [cnd_lt hi, idx_w hi, nif_f, eqA]
    unfold getP
    by_cases h : l[i].1 = u
    · rw [cnd_y (decide_eq_true h), if_pos h, idx_w hi]
    · rw [cnd_n (decide_eq_false h), if_neg h, i64_s i (by omega)]
      exact ha _ trivial
def amt (x : AFlow') : Int := x.2.1
def okF (l : List AFlow') : Prop := ∀ x ∈ l, I64 (amt x)
theorem okF.take {l : List AFlow'} (h : okF l) (i : Nat) : okF (l.take i) := fun x hx => h x (List.mem_of_mem_take hx)
theorem r_addB {a b : Int} (ha : sml a) (hb : sml b) : ref01_Add (big a) (big b) = some (big (a + b)) := by
  unfold sml at *
  have := r_add (nb_big a) (nb_big b) (Nat.le_trans (len_big2 ha) (by decide)) (Nat.le_trans (len_big2 hb) (by decide))
  rwa [bv_big, bv_big] at this
theorem big0 : big 0 = (false, ([], ())) := by unfold big; simp [bits0]
theorem i64_sml {n : Int} (h : I64 n) : sml n := by unfold I64 at h; unfold sml; omega
end Go.Proofs.YtllkmncnmlmefaaGreat

namespace Go.Proofs.YtllkmncnmlmefaaGreat
open Go Go.Vc Go.RowKit
theorem loop_at2 {X β : Type} {N : Nat} (hN : N < 9223372036854775808) {f : X → (X → Option β) → Option β} (st : Nat → X) (r : Option β) {z0 : X} (hz : z0 = st 0)
    (hend : ∀ again : X → Option β, f (st N) again = r) (hstep : ∀ i, i < N → ∀ again : X → Option β, again (st (i + 1)) = r → f (st i) again = r) : stdW.loop f z0 = r := by
  subst hz
  have key : ∀ n i, i ≤ N → N - i < n → loopF n f (st i) = r := by
    intro n
    induction n with
    | zero => intro i _ h; omega
    | succ n ih =>
      intro i hi hn
      show f (st i) (loopF n f) = r
      by_cases h : i < N
      · exact hstep i h _ (ih (i + 1) (by omega) (by omega))
      · have : i = N := by omega
        subst this; exact hend _
  show loopF FU f (st 0) = r
  exact key FU 0 (Nat.zero_le _) (by rw [FU_eq]; omega)
theorem pick_w {β : Type} [EqB β] {l : List KU} {K : KU → Option β} {N : Option β} {r : β} (h0 : l = [] → N = some r) (h1 : ∀ y ∈ l, K y = some r) : stdW.pick l K N = some r := by
  show pickF l K N = some r
  cases l with
  | nil => exact h0 rfl
  | cons x l =>
    show l.foldl (fun r y => bothF r (K y)) (K x) = some r
    rw [h1 x (by simp)]
    have key : ∀ l : List KU, (∀ y ∈ l, K y = some r) → l.foldl (fun r y => bothF r (K y)) (some r) = some r := by
      intro l
      induction l with
      | nil => intro _; rfl
      | cons y l ih =>
        intro h
        rw [List.foldl_cons, h y (by simp), both_eq]
        exact ih fun z hz => h z (by simp [hz])
    exact key l fun y hy => h1 y (by simp [hy])
theorem nodup_sub_len {α : Type} : ∀ {l m : List α}, l.Nodup → (∀ x ∈ l, x ∈ m) → l.length ≤ m.length
  | [], m, _, _ => by simp
  | a :: l, m, h, hs => by
    obtain ⟨m1, m2, rfl⟩ := List.append_of_mem (hs a (by simp))
    have h2 := List.nodup_cons.1 h
    have : l.length ≤ (m1 ++ m2).length := nodup_sub_len h2.2 fun x hx => by
      have := hs x (by simp [hx])
      simp only [List.mem_append, List.mem_cons] at this ⊢
      rcases this with h' | rfl | h'
      · exact .inl h'
      · exact absurd hx h2.1
      · exact .inr h'
    simp at this ⊢; omega
/-! ### all units that are named -/
def keysO (l : List AFlow') : List KU := l.foldl (fun s x => addU s x.1) []
theorem keys_step (l : List AFlow') (i : Nat) (h : i < l.length) : keysO (l.take (i + 1)) = addU (keysO (l.take i)) l[i].1 := by
  unfold keysO
  rw [List.take_succ_eq_append_getElem h, List.foldl_append]; rfl
theorem addU_cases (ks : List KU) (x : KU) : addU ks x = if x ∈ ks then ks else ks ++ [x] := by
  unfold addU
  by_cases h : x ∈ ks
  · rw [memU_iff.2 h, if_pos h]; rfl
  · have : memU x ks = false := by
      cases hm : memU x ks with
      | true => exact absurd (memU_iff.1 hm) h
      | false => rfl
    rw [this, if_neg h]; rfl
theorem keys_all : ∀ (l : List AFlow') (ks : List KU), ks.Nodup → (l.foldl (fun s x => addU s x.1) ks).Nodup ∧ (∀ u, u ∈ l.foldl (fun s x => addU s x.1) ks ↔ u ∈ ks ∨ ∃ x ∈ l, x.1 = u) ∧ (l.foldl (fun s x => addU s x.1) ks).length ≤ ks.length + l.length
  | [], ks, h => ⟨h, fun u => by simp, by simp⟩
  | y :: l, ks, h => by
    rw [List.foldl_cons, addU_cases]
    by_cases hy : y.1 ∈ ks
    · rw [if_pos hy]
      obtain ⟨h1, h2, h3⟩ := keys_all l ks h
      refine ⟨h1, fun u => ?_, by simp; omega⟩
      rw [h2]
      constructor
      · rintro (h | ⟨x, hx, h⟩)
        · exact .inl h
        · exact .inr ⟨x, by simp [hx], h⟩
      · rintro (h | ⟨x, hx, h⟩)
        · exact .inl h
        · rcases List.mem_cons.1 hx with rfl | hx
          · exact .inl (h ▸ hy)
          · exact .inr ⟨x, hx, h⟩
    · rw [if_neg hy]
      obtain ⟨h1, h2, h3⟩ := keys_all l (ks ++ [y.1]) (List.nodup_append.2 ⟨h, by simp, fun a ha b hb => by simp at hb; subst hb; rintro rfl; exact hy ha⟩)
      refine ⟨h1, fun u => ?_, by simp at h3 ⊢; omega⟩
      rw [h2]
      constructor
      · rintro (h | ⟨x, hx, h⟩)
        · rcases List.mem_append.1 h with h | h
          · exact .inl h
          · simp at h; exact .inr ⟨y, by simp, h.symm⟩
        · exact .inr ⟨x, by simp [hx], h⟩
      · rintro (h | ⟨x, hx, h⟩)
        · exact .inl (by simp [h])
        · rcases List.mem_cons.1 hx with rfl | hx
          · exact .inl (by simp [h])
          · exact .inr ⟨x, hx, h⟩
theorem keys_mem (l : List AFlow') (u : KU) : u ∈ keysO l ↔ ∃ x ∈ l, x.1 = u := by
  have := (keys_all l [] .nil).2.1 u
  simpa [keysO] using this
theorem keys_nd (l : List AFlow') : (keysO l).Nodup := (keys_all l [] .nil).1
theorem keys_len (l : List AFlow') : (keysO l).length ≤ l.length := by simpa [keysO] using (keys_all l [] .nil).2.2
theorem srtK_units {l : List AFlow'} {dn : List KU} (hn : dn.Nodup) (hm : ∀ u, u ∈ dn ↔ ∃ x ∈ l, x.1 = u) : srtK dn = unitsOf l := by
  refine srt_ext ?_ (units_srt l) fun u => ?_
  · have h2 : (srtK dn).Nodup := (srtK_perm dn).nodup_iff.2 hn
    refine List.Pairwise.imp (fun {a b} h => ?_) ((srtK_srt dn).and h2)
    obtain ⟨h3, h4⟩ := h
    simp only [leK, Bool.or_eq_true, Bool.and_eq_true, decide_eq_true_eq, beq_iff_eq] at h3
    unfold ltA
    by_cases e1 : a.1 = b.1
    · have : a.2.1 ≠ b.2.1 := fun e2 => h4 (extA e1 e2)
      omega
    · omega
  · rw [(srtK_perm dn).mem_iff, hm, units_mem]
theorem r_named {l : List AFlow'} (hl : l.length ≤ 1000000) : purse_named l = some (unitsOf l) := by
  show purse_namedW stdW l = _
  unfold purse_namedW
  refine loop_n (N := l.length) (by omega) (fun i s => s = (keysO (l.take i), ())) (some (unitsOf l)) rfl ?_ ?_
  · rintro _ again rfl
    rw [cnd_end, List.take_length]
    have hk := keys_len l
    have hn := keys_nd l
    have hm := keys_mem l
    generalize keysO l = ks at hk hn hm ⊢
    refine loop_std (fun z => ks.length + 1 - z.2.1.length) (fun z => ∃ dn, z = ((ks, (dn, ())), (dn, ())) ∧ dn.Nodup ∧ ∀ x ∈ dn, x ∈ ks) (fun _ => some (unitsOf l)) ⟨[], rfl, .nil, by simp⟩ (by show ks.length + 1 - 0 < _; omega) ?_
    rintro _ ⟨dn, rfl, hdn, hsub⟩ again ha
    refine join_g fun k hk8 => ?_
    have kf : restU ks dn = [] → k (false, ((ks, (dn, ())), (dn, ()))) = some (unitsOf l) := by
      intro he
      have hall : ∀ u, u ∈ dn ↔ ∃ x ∈ l, x.1 = u := fun u => by
        rw [← hm]
        refine ⟨hsub u, fun hu => ?_⟩
        have := List.filter_eq_nil_iff.1 he u hu
        simpa [memU_iff] using this
      subst hk8
      show stdW.cnd false _ (stdW.call (unitsort dn) _) = _
      have hld := nodup_sub_len hdn hsub
      have e : unitsort dn = some (srtK dn) := by
        unfold unitsort
        rw [show Nat.blt dn.length 4611686018427387904 = true from Nat.ble_eq_true_of_le (by omega)]; rfl
      rw [cnd_n rfl, call_eq e, srtK_units hdn hall]
    have kt : ∀ y ∈ restU ks dn, k (true, ((ks, (dn ++ [y], ())), (dn, ()))) = some (unitsOf l) := by
      intro y hy
      obtain ⟨hyk, hyd⟩ := List.mem_filter.1 hy
      have hyd : y ∉ dn := fun h => by rw [memU_iff.2 h] at hyd; cases hyd
      have hnd : (dn ++ [y]).Nodup := List.nodup_append.2 ⟨hdn, by simp, fun a ha b hb => by simp at hb; subst hb; rintro rfl; exact hyd ha⟩
      have hsub2 : ∀ x ∈ dn ++ [y], x ∈ ks := fun x hx => by
        rcases List.mem_append.1 hx with hx | hx
        · exact hsub x hx
        · simp at hx; exact hx ▸ hyk
      have hlen := nodup_sub_len hnd hsub2
      rw [List.length_append] at hlen
      simp only [List.length_cons, List.length_nil] at hlen
      have := ha ((ks, (dn ++ [y], ())), (dn ++ [y], ())) ⟨dn ++ [y], rfl, hnd, hsub2⟩ (by show ks.length + 1 - (dn ++ [y]).length < ks.length + 1 - dn.length; rw [List.length_append]; simp only [List.length_cons, List.length_nil]; omega)
      subst hk8
      show stdW.cnd true (stdW.idx (dn ++ [y]) (((dn ++ [y]).length : Int) - 1) _) _ = _
      rw [cnd_y rfl, show ((dn ++ [y]).length : Int) - 1 = ((dn.length : Nat) : Int) by rw [List.length_append]; simp, idx_w (by simp)]
      have ey : (dn ++ [y])[dn.length]'(by simp) = y := by simp
      rw [ey, room_w (by simp; omega) (by simp; omega)]
      exact this
    clear hk8
    exact pick_w kf kt
  · rintro i hi _ rfl again ha
    rw [cnd_lt hi, idx_w hi]
    show again (IntKind.i64.wrap ((i : Int) + 1), _) = _
    rw [i64_s i (by omega)]
    exact ha _ (by rw [keys_step l i hi])
/-! ### rows of flows as one -/
theorem r_concat {ll : List (List AFlow')} (h1 : ll.length ≤ 1000) (h2 : ll.flatten.length ≤ 1000000) : slices_Concatapi_Flow_api_Flow ll = some ll.flatten := by
  show slices_Concatapi_Flow_api_FlowW stdW ll = _
  unfold slices_Concatapi_Flow_api_FlowW
  have hf : ∀ i, (ll.take i).flatten.length ≤ 1000000 := fun i => by
    have : ll.flatten = (ll.take i).flatten ++ (ll.drop i).flatten := by rw [← List.flatten_append, List.take_append_drop]
    rw [this, List.length_append] at h2; omega
  have hst : ∀ i (h : i < ll.length), (ll.take (i + 1)).flatten = (ll.take i).flatten ++ ll[i] := fun i h => by
    rw [List.take_succ_eq_append_getElem h, List.flatten_append]; simp
  refine loop_at2 (N := ll.length) (by omega) (fun i => ((((ll.take i).flatten.length : Nat) : Int), (((i : Nat) : Int), ()))) (some ll.flatten) rfl ?_ ?_
  · intro again
    show stdW.cnd (decide ((ll.length : Int) < (ll.length : Int))) _ (stdW.call (growO [] (((ll.take ll.length).flatten.length : Nat) : Int)) _) = _
    rw [cnd_end, List.take_length]
    have e : growO [] (ll.flatten.length : Int) = some ([], ()) := by
      unfold growO
      rw [show (decide (0 ≤ (ll.flatten.length : Int)) && decide (((([] : List F0').length : Int) + (ll.flatten.length : Int)) * 24 ≤ 140737488355328)) = true by
        rw [Bool.and_eq_true, decide_eq_true_eq, decide_eq_true_eq]
        simp only [List.length_nil]
        omega]
      rfl
    rw [call_eq e]
    refine loop_at2 (N := ll.length) (by omega) (fun i => (((i : Nat) : Int), ((ll.take i).flatten, ()))) (some ll.flatten) rfl ?_ ?_
    · intro again2
      show stdW.cnd (decide ((ll.length : Int) < (ll.length : Int))) _ _ = _
      rw [cnd_end, List.take_length]
    · intro i hi again2 ha
      show stdW.cnd (decide ((i : Int) < (ll.length : Int))) (stdW.idx ll (i : Int) _) _ = _
      rw [cnd_lt hi, idx_w hi]
      have := hf (i + 1)
      rw [hst i hi, List.length_append] at this
      show stdW.room ((ll.take i).flatten.length + ll[i].length) 24 (again2 (IntKind.i64.wrap ((i : Int) + 1), ((ll.take i).flatten ++ ll[i], ()))) = _
      rw [room_w (by omega) (by omega), i64_s i (by omega), ← hst i hi]
      exact ha
  · intro i hi again ha
    show stdW.cnd (decide ((i : Int) < (ll.length : Int))) (stdW.idx ll (i : Int) _) _ = _
    rw [cnd_lt hi, idx_w hi]
    have := hf (i + 1)
    rw [hst i hi, List.length_append] at this
    have e : IntKind.i64.wrap ((((ll.take i).flatten.length : Nat) : Int) + (ll[i].length : Int)) = ((((ll.take (i + 1)).flatten.length : Nat)) : Int) := by
      rw [hst i hi, List.length_append, IntKind.wrap_i64]; omega
    show stdW.cnd (decide (IntKind.i64.wrap ((((ll.take i).flatten.length : Nat) : Int) + (ll[i].length : Int)) < 0)) _ (again (IntKind.i64.wrap ((((ll.take i).flatten.length : Nat) : Int) + (ll[i].length : Int)), (IntKind.i64.wrap ((i : Int) + 1), ()))) = _
    rw [e, cnd_n (decide_eq_false (by omega)), i64_s i (by omega)]
    exact ha
end Go.Proofs.YtllkmncnmlmefaaGreat

namespace Go.Proofs.YtllkmncnmlmefaaGreat
open Go Go.Vc Go.RowKit
/-! ### a purse behind some flows -/
def ofFlow (u : AUnit') (x : AFlow') : Bool := decide (x.1 = u)
def amts (l : List AFlow') (u : AUnit') : List Int := (l.filter (ofFlow u)).map amt
def sumU (l : List AFlow') (u : AUnit') : Int := (amts l u).sum
theorem amts_len (l : List AFlow') (u : AUnit') : (amts l u).length ≤ l.length := by
  unfold amts; rw [List.length_map]; exact List.length_filter_le _ _
theorem amts_ok {l : List AFlow'} (h : okF l) (u : AUnit') : ∀ x ∈ amts l u, I64 x := by
  intro x hx
  obtain ⟨y, hy, rfl⟩ := List.mem_map.1 hx
  exact h y (List.mem_filter.1 hy).1
theorem amts_take (l : List AFlow') (u : AUnit') (i : Nat) (h : i < l.length) : amts (l.take (i + 1)) u = amts (l.take i) u ++ (if l[i].1 = u then [l[i].2.1] else []) := by
  unfold amts
  rw [filter_take _ _ _ h, List.map_append]
  unfold ofFlow
  by_cases hu : l[i].1 = u <;> simp [hu, amt]
theorem r_amounts {l : List AFlow'} {u : AUnit'} (hl : l.length ≤ 1000000) : purse_amounts l u = some (amts l u) := by
  show purse_amountsW stdW l u = _
  unfold purse_amountsW
  refine loop_n (N := l.length) (by omega) (fun i s => s = (amts (l.take i) u, ())) (some (amts l u)) rfl ?_ ?_
  · rintro _ again rfl
    rw [cnd_end, List.take_length]
  · rintro i hi _ rfl again ha
    rw [cnd_lt hi]
    refine join_g fun k hk => ?_
    have kk : ∀ v : List Int, k (v, ()) = again (((i + 1 : Nat) : Int), (v, ())) := by intro v; rw [← i64_s i (by omega)]; subst hk; rfl
    clear hk
    have hlen := amts_len (l.take i) u
    rw [List.length_take] at hlen
    rw [idx_w hi, nif_f, eqA]
    by_cases h : l[i].1 = u
    · rw [cnd_y (decide_eq_true h), room_w (by simp; omega) (by simp; omega), kk]
      refine ha _ ?_
      rw [amts_take _ _ _ hi, if_pos h]
    · rw [cnd_n (decide_eq_false h), kk]
      refine ha _ ?_
      rw [amts_take _ _ _ hi, if_neg h, List.append_nil]
def payGo (all : List AFlow') : List AUnit' → List AFlow' → List AFlow' × Int × Unit
  | [], acc => (acc, 0, ())
  | u :: us, acc => if I64 (sumU all u) then (if sumU all u ≠ 0 then payGo all us (acc ++ [(u, sumU all u, ())]) else payGo all us acc) else ([], 7, ())
def payP (l fl : List AFlow') : List AFlow' × Int × Unit := if isP l = true then payGo (l ++ fl) (unitsOf (l ++ fl)) [] else ([], 3, ())
theorem r_pay {l fl : List AFlow'} (h : okF l) (hf : okF fl) (hl : l.length + fl.length ≤ 1000000) : purse_Pay l fl = some (payP l fl) := by
  show purse_PayW stdW l fl = _
  unfold purse_PayW payP
  rw [call_eq (r_is (by omega))]
  by_cases hp : isP l = true
  · rw [hp, cnd_n (by decide), if_pos rfl]
    have hall : okF (l ++ fl) := fun x hx => (List.mem_append.1 hx).elim (h x) (hf x)
    have e1 : slices_Concatapi_Flow_api_Flow (l :: (fl :: [])) = some (l ++ fl) := by
      have := r_concat (ll := l :: (fl :: [])) (by simp) (by simp; omega)
      rw [this]; simp
    have hlen : (l ++ fl).length ≤ 1000000 := by rw [List.length_append]; exact hl
    have e2 := r_named hlen
    rw [call_eq e1, call_eq e2]
    have hul := units_len (l ++ fl)
    generalize l ++ fl = all at *
    generalize unitsOf all = us at *
    refine loop_list (l := us) (by omega) (fun i (s : List AFlow' × List AUnit' × List AFlow' × Unit) => s.1 = all ∧ s.2.1 = us ∧ s.2.2.1.length ≤ i) (fun us' (s : List AFlow' × List AUnit' × List AFlow' × Unit) => some (payGo all us' s.2.2.1)) ⟨rfl, rfl, Nat.le_refl _⟩ ?_ ?_
    · rintro ⟨_, _, acc, ⟨⟩⟩ again ⟨rfl, rfl, _⟩
      rw [cnd_end]; rfl
    · rintro i hi ⟨all', us', acc, ⟨⟩⟩ ⟨hal, hus, hacc⟩ again ha
      have hus : us = us' := hus.symm
      subst hus
      have hal : all' = all := hal
      subst hal
      simp only at hacc
      rw [cnd_lt hi]
      refine join_g fun k hk => ?_
      have kk : ∀ v : List AFlow', k (all', (us, (v, ()))) = again (((i + 1 : Nat) : Int), (all', (us, (v, ())))) := by intro v; rw [← i64_s i (by omega)]; subst hk; rfl
      clear hk
      show stdW.idx us (i : Int) _ = _
      rw [idx_w hi]
      show stdW.nth us (Int.toNat (i : Int)) _ = _
      rw [nth_w hi, call_eq (r_amounts hlen)]
      show _ = some (payGo all' (us[i] :: us.drop (i + 1)) acc)
      rw [payGo]
      have e3 := r_fSum (amts_ok hall us[i]) (Nat.le_trans (amts_len _ _) hlen)
      change fix_Sum (amts all' us[i]) = some (if I64 (sumU all' us[i]) then (sumU all' us[i], 0, ()) else (0, 7, ())) at e3
      by_cases hI : I64 (sumU all' us[i])
      · rw [if_pos hI] at e3
        rw [if_pos hI, call_eq e3]
        show stdW.cnd ((0 : Int) != 0) _ (stdW.cnd (sumU all' us[i] != 0) (stdW.room (acc.length + 1) 24 (k (all', (us, (acc ++ [(us[i], sumU all' us[i], ())], ()))))) (k (all', (us, (acc, ()))))) = _
        rw [cnd_n (by decide)]
        by_cases h0 : sumU all' us[i] = 0
        · rw [if_neg (by simp [h0]), cnd_n (by simp [h0])]
          exact (kk acc).trans (ha _ ⟨rfl, rfl, by simp only; omega⟩)
        · rw [if_pos h0, cnd_y (by simp [h0]), room_w (by omega) (by omega)]
          exact (kk (acc ++ [(us[i], sumU all' us[i], ())])).trans (ha _ ⟨rfl, rfl, by simp; omega⟩)
      · rw [if_neg hI] at e3
        rw [if_neg hI, call_eq e3]
        show stdW.cnd ((7 : Int) != 0) (some ([], (7, ()))) _ = _
        rw [cnd_y (by decide)]
  · have hp : isP l = false := by simpa using hp
    rw [hp, cnd_y (by decide), if_neg (by simp)]
end Go.Proofs.YtllkmncnmlmefaaGreat

namespace Go.Proofs.YtllkmncnmlmefaaGreat
open Go Go.Vc Go.RowKit
/-! ### differences of 128 bits; a payment; that anything is paid at all -/
theorem not_i (a : Int) (h : -9223372036854775808 ≤ a ∧ a ≤ 9223372036854775807) : bits .xor .i64 (-1) a = -1 - a := by
  have e1 : BitVec.ofInt 64 (-1) = BitVec.allOnes 64 := by decide
  show IntKind.i64.wrap (((BitVec.ofInt 64 (-1) ^^^ BitVec.ofInt 64 a).toNat : Nat) : Int) = _
  rw [e1, BitVec.allOnes_xor, BitVec.toNat_not, BitVec.toNat_ofInt, IntKind.wrap_i64]
  have : (2 : Int) ^ 64 = 18446744073709551616 := by decide
  omega
theorem not_u (a : Int) (h : 0 ≤ a ∧ a < 18446744073709551616) : bits .xor .u64 18446744073709551615 a = 18446744073709551615 - a := by
  have e1 : BitVec.ofInt 64 18446744073709551615 = BitVec.allOnes 64 := by decide
  show IntKind.u64.wrap (((BitVec.ofInt 64 18446744073709551615 ^^^ BitVec.ofInt 64 a).toNat : Nat) : Int) = _
  rw [e1, BitVec.allOnes_xor, BitVec.toNat_not, BitVec.toNat_ofInt, IntKind.wrap_u64]
  have : (2 : Int) ^ 64 = 18446744073709551616 := by decide
  omega
theorem r_wSub {a b : Int} (ha : In128 a) (hb : In128 b) : wide_Sub (wide a) (wide b) = some (fit (a - b)) := by
  show wide_SubW stdW (wide a) (wide b) = _
  unfold wide_SubW
  have ha' := ha
  have hb' := hb
  unfold In128 at ha' hb'
  have t0 : InTot 0 := by unfold InTot; omega
  have t1 : InTot a := by unfold InTot; omega
  have t2 : InTot (a + (-b - 1)) := by unfold InTot; omega
  have t3 : InTot (a - b) := by unfold InTot; omega
  have s1 : wide_total_add 0 0 0 (wide a) = some ((), totT a) := by
    have := r_tadd 0 (wide a) t0 (wide_ok a ha)
    rw [wv_wide, Int.zero_add] at this
    exact this
  rw [call_eq s1]
  have ec : (bits .xor .i64 (if true = true then (-1) else (if true = true then ((2 ^ ((IntKind.bits .i64) - 1)) - 1) else ((2 ^ (IntKind.bits .i64)) - 1))) (wide b).1, bits .xor .u64 (if false = true then (-1) else (if false = true then ((2 ^ ((IntKind.bits .u64) - 1)) - 1) else ((2 ^ (IntKind.bits .u64)) - 1))) (wide b).2.1, ()) = wide (-b - 1) := by
    have c1 : (if false = true then (-1 : Int) else (if false = true then ((2 ^ ((IntKind.bits .u64) - 1)) - 1) else ((2 ^ (IntKind.bits .u64)) - 1))) = 18446744073709551615 := by decide
    rw [c1, if_pos rfl]
    unfold wide
    show (bits .xor .i64 (-1) (b / 18446744073709551616), bits .xor .u64 18446744073709551615 (b % 18446744073709551616), ()) = _
    rw [not_i _ (by omega), not_u _ (by omega)]
    refine Prod.ext ?_ (Prod.ext ?_ rfl)
    · show -1 - b / 18446744073709551616 = (-b - 1) / 18446744073709551616; omega
    · show 18446744073709551615 - b % 18446744073709551616 = (-b - 1) % 18446744073709551616; omega
  have s2 := r_tadd a (wide (-b - 1)) t1 (wide_ok _ (by unfold In128; omega))
  rw [wv_wide] at s2
  show stdW.call (wide_total_add (totT a).1 (totT a).2.1 (totT a).2.2.1 _) _ = _
  rw [ec, call_eq s2, call_eq (r_wOf 1 (by unfold I64; omega))]
  have s3 := r_tadd (a + (-b - 1)) (wide 1) t2 (wide_ok _ (by unfold In128; omega))
  rw [wv_wide, show a + (-b - 1) + 1 = a - b by omega] at s3
  show stdW.call (wide_total_add (totT (a + (-b - 1))).1 (totT (a + (-b - 1))).2.1 (totT (a + (-b - 1))).2.2.1 (wide 1)) _ = _
  rw [call_eq s3]
  show stdW.call (wide_total_done (totT (a - b)).1 (totT (a - b)).2.1 (totT (a - b)).2.2.1) _ = _
  rw [call_eq (r_tdone _ t3)]
theorem r_fSub {a b : Int} (ha : I64 a) (hb : I64 b) : fix_Sub a b = some (fits64 (a - b)) := by
  show fix_SubW stdW a b = _
  unfold fix_SubW
  have hd : In128 (a - b) := by unfold I64 at ha hb; unfold In128; omega
  have e : fit (a - b) = (wide (a - b), 0, ()) := if_pos hd
  rw [call_eq (r_wOf a ha), call_eq (r_wOf b hb), call_eq (r_wSub (i64_128 ha) (i64_128 hb)), e]
  show stdW.call (fix_narrow (wide (a - b)) 0) _ = _
  rw [call_eq (r_narrow0 hd)]
def moveP (l : List AFlow') (f t : AUnit') (n : Int) : List AFlow' × Int × Unit :=
  if I64 (-n) then payP l [(f, (-n, ())), (t, (n, ()))] else if isP l = true then ([], (7, ())) else ([], (3, ()))
theorem r_move {l : List AFlow'} {f t : AUnit'} {n : Int} (h : okF l) (hn : I64 n) (hl : l.length ≤ 900000) : purse_Move l f t n = some (moveP l f t n) := by
  show purse_MoveW stdW l f t n = _
  unfold purse_MoveW moveP
  have e := r_fSub (a := 0) (b := n) (by unfold I64; omega) hn
  rw [Int.zero_sub] at e
  unfold fits64 at e
  by_cases hI : I64 (-n)
  · rw [if_pos hI] at e
    rw [if_pos hI, call_eq e]
    refine join_g fun k hk => ?_
    show stdW.cnd ((0 : Int) != 0) _ _ = _
    rw [cnd_n (by decide)]
    subst hk
    show stdW.cnd false _ (stdW.call (purse_Pay l [(f, (-n, ())), (t, (n, ()))]) _) = _
    rw [cnd_n rfl, call_eq (r_pay h (by
      intro x hx
      simp only [List.mem_cons, List.not_mem_nil, or_false] at hx
      rcases hx with rfl | rfl
      · exact hI
      · exact hn) (by simp; omega))]
  · rw [if_neg hI] at e
    rw [if_neg hI, call_eq e]
    refine join_g fun k hk => ?_
    show stdW.cnd ((7 : Int) != 0) _ _ = _
    rw [cnd_y (by decide), call_eq (r_is (by omega))]
    subst hk
    by_cases hp : isP l = true
    · rw [hp, if_pos rfl]; rfl
    · have hp : isP l = false := by simpa using hp
      rw [hp, if_neg (by simp)]
      show stdW.cnd false _ (stdW.call (purse_Pay l _) _) = _
      unfold I64 at hI hn
      have hn2 : n = -9223372036854775808 := by omega
      rw [cnd_n rfl, call_eq (r_pay h (by
        intro x hx
        simp only [List.mem_cons, List.not_mem_nil, or_false] at hx
        rcases hx with rfl | rfl
        · show I64 0; unfold I64; omega
        · show I64 n; unfold I64; omega) (by simp; omega))]
      unfold payP
      rw [hp, if_neg (by simp)]
end Go.Proofs.YtllkmncnmlmefaaGreat

namespace Go.Proofs.YtllkmncnmlmefaaGreat
open Go Go.Vc Go.RowKit
/-! ### flows may come in any order -/
theorem eqF (a b : AFlow') : (a.1.1 == b.1.1 && (a.1.2.1 == b.1.2.1 && a.2.1 == b.2.1)) = decide (a = b) := by
  by_cases h : a = b
  · subst h; simp
  · rw [decide_eq_false h]
    cases hc : (a.1.1 == b.1.1 && (a.1.2.1 == b.1.2.1 && a.2.1 == b.2.1)) with
    | false => rfl
    | true =>
      simp only [Bool.and_eq_true, beq_iff_eq] at hc
      exact absurd (Prod.ext (extA hc.1 hc.2.1) (Prod.ext hc.2.2 rfl)) h
theorem r_same {a : List AFlow'} (hl : a.length ≤ 1000000) : ref17_Same a a = some true := by
  show ref17_SameW stdW a a = _
  unfold ref17_SameW
  rw [cnd_n (by simp)]
  refine loop_n (N := a.length) (by omega) (fun _ _ => True) (some true) trivial ?_ ?_
  · rintro _ again _
    rw [cnd_end]
  · rintro i hi _ _ again ha
    rw [cnd_lt hi, idx_w hi, idx_w hi, nif_t, eqF, cnd_n (by simp), i64_s i (by omega)]
    exact ha _ trivial
theorem payGo_len (all : List AFlow') : ∀ (us : List AUnit') (acc : List AFlow'), (payGo all us acc).1.length ≤ acc.length + us.length
  | [], acc => by simp [payGo]
  | u :: us, acc => by
    unfold payGo
    split
    · split
      · have := payGo_len all us (acc ++ [(u, sumU all u, ())]); simp at this ⊢; omega
      · have := payGo_len all us acc; simp at this ⊢; omega
    · simp
theorem payP_len (l f : List AFlow') : (payP l f).1.length ≤ l.length + f.length := by
  unfold payP
  split
  · have := payGo_len (l ++ f) (unitsOf (l ++ f)) []
    have h2 := units_len (l ++ f)
    simp at this h2 ⊢; omega
  · simp
theorem r_few17 (l : List AFlow') (hl : l.length ≤ 9223372036854775807) : law17_Few l = some (l.take 20) := by
  show law17_FewW stdW l = _
  unfold law17_FewW
  by_cases h : 20 < l.length
  · rw [cnd_y (decide_eq_true (by omega)), bnd_w (by omega) (by omega)]; rfl
  · rw [cnd_n (decide_eq_false (by omega)), List.take_of_length_le (by omega)]
end Go.Proofs.YtllkmncnmlmefaaGreat

namespace Go.Proofs.YtllkmncnmlmefaaGreat
open Go Go.Vc Go.RowKit
/-- a loop whose state is known round by round -/
theorem loop_at {X β : Type} {N : Nat} (hN : N < 9223372036854775808) {f : X → (X → Option β) → Option β} (st : Nat → X) (r : Option β)
    (hend : ∀ again : X → Option β, f (st N) again = r) (hstep : ∀ i, i < N → ∀ again : X → Option β, again (st (i + 1)) = r → f (st i) again = r) : stdW.loop f (st 0) = r := by
  have key : ∀ n i, i ≤ N → N - i < n → loopF n f (st i) = r := by
    intro n
    induction n with
    | zero => intro i _ h; omega
    | succ n ih =>
      intro i hi hn
      show f (st i) (loopF n f) = r
      by_cases h : i < N
      · exact hstep i h _ (ih (i + 1) (by omega) (by omega))
      · have : i = N := by omega
        subst this; exact hend _
  show loopF FU f (st 0) = r
  exact key FU 0 (Nat.zero_le _) (by rw [FU_eq]; omega)
/-! ### the reference's units -/
def insL (l : List AFlow') : List AUnit' := l.foldl (fun a x => insA x.1 a) []
theorem insL_srt (l : List AFlow') : SrtA (insL l) := (ins_all l [] List.Pairwise.nil).1
theorem insL_units (l : List AFlow') : insL l = unitsOf l := ins_units l
theorem insL_len (l : List AFlow') : (insL l).length ≤ l.length := by rw [insL_units]; exact units_len l
theorem insL_step (l : List AFlow') (i : Nat) (h : i < l.length) : insL (l.take (i + 1)) = insA l[i].1 (insL (l.take i)) := by
  unfold insL
  rw [List.take_succ_eq_append_getElem h, List.foldl_append]; rfl
theorem r_units {l : List AFlow'} (hl : l.length ≤ 1000000) : ref17_Units l = some (unitsOf l) := by
  show ref17_UnitsW stdW l = _
  unfold ref17_UnitsW
  refine loop_at (N := l.length) (by omega) (fun i => (insL (l.take i), ((i : Int), ()))) (some (unitsOf l)) ?_ ?_
  · intro again
    show stdW.cnd (decide ((l.length : Int) < (l.length : Int))) _ _ = _
    rw [cnd_end, List.take_length, insL_units]
  · intro i hi again ha
    show stdW.cnd (decide ((i : Int) < (l.length : Int))) _ _ = _
    rw [cnd_lt hi]
    refine join_g fun k hk => ?_
    have kk : k (insL (l.take (i + 1)), ()) = some (unitsOf l) := by
      subst hk
      show again (insL (l.take (i + 1)), (IntKind.i64.wrap ((i : Int) + 1), ())) = _
      rw [i64_s i (by omega)]; exact ha
    clear hk ha
    show stdW.idx l (i : Int) _ = _
    rw [idx_w hi]
    rw [insL_step l i hi] at kk
    have hs := insL_srt (l.take i)
    have hlen : (insL (l.take i)).length ≤ 1000000 := Nat.le_trans (insL_len _) (by rw [List.length_take]; omega)
    generalize insL (l.take i) = out at *
    generalize l[i].1 = u at *
    refine loop_at (N := out.length) (by omega) (fun j => ((((lowU u (out.take j)).length : Nat) : Int), (decide (u ∈ out.take j), ((j : Int), ())))) (some (unitsOf l)) ?_ ?_
    · intro again2
      show stdW.cnd (decide ((out.length : Int) < (out.length : Int))) _ (stdW.cnd (!decide (u ∈ out.take out.length)) (stdW.bnd (((lowU u (out.take out.length)).length : Nat) : Int) out.length _) (k (out, ()))) = _
      rw [cnd_end, List.take_length]
      obtain ⟨e1, e2⟩ := low_take hs u
      have hle : (lowU u out).length ≤ out.length := List.length_filter_le _ _
      by_cases hu : u ∈ out
      · rw [cnd_n (by simp [hu])]
        rw [insA, if_pos hu] at kk; exact kk
      · rw [cnd_y (by simp [hu]), bnd_w (by omega) (by omega)]
        have l1 : (out.take (lowU u out).length).length ≤ 1000000 := by rw [List.length_take]; omega
        show stdW.room (out.take (lowU u out).length).length 16 (stdW.room ((out.take (lowU u out).length).length + 1) 16 (stdW.bnd (((lowU u out).length : Nat) : Int) out.length _)) = _
        rw [room_w (by omega) (by omega), room_w (by omega) (by omega), bnd_w (by omega) (by omega)]
        show stdW.room ((out.take (lowU u out).length ++ [u]).length + (out.drop (lowU u out).length).length) 16 (k ((out.take (lowU u out).length ++ [u]) ++ out.drop (lowU u out).length, ())) = _
        rw [room_w (by simp only [List.length_append, List.length_drop, List.length_cons, List.length_nil]; omega) (by simp only [List.length_append, List.length_drop, List.length_cons, List.length_nil]; omega), e1, e2]
        rw [insA, if_neg hu] at kk
        rw [List.append_assoc]; exact kk
    · intro j hj again2 ha2
      show stdW.cnd (decide ((j : Int) < (out.length : Int))) _ _ = _
      rw [cnd_lt hj]
      refine join_g fun k9 hk9 => ?_
      have k9k : ∀ a b, k9 (a, (b, ())) = again2 (a, (b, (((j + 1 : Nat) : Int), ()))) := by
        intro a b; rw [← i64_s j (by omega)]; subst hk9; rfl
      clear hk9
      refine join_g fun k13 hk13 => ?_
      have mem : decide (u ∈ out.take (j + 1)) = (decide (u ∈ out.take j) || decide (out[j] = u)) := by
        rw [List.take_succ_eq_append_getElem hj]
        rw [Bool.eq_iff_iff]
        simp only [decide_eq_true_eq, Bool.or_eq_true, List.mem_append, List.mem_singleton]
        exact or_congr_right ⟨fun h => h.symm, fun h => h.symm⟩
      have fin : ∀ b, b = decide (u ∈ out.take (j + 1)) → k13 (b, ()) = some (unitsOf l) := by
        rintro _ rfl
        subst hk13
        show stdW.idx out (j : Int) _ = _
        rw [idx_w hj, call_eq (r_less15 _ _)]
        rw [low_step hs u j hj] at ha2
        by_cases hlt : ltA out[j] u
        · rw [if_pos hlt] at ha2
          rw [decide_eq_true hlt, cnd_y rfl]
          show k9 (IntKind.i64.wrap ((j : Int) + 1), _) = _
          rw [i64_s j (by omega)]
          exact (k9k _ _).trans ha2
        · rw [if_neg hlt] at ha2
          rw [decide_eq_false hlt, cnd_n rfl]
          exact (k9k _ _).trans ha2
      clear hk13
      show stdW.cnd (decide (u ∈ out.take j)) (k13 (true, ())) (stdW.idx out (j : Int) _) = _
      by_cases h1 : u ∈ out.take j
      · rw [cnd_y (decide_eq_true h1)]
        exact fin _ (by rw [mem]; simp [h1])
      · rw [cnd_n (decide_eq_false h1), idx_w hj, nif_f, eqA]
        exact fin _ (by rw [mem]; simp [h1])
end Go.Proofs.YtllkmncnmlmefaaGreat

namespace Go.Proofs.YtllkmncnmlmefaaGreat
open Go Go.Vc Go.RowKit
theorem loop_az {X β : Type} {N : Nat} (hN : N < 9223372036854775808) {f : X → (X → Option β) → Option β} (st : Nat → X) (r : Option β) {z0 : X} (hz : z0 = st 0)
    (hend : ∀ again : X → Option β, f (st N) again = r) (hstep : ∀ i, i < N → ∀ again : X → Option β, again (st (i + 1)) = r → f (st i) again = r) : stdW.loop f z0 = r := by
  subst hz; exact loop_at hN st r hend hstep
/-! ### the reference's purse behind some flows -/
theorem sumU_take (l : List AFlow') (u : AUnit') (i : Nat) (h : i < l.length) : sumU (l.take (i + 1)) u = sumU (l.take i) u + (if l[i].1 = u then l[i].2.1 else 0) := by
  unfold sumU
  rw [amts_take _ _ _ h, List.sum_append]
  split <;> simp
theorem sumU_sml {l : List AFlow'} (h : okF l) (u : AUnit') (hl : l.length ≤ 1000000) : sml (sumU l u) := by
  have h1 := sum_in (amts_ok h u)
  have h2 := amts_len l u
  unfold sumU sml; omega
theorem r_pay17 {l fl : List AFlow'} (h : okF l) (hf : okF fl) (hl : l.length + fl.length ≤ 1000000) : ref17_Pay l fl = some (payP l fl) := by
  show ref17_PayW stdW l fl = _
  unfold ref17_PayW payP
  rw [call_eq (r_is17 (by omega))]
  by_cases hp : isP l = true
  · rw [hp, cnd_n (by decide), if_pos rfl, room_w (by omega) (by omega), room_w (by omega) (by omega)]
    have hall : okF (l ++ fl) := fun x hx => (List.mem_append.1 hx).elim (h x) (hf x)
    have hlen : (l ++ fl).length ≤ 1000000 := by rw [List.length_append]; exact hl
    rw [call_eq (r_units hlen)]
    have hul := units_len (l ++ fl)
    generalize l ++ fl = all at *
    generalize unitsOf all = us at *
    refine loop_list (l := us) (by omega) (fun i (s : List AFlow' × Unit) => s.1.length ≤ i) (fun us' (s : List AFlow' × Unit) => some (payGo all us' s.1)) (Nat.le_refl _) ?_ ?_
    · rintro ⟨acc, ⟨⟩⟩ again _
      rw [cnd_end]; rfl
    · rintro i hi ⟨acc, ⟨⟩⟩ hacc again ha
      simp only at hacc
      rw [cnd_lt hi]
      refine join_g fun k hk => ?_
      have kk : ∀ v : List AFlow', v.length ≤ i + 1 → k (v, ()) = some (payGo all (us.drop (i + 1)) v) := by
        intro v hv
        subst hk
        show again (IntKind.i64.wrap ((i : Int) + 1), (v, ())) = _
        rw [i64_s i (by omega)]
        exact ha (v, ()) hv
      clear hk ha
      show _ = some (payGo all (us[i] :: us.drop (i + 1)) acc)
      rw [payGo]
      refine loop_az (N := all.length) (by omega) (fun j => (((j : Nat) : Int), ((big (sumU (all.take j) us[i])).1, ((big (sumU (all.take j) us[i])).2.1, (acc, ()))))) _ (by rw [List.take_zero, show sumU [] us[i] = 0 from rfl, big0]; rfl) ?_ ?_
      · intro again2
        show stdW.cnd (decide ((all.length : Int) < (all.length : Int))) _ (stdW.call (ref01_Fits (big (sumU (all.take all.length) us[i]))) _) = _
        rw [cnd_end, List.take_length, call_eq (r_fits (sumU_sml hall us[i] hlen))]
        by_cases hI : I64 (sumU all us[i])
        · rw [decide_eq_true hI, cnd_n (by decide), if_pos hI]
          have e := r_int hI
          show stdW.call (ref01_Int (big (sumU all us[i]))) _ = _
          rw [call_eq e]
          by_cases h0 : sumU all us[i] = 0
          · rw [cnd_n (by simp [h0]), if_neg (by simp [h0])]
            exact kk acc (by omega)
          · rw [cnd_y (by simp [h0]), if_pos h0]
            show stdW.idx us (i : Int) _ = _
            rw [idx_w hi, call_eq e]
            show stdW.room (acc.length + 1) 24 (k (acc ++ [(us[i], sumU all us[i], ())], ())) = _
            rw [room_w (by omega) (by omega)]
            exact kk _ (by simp; omega)
        · rw [decide_eq_false hI, cnd_y (by decide), if_neg hI]
      · intro j hj again2 ha2
        show stdW.cnd (decide ((j : Int) < (all.length : Int))) _ _ = _
        rw [cnd_lt hj]
        refine join_g fun k2 hk2 => ?_
        have kk2 : k2 ((big (sumU (all.take (j + 1)) us[i])).1, ((big (sumU (all.take (j + 1)) us[i])).2.1, (acc, ()))) = again2 (((j + 1 : Nat) : Int), ((big (sumU (all.take (j + 1)) us[i])).1, ((big (sumU (all.take (j + 1)) us[i])).2.1, (acc, ())))) := by
          rw [← i64_s j (by omega)]; subst hk2; rfl
        rw [ha2] at kk2
        clear hk2 ha2
        show stdW.idx all (j : Int) _ = _
        rw [idx_w hj]
        show stdW.idx us (i : Int) _ = _
        rw [idx_w hi, nif_f, eqA]
        rw [sumU_take _ _ _ hj] at kk2
        by_cases hu : all[j].1 = us[i]
        · rw [if_pos hu] at kk2
          rw [cnd_y (decide_eq_true hu)]
          show stdW.idx all (j : Int) _ = _
          have h2 : I64 all[j].2.1 := hall _ (List.getElem_mem hj)
          rw [idx_w hj, both_w, call_eq (r_of h2)]
          show stdW.call (ref01_Add (big (sumU (all.take j) us[i])) (big all[j].2.1)) _ = _
          rw [call_eq (r_addB (sumU_sml (hall.take j) us[i] (by rw [List.length_take]; omega)) (i64_sml h2))]
          exact kk2
        · rw [if_neg hu, Int.add_zero] at kk2
          rw [cnd_n (decide_eq_false hu)]
          exact kk2
  · have hp : isP l = false := by simpa using hp
    rw [hp, cnd_y (by decide), if_neg (by simp)]
end Go.Proofs.YtllkmncnmlmefaaGreat

namespace Go.Proofs.YtllkmncnmlmefaaGreat
open Go Go.Vc Go.RowKit
theorem r_cmpB {a b : Int} (ha : sml a) (hb : sml b) : ref01_Cmp (big a) (big b) = some (if a - b = 0 then 0 else if a - b < 0 then -1 else 1) := by
  unfold sml at *
  have := r_cmp (nb_big a) (nb_big b) (Nat.le_trans (len_big2 ha) (by decide)) (Nat.le_trans (len_big2 hb) (by decide))
  rwa [bv_big, bv_big] at this
/-! ### what a payment leaves -/
theorem payGo_ok (all : List AFlow') : ∀ (us : List AUnit') (acc : List AFlow'), (payGo all us acc).2.1 = 0 →
    (payGo all us acc).1 = acc ++ (us.filter fun u => decide (sumU all u ≠ 0)).map (fun u => (u, sumU all u, ())) ∧ ∀ u ∈ us, I64 (sumU all u)
  | [], acc, _ => by simp [payGo]
  | u :: us, acc, h => by
    unfold payGo at h ⊢
    by_cases hI : I64 (sumU all u)
    · rw [if_pos hI] at h ⊢
      by_cases h0 : sumU all u ≠ 0
      · rw [if_pos h0] at h ⊢
        obtain ⟨h1, h2⟩ := payGo_ok all us _ h
        refine ⟨?_, fun x hx => ?_⟩
        · rw [h1, List.filter_cons, if_pos (by simpa using h0)]; simp
        · rcases List.mem_cons.1 hx with rfl | hx
          · exact hI
          · exact h2 x hx
      · rw [if_neg h0] at h ⊢
        obtain ⟨h1, h2⟩ := payGo_ok all us _ h
        refine ⟨?_, fun x hx => ?_⟩
        · rw [h1, List.filter_cons, if_neg (by simpa using h0)]
        · rcases List.mem_cons.1 hx with rfl | hx
          · exact hI
          · exact h2 x hx
    · rw [if_neg hI] at h; simp at h
def resP (all : List AFlow') (us : List AUnit') : List AFlow' := (us.filter fun u => decide (sumU all u ≠ 0)).map fun u => (u, sumU all u, ())
end Go.Proofs.YtllkmncnmlmefaaGreat

namespace Go.Proofs.YtllkmncnmlmefaaGreat
open Go Go.Vc Go.RowKit
theorem payP_ok {l f : List AFlow'} (h : (payP l f).2.1 = 0) : isP l = true ∧ (payP l f).1 = resP (l ++ f) (unitsOf (l ++ f)) ∧ ∀ u ∈ unitsOf (l ++ f), I64 (sumU (l ++ f) u) := by
  unfold payP at h ⊢
  by_cases hp : isP l = true
  · rw [if_pos hp] at h ⊢
    obtain ⟨h1, h2⟩ := payGo_ok _ _ _ h
    exact ⟨hp, by rw [h1, List.nil_append]; rfl, h2⟩
  · rw [if_neg hp] at h; simp at h
theorem resP_ok {all : List AFlow'} {us : List AUnit'} (h : ∀ u ∈ us, I64 (sumU all u)) : okF (resP all us) := by
  intro x hx
  obtain ⟨u, hu, rfl⟩ := List.mem_map.1 hx
  exact h u (List.mem_filter.1 hu).1
end Go.Proofs.YtllkmncnmlmefaaGreat

namespace Go.Proofs.YtllkmncnmlmefaaGreat
open Go Go.Vc Go.RowKit
end Go.Proofs.YtllkmncnmlmefaaGreat

namespace Go.Proofs.YtllkmncnmlmefaaGreat
open Go Go.Vc Go.RowKit
/-! sign -/
def szOf (z : Int) : WideSize' := (z / 18446744073709551616, z % 18446744073709551616, ())
def w128 (z : Int) : WideWide' := (IntKind.i64.wrap (z / 18446744073709551616), z % 18446744073709551616, ())
theorem w128_in (z : Int) (h : In128 z) : w128 z = wide z := by
  unfold In128 at h; unfold w128 wide; rw [IntWalk.i64_in _ (by omega)]
def absI (z : Int) : Int := if z < 0 then -z else z
theorem r_below (w : WideWide') : wide_Wide_below w = some (decide (w.1 < 0)) := rfl
theorem r_size (x : WideWide') (hx : wOk x) : wide_Wide_size x = some (szOf (absI (wv x))) := by
  unfold wOk at hx
  show wide_Wide_sizeW stdW x = _
  unfold wide_Wide_sizeW
  rw [call_eq (r_below _)]
  by_cases h : x.1 < 0
  · rw [cnd_n (by simp [h]), call_eq (sub64_is (by omega) (by omega) (by omega) (by omega) (by omega)), call_eq (sub64_is (by omega) (by rw [IntKind.wrap_u64]; omega) (by rw [IntKind.wrap_u64]; omega) (by dsimp only; split <;> omega) (by dsimp only; split <;> omega))]
    unfold szOf absI wv
    refine congrArg some (Prod.ext ?_ (Prod.ext ?_ rfl))
    · dsimp only; rw [IntKind.wrap_u64]; split <;> split <;> omega
    · dsimp only; split <;> omega
  · rw [cnd_y (by simp [h])]
    unfold szOf absI wv
    refine congrArg some (Prod.ext ?_ (Prod.ext ?_ rfl))
    · dsimp only; rw [IntKind.wrap_u64]; split <;> omega
    · dsimp only; split <;> omega
theorem lo_fits (z : Int) (hz : 0 ≤ z ∧ z < 340282366920938463463374607431768211456) (h : z / 18446744073709551616 = 9223372036854775808) : ((z % 18446744073709551616) == 0) = decide (In128 (-z)) := by
  by_cases h0 : z % 18446744073709551616 = 0
  · have : In128 (-z) := by unfold In128; omega
    rw [decide_eq_true this]; simp [h0]
  · have : ¬ In128 (-z) := by unfold In128; omega
    rw [decide_eq_false this]; simp [h0]
theorem signed_raw (hi lo : Int) (m : Bool) : wide_size_signed (hi, lo, ()) m = (
    stdW.cnd (!m) (some (((IntKind.i64.wrap hi), lo, ()), ((decide (hi < 9223372036854775808)), ())))
    (stdW.call (sub64 0 lo 0) fun v1 => stdW.call (sub64 0 hi v1.2.1) fun v2 =>
    stdW.cnd (decide (hi < 9223372036854775808)) (some (((IntKind.i64.wrap v2.1), (v1.1, ())), (true, ())))
     (
     stdW.cnd (hi == 9223372036854775808) (some (((IntKind.i64.wrap v2.1), (v1.1, ())), ((lo == 0), ())))
      (some (((IntKind.i64.wrap v2.1), (v1.1, ())), (false, ())))))) := rfl
theorem r_signed (z : Int) (m : Bool) (hz : 0 ≤ z ∧ z < 340282366920938463463374607431768211456) : wide_size_signed (szOf z) m = some (w128 (if m = true then -z else z), decide (In128 (if m = true then -z else z)), ()) := by
  unfold szOf
  rw [signed_raw]
  cases m
  · rw [cnd_y (by rfl)]
    simp only [Bool.false_eq_true, if_false]
    unfold w128
    congr 3
    unfold In128; apply decide_eq_decide.2; omega
  · rw [cnd_n (by rfl), call_eq (sub64_is (by omega) (by omega) (by omega) (by omega) (by omega)), call_eq (sub64_is (by omega) (by omega) (by omega) (by dsimp only; split <;> omega) (by dsimp only; split <;> omega))]
    have e : ((IntKind.i64.wrap ((0 - z / 18446744073709551616 - (if 0 < z % 18446744073709551616 + 0 then 1 else 0)) % 18446744073709551616), ((0 - z % 18446744073709551616 - 0) % 18446744073709551616, ())) : WideWide') = w128 (-z) := by
      rw [wrap_mod_i]; unfold w128
      refine Prod.ext ?_ (Prod.ext ?_ rfl)
      · dsimp only; congr 1; split <;> omega
      · dsimp only; omega
    show _ = some (w128 (-z), decide (In128 (-z)), ())
    rw [← e]
    by_cases h1 : z / 18446744073709551616 < 9223372036854775808
    · rw [cnd_y (decide_eq_true h1)]
      have : In128 (-z) := by unfold In128; omega
      rw [decide_eq_true this]
    · rw [cnd_n (decide_eq_false h1)]
      by_cases h2 : z / 18446744073709551616 = 9223372036854775808
      · rw [cnd_y (by simp [h2]), lo_fits z hz h2]
      · rw [cnd_n (by simp [h2])]
        have : ¬ In128 (-z) := by unfold In128; omega
        rw [decide_eq_false this]

/-! products of 64 bits -/
theorem and32 (a : Int) (h : 0 ≤ a ∧ a < 18446744073709551616) : bits .and .u64 a 4294967295 = a % 4294967296 := by
  obtain ⟨n, rfl⟩ := Int.eq_ofNat_of_zero_le h.1
  show IntKind.u64.wrap (((BitVec.ofInt 64 ((n : Nat) : Int) &&& BitVec.ofInt 64 4294967295).toNat : Nat) : Int) = _
  rw [BitVec.toNat_and, BitVec.toNat_ofInt, BitVec.toNat_ofInt]
  have e1 : (((n : Nat) : Int) % ((2 ^ 64 : Nat) : Int)).toNat = n := by
    have : ((2 ^ 64 : Nat) : Int) = 18446744073709551616 := by decide
    omega
  have e2 : ((4294967295 : Int) % ((2 ^ 64 : Nat) : Int)).toNat = 2 ^ 32 - 1 := by decide
  rw [e1, e2, Nat.and_two_pow_sub_one_eq_mod, IntKind.wrap_u64]
  have : (2 : Nat) ^ 32 = 4294967296 := by decide
  rw [this]; omega
theorem fdiv32 (a : Int) (h : 0 ≤ a) : Int.fdiv a (2 ^ (Min.min (Int.toNat 32) (IntKind.bits .u64))) = a / 4294967296 := by
  have e : (2 : Int) ^ (Min.min (Int.toNat 32) (IntKind.bits .u64)) = 4294967296 := by decide +kernel
  rw [e, Int.fdiv_eq_ediv_of_nonneg _ (by omega)]
theorem mul_bd {a b : Int} (ha : 0 ≤ a ∧ a < 4294967296) (hb : 0 ≤ b ∧ b < 4294967296) : 0 ≤ a * b ∧ a * b ≤ 18446744065119617025 := by
  refine ⟨Int.mul_nonneg ha.1 hb.1, ?_⟩
  have h1 : a * b ≤ 4294967295 * b := Int.mul_le_mul_of_nonneg_right (by omega) hb.1
  omega
theorem r_mul64 {x y : Int} (hx : 0 ≤ x ∧ x < 18446744073709551616) (hy : 0 ≤ y ∧ y < 18446744073709551616) : math_bits_Mul64 x y = some (x * y / 18446744073709551616, x * y % 18446744073709551616, ()) := by
  show math_bits_Mul64W stdW x y = _
  unfold math_bits_Mul64W
  rw [nn_w (by omega), nn_w (by omega), nn_w (by omega), nn_w (by omega), nn_w (by omega)]
  simp only [fdiv32 x hx.1, fdiv32 y hy.1, and32 x hx, and32 y hy]
  have hx1 : 0 ≤ x / 4294967296 ∧ x / 4294967296 < 4294967296 := by omega
  have hx0 : 0 ≤ x % 4294967296 ∧ x % 4294967296 < 4294967296 := by omega
  have hy1 : 0 ≤ y / 4294967296 ∧ y / 4294967296 < 4294967296 := by omega
  have hy0 : 0 ≤ y % 4294967296 ∧ y % 4294967296 < 4294967296 := by omega
  have ex : x = x / 4294967296 * 4294967296 + x % 4294967296 := by omega
  have ey : y = y / 4294967296 * 4294967296 + y % 4294967296 := by omega
  have exy : x * y = (x / 4294967296) * (y / 4294967296) * 18446744073709551616 + ((x / 4294967296) * (y % 4294967296) + (x % 4294967296) * (y / 4294967296)) * 4294967296 + (x % 4294967296) * (y % 4294967296) := by
    generalize x / 4294967296 = x1 at *
    generalize x % 4294967296 = x0 at *
    generalize y / 4294967296 = y1 at *
    generalize y % 4294967296 = y0 at *
    rw [ex, ey, Int.add_mul, Int.mul_add, Int.mul_add]
    have a1 : x1 * 4294967296 * (y1 * 4294967296) = x1 * y1 * 18446744073709551616 := by
      rw [Int.mul_assoc, Int.mul_left_comm 4294967296, ← Int.mul_assoc]; rfl
    have a2 : x1 * 4294967296 * y0 = x1 * y0 * 4294967296 := by rw [Int.mul_assoc, Int.mul_comm 4294967296, ← Int.mul_assoc]
    have a3 : x0 * (y1 * 4294967296) = x0 * y1 * 4294967296 := by rw [← Int.mul_assoc]
    rw [a1, a2, a3, Int.add_mul]; omega
  have hD := mul_bd hx1 hy1
  have hB := mul_bd hx1 hy0
  have hC := mul_bd hx0 hy1
  have hA := mul_bd hx0 hy0
  rw [exy]
  generalize (x / 4294967296) * (y / 4294967296) = D at *
  generalize (x / 4294967296) * (y % 4294967296) = B at *
  generalize (x % 4294967296) * (y / 4294967296) = C at *
  generalize (x % 4294967296) * (y % 4294967296) = A at *
  have w1 : IntKind.u64.wrap A = A := by rw [IntKind.wrap_u64]; omega
  have w2 : IntKind.u64.wrap B = B := by rw [IntKind.wrap_u64]; omega
  have w3 : IntKind.u64.wrap C = C := by rw [IntKind.wrap_u64]; omega
  have w4 : IntKind.u64.wrap D = D := by rw [IntKind.wrap_u64]; omega
  rw [w1, w2, w3, w4, fdiv32 A (by omega)]
  have w5 : IntKind.u64.wrap (B + A / 4294967296) = B + A / 4294967296 := by rw [IntKind.wrap_u64]; omega
  rw [w5, fdiv32 _ (by omega), and32 _ (by omega)]
  have w6 : IntKind.u64.wrap ((B + A / 4294967296) % 4294967296 + C) = (B + A / 4294967296) % 4294967296 + C := by rw [IntKind.wrap_u64]; omega
  rw [w6, fdiv32 _ (by omega)]
  have w7 : IntKind.u64.wrap (D + (B + A / 4294967296) / 4294967296) = D + (B + A / 4294967296) / 4294967296 := by rw [IntKind.wrap_u64]; omega
  rw [w7, IntKind.wrap_u64, IntKind.wrap_u64]
  congr 1
  refine Prod.ext ?_ (Prod.ext ?_ rfl)
  · show (D + (B + A / 4294967296) / 4294967296 + ((B + A / 4294967296) % 4294967296 + C) / 4294967296) % 18446744073709551616 = _; omega
  · first | rfl | (show _ % 18446744073709551616 = _; omega)
end Go.Proofs.YtllkmncnmlmefaaGreat

namespace Go.Proofs.YtllkmncnmlmefaaGreat
open Go Go.Vc Go.RowKit
/-! ### what a move makes of a leg -/
theorem absI_mul (a b : Int) : (if (decide (a < 0) != decide (b < 0)) = true then -(absI a * absI b) else absI a * absI b) = a * b := by
  unfold absI
  by_cases ha : a < 0 <;> by_cases hb : b < 0 <;> simp [ha, hb, Int.neg_mul, Int.mul_neg]
theorem abs_bd {a : Int} (h : I64 a) : 0 ≤ absI a ∧ absI a ≤ 9223372036854775808 := by unfold I64 at h; unfold absI; split <;> omega
theorem prod_bd {a b A B : Int} (ha : 0 ≤ a ∧ a ≤ A) (hb : 0 ≤ b ∧ b ≤ B) : 0 ≤ a * b ∧ a * b ≤ A * B :=
  ⟨Int.mul_nonneg ha.1 hb.1, Int.mul_le_mul ha.2 hb.2 hb.1 (by omega)⟩
theorem wide_lt0 (z : Int) : decide ((wide z).1 < 0) = decide (z < 0) := by
  refine decide_eq_decide.2 ?_
  show z / 18446744073709551616 < 0 ↔ _; omega
theorem both_of {β : Type} [EqB β] {a b r : Option β} (ha : a = r) (hb : b = r) : stdW.both a b = r := by rw [ha, hb]; exact both_w r
theorem r_wMul {a b : Int} (ha : I64 a) (hb : I64 b) : wide_Mul a b = some (wide (a * b)) := by
  show wide_MulW stdW a b = _
  unfold wide_MulW
  have xa := abs_bd ha
  have xb := abs_bd hb
  have s1 := r_size (wide a) (wide_ok a (i64_128 ha))
  have s2 := r_size (wide b) (wide_ok b (i64_128 hb))
  rw [wv_wide] at s1 s2
  have hp := prod_bd xa xb
  have m1 : math_bits_Mul64 (szOf (absI a)).2.1 (szOf (absI b)).2.1 = some (szOf (absI a * absI b)) := by
    show math_bits_Mul64 (absI a % 18446744073709551616) (absI b % 18446744073709551616) = _
    rw [Int.emod_eq_of_lt xa.1 (by omega), Int.emod_eq_of_lt xb.1 (by omega), r_mul64 (by omega) (by omega)]; rfl
  rw [call_eq (r_wOf a ha), call_eq (r_wOf b hb), call_eq s1, call_eq s2, call_eq m1]
  have hz : 0 ≤ absI a * absI b ∧ absI a * absI b < 340282366920938463463374607431768211456 := by
    have : (9223372036854775808 : Int) * 9223372036854775808 = 85070591730234615865843651857942052864 := by decide
    omega
  have g : (stdW.call (wide_size_signed (szOf (absI a * absI b)) (notIf true (decide ((wide a).1 < 0) == decide ((wide b).1 < 0)))) fun v8 => some v8.1) = some (wide (a * b)) := by
    have e1 : notIf true (decide (a < 0) == decide (b < 0)) = (decide (a < 0) != decide (b < 0)) := by rw [nif_t]; rfl
    rw [wide_lt0, wide_lt0, e1, call_eq (r_signed _ _ hz), absI_mul]
    show some (w128 (a * b)) = _
    rw [w128_in]
    have := absI_mul a b
    have h2 : (9223372036854775808 : Int) * 9223372036854775808 = 85070591730234615865843651857942052864 := by decide
    unfold In128
    split at this <;> omega
  refine both_of ?_ ?_
  · rw [call_eq (r_below _)]
    refine both_of ?_ ?_
    · rw [call_eq (r_below _), both_w]; exact g
    · rw [call_eq (r_below _)]; exact g
  · rw [call_eq (r_below _), call_eq (r_below _)]; exact g
theorem nilq_w {β : Type} [EqB β] (e : Bool) (f : Bool → Option β) : stdW.nilq e f = nilF e f := rfl
end Go.Proofs.YtllkmncnmlmefaaGreat

namespace Go.Proofs.YtllkmncnmlmefaaGreat
open Go Go.Vc Go.RowKit
/-- a loop of which something is said -/
theorem loop_P {X β : Type} {f : X → (X → Option β) → Option β} (Q : Option β → Prop) (μ : X → Nat) (R : X → Prop) {z : X} (hz : R z) (hm : μ z < 18446744073709551616)
    (h : ∀ z, R z → ∀ again : X → Option β, (∀ z', R z' → μ z' < μ z → Q (again z')) → Q (f z again)) : Q (stdW.loop f z) := by
  have key : ∀ n z, R z → μ z < n → Q (loopF n f z) := by
    intro n
    induction n with
    | zero => intro z _ h; omega
    | succ n ih => intro z hz hm; exact h z hz _ fun z' hz' hm' => ih z' hz' (by omega)
  exact key FU z hz (by rw [FU_eq]; exact hm)
theorem join_gP {X β : Type} {Q : Option β → Prop} {k0 : X → Option β} {f : (X → Option β) → Option β} (h : ∀ k, k = k0 → Q (f k)) : Q (stdW.join k0 f) := h k0 rfl
/-! ### tables of instruments -/
end Go.Proofs.YtllkmncnmlmefaaGreat

namespace Go.Proofs.YtllkmncnmlmefaaGreat
open Go Go.Vc Go.RowKit
/-! ### sums of bits, of any length -/
theorem nz_w {β : Type} {b : Int} (h : b ≠ 0) (K : Option β) : stdW.nz b K = K := nz_eq h K
theorem valB_drop (xs : List Int) (i : Nat) (h : i < xs.length) : valB (xs.drop i) = xs[i].toNat + 2 * valB (xs.drop (i + 1)) := by
  rw [List.drop_eq_getElem_cons h]; rfl
theorem valB_end (xs : List Int) (i : Nat) (h : ¬ i < xs.length) : xs.drop i = [] := List.drop_eq_nil_of_le (by omega)
theorem bitL_app {a b : List Int} (ha : bitL a) (hb : bitL b) : bitL (a ++ b) := fun x hx => (List.mem_append.1 hx).elim (ha x) (hb x)
theorem bit_nat {xs : List Int} (h : bitL xs) (i : Nat) (hi : i < xs.length) : ∃ u : Nat, u ≤ 1 ∧ xs[i] = (u : Int) := by
  rcases h _ (List.getElem_mem hi) with e | e
  · exact ⟨0, by omega, by rw [e]; rfl⟩
  · exact ⟨1, by omega, by rw [e]; rfl⟩
theorem plus_gen {xs ys : List Int} (hx : bitL xs) (hy : bitL ys) (lx : xs.length ≤ 1000) (ly : ys.length ≤ 1000) :
    ∃ r, ref01_plus xs ys = some r ∧ bitL r ∧ valB r = valB xs + valB ys ∧ r.length ≤ max xs.length ys.length + 1 := by
  show ∃ r, ref01_plusW stdW xs ys = some r ∧ _
  unfold ref01_plusW
  refine loop_P (fun o => ∃ r, o = some r ∧ bitL r ∧ valB r = valB xs + valB ys ∧ r.length ≤ max xs.length ys.length + 1) (fun z => 2001 - z.2.1.toNat)
    (fun z => ∃ (i c : Nat) (s : List Int), z = ((c : Int), ((i : Int), (s, ()))) ∧ c ≤ 1 ∧ bitL s ∧ s.length = i ∧ i ≤ max xs.length ys.length ∧ valB s + 2 ^ i * (valB (xs.drop i) + valB (ys.drop i) + c) = valB xs + valB ys)
    ⟨0, 0, [], rfl, by omega, (by intro x hx; cases hx), rfl, by omega, by simp [valB]⟩ (by show 2001 - (0 : Int).toNat < _; omega) ?_
  rintro _ ⟨i, c, s, rfl, hc, hs, hsl, hi, hv⟩ again ha
  generalize hQ : (fun o : Option (List Int) => ∃ r, o = some r ∧ bitL r ∧ valB r = valB xs + valB ys ∧ r.length ≤ max xs.length ys.length + 1) = Q
  have ha' : ∀ z', (∃ (i c : Nat) (s : List Int), z' = ((c : Int), ((i : Int), (s, ()))) ∧ c ≤ 1 ∧ bitL s ∧ s.length = i ∧ i ≤ max xs.length ys.length ∧ valB s + 2 ^ i * (valB (xs.drop i) + valB (ys.drop i) + c) = valB xs + valB ys) → 2001 - z'.2.1.toNat < 2001 - (i : Int).toNat → Q (again z') := by
    intro z' h1 h2; rw [← hQ]; exact ha z' h1 h2
  have hfin : ∀ r, bitL r → valB r = valB xs + valB ys → r.length ≤ max xs.length ys.length + 1 → Q (some r) := by
    intro r h1 h2 h3; rw [← hQ]; exact ⟨r, rfl, h1, h2, h3⟩
  refine (congrFun hQ _).mpr ?_
  clear ha hQ
  have go : ∀ (u v : Nat), u ≤ 1 → v ≤ 1 → (i < xs.length ∨ i < ys.length) → valB (xs.drop i) = u + 2 * valB (xs.drop (i + 1)) → valB (ys.drop i) = v + 2 * valB (ys.drop (i + 1)) →
      Q (stdW.nz 2 (stdW.room (s.length + [Int.tmod ((c + u + v : Nat) : Int) 2].length) 1 (stdW.nz 2 (again (IntKind.u8.wrap (Int.tdiv ((c + u + v : Nat) : Int) 2), (IntKind.i64.wrap ((i : Int) + 1), (s ++ [Int.tmod ((c + u + v : Nat) : Int) 2], ()))))))) := by
    intro u v hu hv' hlt ex ey
    rw [nz_w (by omega), room_w (by simp; omega) (by simp; omega), nz_w (by omega), u8_half _ (by omega), nat_mod2, i64_succ i (by omega)]
    refine ha' _ ⟨i + 1, (c + u + v) / 2, s ++ [(((c + u + v) % 2 : Nat) : Int)], rfl, by omega, bitL_app hs fun x hx => ?_, by simp [hsl], by omega, ?_⟩ (by show 2001 - ((i + 1 : Nat) : Int).toNat < 2001 - ((i : Nat) : Int).toNat; omega)
    · simp only [List.mem_singleton] at hx; subst hx; omega
    · rw [← hv, valB_app, hsl, ex, ey, Nat.pow_succ]
      have e1 : valB [(((c + u + v) % 2 : Nat) : Int)] = (c + u + v) % 2 := by simp only [valB]; omega
      rw [e1, Nat.add_assoc, Nat.mul_assoc, ← Nat.mul_add]
      congr 2; omega
  refine join_gP (Q := Q) fun k10 hk10 => ?_
  have step10 : (i < xs.length ∨ i < ys.length) → Q (k10 (s, ())) := by
    intro hlt
    subst hk10
    refine join_gP (Q := Q) fun k8 hk8 => ?_
    have step8 : ∀ u : Nat, u ≤ 1 → valB (xs.drop i) = u + 2 * valB (xs.drop (i + 1)) → Q (k8 (((c + u : Nat) : Int), (s, ()))) := by
      intro u hu ex
      subst hk8
      refine join_gP (Q := Q) fun k6 hk6 => ?_
      have step6 : ∀ v : Nat, v ≤ 1 → valB (ys.drop i) = v + 2 * valB (ys.drop (i + 1)) → Q (k6 (((c + u + v : Nat) : Int), (s, ()))) := by
        intro v hv' ey
        subst hk6
        exact go u v hu hv' hlt ex ey
      clear hk6
      show Q (stdW.cnd (decide ((i : Int) < (ys.length : Int))) (stdW.idx ys (i : Int) fun x7 => k6 (IntKind.u8.wrap (((c + u : Nat) : Int) + x7), (s, ()))) (k6 (((c + u : Nat) : Int), (s, ()))))
      by_cases h2 : i < ys.length
      · obtain ⟨v, hv', ev⟩ := bit_nat hy i h2
        have ey := valB_drop ys i h2
        rw [ev, Int.toNat_natCast] at ey
        rw [cnd_lt h2, idx_w h2, ev, u8_add _ _ (by omega)]
        exact step6 v hv' ey
      · rw [cnd_n (decide_eq_false (by omega))]
        exact step6 0 (by omega) (by rw [valB_end ys i h2, valB_end ys (i + 1) (by omega)]; rfl)
    clear hk8
    show Q (stdW.cnd (decide ((i : Int) < (xs.length : Int))) (stdW.idx xs (i : Int) fun x9 => k8 (IntKind.u8.wrap ((c : Int) + x9), (s, ()))) (k8 ((c : Int), (s, ()))))
    by_cases h1 : i < xs.length
    · obtain ⟨u, hu, eu⟩ := bit_nat hx i h1
      have ex := valB_drop xs i h1
      rw [eu, Int.toNat_natCast] at ex
      rw [cnd_lt h1, idx_w h1, eu, u8_add _ _ (by omega)]
      exact step8 u hu ex
    · rw [cnd_n (decide_eq_false (by omega))]
      exact step8 0 (by omega) (by rw [valB_end xs i h1, valB_end xs (i + 1) (by omega)]; rfl)
  clear hk10
  show Q (stdW.cnd (decide ((i : Int) < (xs.length : Int))) (k10 (s, ())) (stdW.cnd (decide ((i : Int) < (ys.length : Int))) (k10 (s, ())) (stdW.join (fun (z11 : List (Int) × Unit) => some z11.1) fun k12 => stdW.cnd (decide (0 < (c : Int))) (stdW.room (s.length + ((c : Int) :: []).length) 1 ((k12 ((s ++ ((c : Int) :: [])), ())))) (k12 (s, ())))))
  by_cases h1 : i < xs.length
  · rw [cnd_lt h1]; exact step10 (.inl h1)
  rw [cnd_n (decide_eq_false (by omega))]
  by_cases h2 : i < ys.length
  · rw [cnd_lt h2]; exact step10 (.inr h2)
  rw [cnd_n (decide_eq_false (by omega)), join_w]
  rw [valB_end xs i h1, valB_end ys i h2] at hv
  by_cases h3 : c = 0
  · subst h3
    rw [cnd_n (by decide)]
    exact hfin s hs (by rw [← hv]; simp [valB]) (by omega)
  · have : c = 1 := by omega
    subst this
    rw [cnd_y (by decide), room_w (by simp; omega) (by simp; omega)]
    refine hfin _ (bitL_app hs (by intro x hx; simp only [List.mem_singleton] at hx; subst hx; exact .inr rfl)) ?_ (by simp; omega)
    rw [← hv, valB_app, hsl]; simp [valB]
theorem valB_zeros (n : Nat) (a : List Int) : valB (List.replicate n (0 : Int) ++ a) = 2 ^ n * valB a := by
  have : ∀ n : Nat, valB (List.replicate n (0 : Int)) = 0 := by
    intro n; induction n with
    | zero => rfl
    | succ n ih => rw [List.replicate_succ, valB, ih]; rfl
  rw [valB_app, this, List.length_replicate, Nat.zero_add]
theorem bit_eq {xs : List Int} (h : bitL xs) (i : Nat) (hi : i < xs.length) : (xs[i] = 1 ∧ xs[i].toNat = 1) ∨ (xs[i] = 0 ∧ xs[i].toNat = 0) := by
  rcases h _ (List.getElem_mem hi) with e | e
  · exact .inr ⟨e, by rw [e]; rfl⟩
  · exact .inl ⟨e, by rw [e]; rfl⟩
theorem r_mul {x y : BigT} (hx : bitL x.2.1) (hy : bitL y.2.1) (lx : x.2.1.length ≤ 300) (ly : y.2.1.length ≤ 300) : ref01_Mul x y = some (bigS (x.1 != y.1) (valB x.2.1 * valB y.2.1)) := by
  show ref01_MulW stdW x y = _
  unfold ref01_MulW
  rw [room_w (by omega) (by omega)]
  refine (loop_std (fun z => y.2.1.length + 1 - z.2.2.1.toNat) (fun z => ∃ (i : Nat) (s : List Int), z = (s, (List.replicate i (0 : Int) ++ x.2.1, ((i : Int), ()))) ∧ i ≤ y.2.1.length ∧ bitL s ∧ s.length ≤ x.2.1.length + i ∧ valB s = valB x.2.1 * valB (y.2.1.take i))
    (fun _ => some (bigS (x.1 != y.1) (valB x.2.1 * valB y.2.1))) ⟨0, [], rfl, by omega, (by intro x hx; cases hx), by simp, by simp [valB]⟩ (by show y.2.1.length + 1 - (0 : Int).toNat < _; omega) ?_)
  rintro _ ⟨i, s, rfl, hi, hs, hsl, hv⟩ again ha
  have hz : bitL (List.replicate i (0 : Int) ++ x.2.1) := bitL_app (fun x hx => .inl (List.mem_replicate.1 hx).2) hx
  have hzl : (List.replicate i (0 : Int) ++ x.2.1).length = i + x.2.1.length := by simp
  by_cases h : i < y.2.1.length
  · show stdW.cnd (decide ((i : Int) < (y.2.1.length : Int))) (stdW.join (fun (z3 : List (Int) × Unit) => stdW.room [(0 : Int)].length 1 (stdW.room ([(0 : Int)].length + (List.replicate i (0 : Int) ++ x.2.1).length) 1 (again (z3.1, ([(0 : Int)] ++ (List.replicate i (0 : Int) ++ x.2.1), (IntKind.i64.wrap ((i : Int) + 1), ())))))) _) _ = _
    rw [cnd_lt h]
    refine join_g fun k hk => ?_
    have kk : ∀ v : List Int, bitL v → v.length ≤ x.2.1.length + (i + 1) → valB v = valB x.2.1 * valB (y.2.1.take (i + 1)) → k (v, ()) = some (bigS (x.1 != y.1) (valB x.2.1 * valB y.2.1)) := by
      intro v h1 h2 h3
      subst hk
      show stdW.room [(0 : Int)].length 1 (stdW.room ([(0 : Int)].length + (List.replicate i (0 : Int) ++ x.2.1).length) 1 (again (v, ([(0 : Int)] ++ (List.replicate i (0 : Int) ++ x.2.1), (IntKind.i64.wrap ((i : Int) + 1), ()))))) = _
      rw [room_w (by simp) (by simp), room_w (by rw [hzl]; simp; omega) (by rw [hzl]; simp; omega), i64_s i (by omega)]
      exact ha _ ⟨i + 1, v, rfl, by omega, h1, h2, h3⟩ (by show y.2.1.length + 1 - ((i + 1 : Nat) : Int).toNat < y.2.1.length + 1 - ((i : Nat) : Int).toNat; omega)
    clear hk ha
    show stdW.idx y.2.1 (i : Int) _ = _
    rw [idx_w h]
    rw [valB_take_succ y.2.1 i h] at kk
    rcases bit_eq hy i h with ⟨e1, e2⟩ | ⟨e1, e2⟩
    · rw [cnd_y (by rw [e1]; rfl)]
      obtain ⟨r, hr, r1, r2, r3⟩ := plus_gen hs hz (by omega) (by rw [hzl]; omega)
      show stdW.call (ref01_plus s (List.replicate i (0 : Int) ++ x.2.1)) _ = _
      rw [call_eq hr]
      refine kk r r1 (by rw [hzl] at r3; omega) ?_
      rw [r2, hv, valB_zeros, e2, Nat.mul_add, Nat.mul_one, Nat.mul_comm (valB x.2.1) (2 ^ i)]
    · rw [cnd_n (by rw [e1]; rfl)]
      exact kk s hs (by omega) (by rw [hv, e2]; simp)
  · have : i = y.2.1.length := by omega
    subst this
    show stdW.cnd (decide ((y.2.1.length : Int) < (y.2.1.length : Int))) _ (stdW.call (ref01_trim (notIf true (x.1 == y.1)) s) fun v7 => some (v7.1, (v7.2.1, ()))) = _
    rw [cnd_end, call_eq (r_trim hs (by omega)), hv, List.take_length, nif_t]
    rfl
theorem len_of {z : Int} (h : sml z) : (big z).2.1.length ≤ 300 := Nat.le_trans (len_big2 h) (by decide)
theorem r_mulB {x y : Int} (hx : sml x) (hy : sml y) : ref01_Mul (big x) (big y) = some (big (x * y)) := by
  rw [r_mul (bitL_bits _) (bitL_bits _) (len_of hx) (len_of hy)]
  have e : ∀ z : Int, valB (big z).2.1 = z.natAbs := fun z => valB_bits _
  rw [e, e, bigS_is]
  have := absI_mul x y
  have e2 : ∀ z : Int, ((z.natAbs : Nat) : Int) = absI z := by intro z; unfold absI; split <;> omega
  rw [Int.natCast_mul, e2, e2]
  show some (big (if (decide (x < 0) != decide (y < 0)) = true then _ else _)) = _
  rw [this]
theorem r_subB {a b : Int} (ha : sml a) (hb : sml b) : ref01_Sub (big a) (big b) = some (big (a - b)) := by
  unfold sml at *
  have := r_sub (nb_big a) (nb_big b) (Nat.le_trans (len_big2 ha) (by decide)) (Nat.le_trans (len_big2 hb) (by decide))
  rwa [bv_big, bv_big] at this
/-! ### the reference's gains -/
end Go.Proofs.YtllkmncnmlmefaaGreat

namespace Go.Proofs.YtllkmncnmlmefaaGreat
open Go Go.Vc Go.RowKit
theorem fil_none {α : Type} {p : α → Bool} {l : List α} (h : ∀ x ∈ l, p x = false) : l.filter p = [] := List.filter_eq_nil_iff.2 fun x hx => by simp [h x hx]
theorem fil_all {α : Type} {p : α → Bool} {l : List α} (h : ∀ x ∈ l, p x = true) : l.filter p = l := List.filter_eq_self.2 h
end Go.Proofs.YtllkmncnmlmefaaGreat

namespace Go.Proofs.YtllkmncnmlmefaaGreat
open Go Go.Vc Go.RowKit
/-! ### What goes back, plain -/
def ltL (a b : ALot') : Prop := a.1 < b.1 ∨ (a.1 = b.1 ∧ a.2.1 < b.2.1)
instance (a b : ALot') : Decidable (ltL a b) := by unfold ltL; infer_instance
def rightL (x : ALot') : Prop := (1 ≤ x.1 ∧ x.1 ≤ 4) ∧ (0 ≤ x.2.1 ∧ x.2.1 ≤ 255) ∧ 0 < x.2.2.1
instance (x : ALot') : Decidable (rightL x) := by unfold rightL; infer_instance
def LInv (l : List ALot') : Prop := (∀ x ∈ l, rightL x) ∧ l.Pairwise ltL ∧ l.length ≤ 16
instance (l : List ALot') : Decidable (LInv l) := by unfold LInv; infer_instance
def isL (l : List ALot') : Bool := decide (LInv l)
def HInv (l : List AHold') : Prop := (∀ h ∈ l, h.2.1 ≠ [] ∧ LInv h.2.1) ∧ SrtA (l.map (·.1))
instance (l : List AHold') : Decidable (HInv l) := by unfold HInv SrtA; infer_instance
def isH (l : List AHold') : Bool := decide (HInv l)
def okT (l : List ALot') : Prop := l.length ≤ 20 ∧ ∀ x ∈ l, I64 x.2.2.1
def lotsH : List AHold' → AUnit' → List ALot'
  | [], _ => []
  | h :: l, u => if h.1 = u then h.2.1 else lotsH l u
theorem lotsH_ok {l : List AHold'} (h : ∀ x ∈ l, okT x.2.1) (u : AUnit') : okT (lotsH l u) := by
  induction l with
  | nil => exact ⟨by simp [lotsH], fun x hx => by cases hx⟩
  | cons x l ih =>
    rw [lotsH]
    split
    · exact h x (by simp)
    · exact ih fun y hy => h y (by simp [hy])
end Go.Proofs.YtllkmncnmlmefaaGreat

namespace Go.Proofs.YtllkmncnmlmefaaGreat
open Go Go.Vc Go.RowKit
/-! ### Accounts -/
theorem r_cloneT {s : List ALot'} (h : s.length ≤ 1000000) : slices_Cloneapi_Lot_api_Lot s = some s := by
  show slices_Cloneapi_Lot_api_LotW stdW s = _
  unfold slices_Cloneapi_Lot_api_LotW
  rw [nilq_w]
  refine nilF_eq ?_ fun he => ?_
  · show stdW.cnd (notIf false false) _ _ = _
    rw [cnd_n (by decide), room_w (by omega) (by omega)]; rfl
  · have : s = [] := by simpa using he
    subst this; rfl
end Go.Proofs.YtllkmncnmlmefaaGreat

namespace Go.Proofs.YtllkmncnmlmefaaGreat
open Go Go.Vc Go.RowKit
/-! ### Holds -/
theorem srt_next {α : Type} {f : α → AUnit'} {l : List α} {i : Nat} (hi : i < l.length) (inv : SrtA ((l.take i).map f)) (h2 : ∀ h0 : 0 < i, ltA (f (l[i - 1]'(by omega))) (f l[i])) : SrtA ((l.take (i + 1)).map f) := by
  rw [List.take_succ_eq_append_getElem hi, List.map_append]
  refine List.pairwise_append.2 ⟨inv, by simp, fun a ha b hb => ?_⟩
  simp only [List.map_cons, List.map_nil, List.mem_singleton] at hb
  subst hb
  obtain ⟨k, hk, hka⟩ := List.mem_iff_getElem.1 ha
  have hk' : k < i := by simp at hk; omega
  have h3 := h2 (by omega)
  by_cases hki : k = i - 1
  · subst hki; rw [← hka]; simpa using h3
  · have h4 := List.pairwise_iff_getElem.1 inv k (i - 1) (by simpa using hk) (by simp; omega) (by omega)
    rw [hka] at h4
    refine ltA_tr h4 ?_
    simpa using h3
def okHs (l : List AHold') : Prop := (∀ h ∈ l, okT h.2.1) ∧ l.length ≤ 400000
theorem r_hlots {l : List AHold'} {u : AUnit'} (h : okHs l) : hold_Lots l u = some (lotsH l u) := by
  have hl := h.2
  show hold_LotsW stdW l u = _
  unfold hold_LotsW
  refine loop_list (l := l) (by omega) (s0 := ()) (fun _ _ => True) (fun l' _ => some (lotsH l' u)) trivial ?_ ?_
  · rintro _ again _
    rw [cnd_end]; rfl
  · rintro i hi _ _ again ha
    have h2 := (h.1 _ (List.getElem_mem hi)).1
    rw [cnd_lt hi, idx_w hi, nif_f, eqA]
    show _ = some (lotsH (l[i] :: l.drop (i + 1)) u)
    rw [lotsH]
    by_cases h : l[i].1 = u
    · rw [cnd_y (decide_eq_true h), if_pos h, call_eq (r_cloneT (by omega))]
    · rw [cnd_n (decide_eq_false h), if_neg h]
      show again (IntKind.i64.wrap ((i : Int) + 1), ()) = _
      rw [i64_s i (by omega)]
      exact ha _ trivial
theorem r_lots26 {l : List AHold'} {u : AUnit'} (hl : l.length ≤ 400000) : ref26_Lots l u = some (lotsH l u) := by
  show ref26_LotsW stdW l u = _
  unfold ref26_LotsW
  refine loop_list (l := l) (by omega) (s0 := ()) (fun _ _ => True) (fun l' _ => some (lotsH l' u)) trivial ?_ ?_
  · rintro _ again _
    rw [cnd_end]; rfl
  · rintro i hi _ _ again ha
    rw [cnd_lt hi, idx_w hi, nif_f, eqA]
    show _ = some (lotsH (l[i] :: l.drop (i + 1)) u)
    rw [lotsH]
    by_cases h : l[i].1 = u
    · rw [cnd_y (decide_eq_true h), if_pos h, idx_w hi]
    · rw [cnd_n (decide_eq_false h), if_neg h]
      show again (IntKind.i64.wrap ((i : Int) + 1), ()) = _
      rw [i64_s i (by omega)]
      exact ha _ trivial
end Go.Proofs.YtllkmncnmlmefaaGreat

namespace Go.Proofs.YtllkmncnmlmefaaGreat
open Go Go.Vc Go.RowKit
/-! ### Give -/
def pu (s : AState') : List AFlow' := s.2.2.2.2.2.2.2.2.2.2.1
def ho (s : AState') : List AHold' := s.2.2.2.2.2.2.2.2.2.2.2.1
def updS (s : AState') (p : List AFlow') (h : List AHold') : AState' := (s.1, (s.2.1, (s.2.2.1, (s.2.2.2.1, (s.2.2.2.2.1, (s.2.2.2.2.2.1, (s.2.2.2.2.2.2.1, (s.2.2.2.2.2.2.2.1, (s.2.2.2.2.2.2.2.2.1, (s.2.2.2.2.2.2.2.2.2.1, (p, (h, ()))))))))))))
end Go.Proofs.YtllkmncnmlmefaaGreat

namespace Go.Proofs.YtllkmncnmlmefaaGreat
open Go Go.Vc Go.RowKit
/-! ### Tables -/
theorem ex_cnd {β : Type} {c : Bool} {a b : Option β} (ha : ∃ r, a = some r) (hb : ∃ r, b = some r) : ∃ r, stdW.cnd c a b = some r := by
  cases c
  · exact hb
  · exact ha
theorem r_is15 {a : AAccount'} (hm : a.2.2.2.1.length ≤ 1000000) : ∃ b, ref15_Is a = some b := by
  show ∃ b, ref15_IsW stdW a = some b
  unfold ref15_IsW
  refine join_gP (Q := fun o => ∃ b, o = some b) fun k12 hk12 => ?_
  have kb12 : ∀ c, ∃ b, k12 (c, ()) = some b := by
    intro c
    subst hk12
    show ∃ b, stdW.cnd c (some false) _ = some b
    refine ex_cnd ⟨_, rfl⟩ ?_
    refine join_gP (Q := fun o => ∃ b, o = some b) fun k11 hk11 => ?_
    have kb11 : ∀ c, ∃ b, k11 (c, ()) = some b := by
      intro c
      subst hk11
      show ∃ b, stdW.cnd c (some false) _ = some b
      refine ex_cnd ⟨_, rfl⟩ ?_
      refine loop_P (fun o => ∃ b, o = some b) (fun z => a.2.2.2.1.length + 1 - z.1.toNat) (fun z => ∃ j : Nat, j ≤ a.2.2.2.1.length ∧ z = ((j : Int), ())) ⟨0, Nat.zero_le _, rfl⟩ (by show _ - (0 : Int).toNat < _; omega) ?_
      rintro _ ⟨j, hj, rfl⟩ again ha
      show ∃ b, stdW.cnd (decide ((j : Int) < (a.2.2.2.1.length : Int))) _ _ = some b
      by_cases h : j < a.2.2.2.1.length
      · rw [cnd_lt h]
        refine join_gP (Q := fun o => ∃ b, o = some b) fun k6 hk6 => ?_
        have kb6 : ∀ c, ∃ b, k6 (c, ()) = some b := by
          intro c
          subst hk6
          show ∃ b, stdW.cnd c (some false) (again (IntKind.i64.wrap ((j : Int) + 1), ())) = some b
          refine ex_cnd ⟨_, rfl⟩ ?_
          rw [i64_s j (by omega)]
          exact ha _ ⟨j + 1, by omega, rfl⟩ (by show _ - ((j + 1 : Nat) : Int).toNat < _ - ((j : Nat) : Int).toNat; omega)
        clear hk6 ha
        show ∃ b, stdW.idx a.2.2.2.1 (j : Int) _ = some b
        rw [idx_w h]
        refine ex_cnd (kb6 _) ?_
        show ∃ b, stdW.idx a.2.2.2.1 (j : Int) _ = some b
        rw [idx_w h]
        refine ex_cnd (kb6 _) ?_
        show ∃ b, stdW.cnd (decide (0 < (j : Int))) (stdW.idx a.2.2.2.1 (j : Int) fun x9 => stdW.idx a.2.2.2.1 (IntKind.i64.wrap ((j : Int) - 1)) _) _ = some b
        by_cases h0 : 0 < j
        · rw [cnd_y (decide_eq_true (by omega)), idx_w h, i64_pred j h0 (by rw [maxLen_eq]; omega), idx_w (by omega)]
          exact kb6 _
        · rw [cnd_n (decide_eq_false (by omega))]; exact kb6 _
      · have : j = a.2.2.2.1.length := by omega
        subst this
        rw [cnd_end]; exact ⟨_, rfl⟩
    clear hk11
    repeat' (first | exact kb11 _ | refine ex_cnd ?_ ?_)
  clear hk12
  repeat' (first | exact kb12 _ | refine ex_cnd ?_ ?_)
theorem r_find15 {l : List AAccount'} {id : Int} (hl : l.length ≤ 1000000) : ∃ x b, ref15_Find l id = some (x, (b, ())) ∧ (b = false → ∀ a ∈ l, a.1 ≠ id) := by
  show ∃ x b, ref15_FindW stdW l id = some (x, (b, ())) ∧ _
  unfold ref15_FindW
  refine loop_P (fun o => ∃ (x : AAccount') (b : Bool), o = some (x, (b, ())) ∧ (b = false → ∀ a ∈ l, a.1 ≠ id)) (fun z => l.length + 1 - z.1.toNat) (fun z => ∃ j : Nat, j ≤ l.length ∧ z = ((j : Int), ()) ∧ ∀ a ∈ l.take j, a.1 ≠ id) ⟨0, Nat.zero_le _, rfl, by simp⟩ (by show _ - (0 : Int).toNat < _; omega) ?_
  rintro _ ⟨j, hj, rfl, hp⟩ again ha
  show ∃ x b, stdW.cnd (decide ((j : Int) < (l.length : Int))) _ _ = some (x, (b, ())) ∧ _
  by_cases h : j < l.length
  · rw [cnd_lt h]
    show ∃ x b, stdW.idx l (j : Int) _ = some (x, (b, ())) ∧ _
    rw [idx_w h]
    by_cases hi : l[j].1 = id
    · rw [cnd_y (by simpa using hi)]
      show ∃ x b, stdW.idx l (j : Int) _ = some (x, (b, ())) ∧ _
      rw [idx_w h]
      exact ⟨_, true, rfl, fun h => by cases h⟩
    · rw [cnd_n (by simpa using hi)]
      show ∃ x b, again (IntKind.i64.wrap ((j : Int) + 1), ()) = some (x, (b, ())) ∧ _
      rw [i64_s j (by omega)]
      refine ha _ ⟨j + 1, by omega, rfl, fun a hm => ?_⟩ (by show _ - ((j + 1 : Nat) : Int).toNat < _ - ((j : Nat) : Int).toNat; omega)
      rw [List.take_succ_eq_append_getElem h] at hm
      rcases List.mem_append.1 hm with hm | hm
      · exact hp a hm
      · simp only [List.mem_singleton] at hm; subst hm; exact hi
  · have : j = l.length := by omega
    subst this
    rw [List.take_length] at hp
    rw [cnd_end]; exact ⟨_, false, rfl, fun _ => hp⟩
theorem r_put15 {l : List AAccount'} {i : AAccount'} (hl : l.length ≤ 1000) (hm : i.2.2.2.1.length ≤ 1000000) : ∃ r e, ref15_Put l i = some (r, (e, ())) ∧ (e = 0 → (∀ x ∈ r, x ∈ l ∨ x = i) ∧ r.length ≤ l.length + 1 ∧ ((l.map (·.1)).Nodup → (r.map (·.1)).Nodup)) := by
  show ∃ r e, ref15_PutW stdW l i = some (r, (e, ())) ∧ _
  unfold ref15_PutW
  obtain ⟨b, hb⟩ := r_is15 hm
  have e0 : ref15_Is (i.1, (i.2.1, (i.2.2.1, (i.2.2.2.1, ())))) = some b := hb
  rw [call_eq e0]
  cases b with
  | false => rw [cnd_y (by decide)]; exact ⟨[], 2, rfl, by simp⟩
  | true =>
    obtain ⟨x, bf, hf, hno⟩ := r_find15 (l := l) (id := i.1) (by omega)
    rw [cnd_n (by decide), call_eq hf]
    cases bf with
    | true =>
      rw [cnd_y (by rfl)]; exact ⟨[], 12, rfl, by simp⟩
    | false =>
      have hno := hno rfl
      rw [cnd_n (by rfl), join_w]
      refine loop_P (fun o => ∃ (r : List AAccount') (e : Int), o = some (r, (e, ())) ∧ (e = 0 → (∀ x ∈ r, x ∈ l ∨ x = i) ∧ r.length ≤ l.length + 1 ∧ ((l.map (·.1)).Nodup → (r.map (·.1)).Nodup))) (fun z => l.length + 1 - z.1.toNat) (fun z => ∃ j : Nat, j ≤ l.length ∧ z = ((j : Int), ())) ⟨0, Nat.zero_le _, rfl⟩ (by show _ - (0 : Int).toNat < _; omega) ?_
      rintro _ ⟨j, hj, rfl⟩ again ha
      have fin : ∃ (r : List AAccount') (e : Int), stdW.bnd (j : Int) l.length (fun h4 => stdW.room (l.take h4).length 48 (stdW.room ((l.take h4).length + ((i.1, (i.2.1, (i.2.2.1, (i.2.2.2.1, ())))) :: ([] : List AAccount')).length) 48 (stdW.bnd (j : Int) l.length fun h5 => stdW.room (((l.take h4) ++ ((i.1, (i.2.1, (i.2.2.1, (i.2.2.2.1, ())))) :: ([] : List AAccount'))).length + ((l.take l.length).drop h5).length) 48 (some (((l.take h4) ++ ((i.1, (i.2.1, (i.2.2.1, (i.2.2.2.1, ())))) :: ([] : List AAccount')) ++ ((l.take l.length).drop h5)), (0, ())))))) = some (r, (e, ())) ∧ (e = 0 → (∀ x ∈ r, x ∈ l ∨ x = i) ∧ r.length ≤ l.length + 1 ∧ ((l.map (·.1)).Nodup → (r.map (·.1)).Nodup)) := by
        rw [bnd_w (by omega) (by omega), Int.toNat_natCast]
        have l1 : (l.take j).length ≤ 1000 := by rw [List.length_take]; omega
        rw [room_w (by omega) (by omega), room_w (by simp only [List.length_cons, List.length_nil]; omega) (by simp only [List.length_cons, List.length_nil]; omega), bnd_w (by omega) (by omega), Int.toNat_natCast, List.take_length,
          room_w (by simp only [List.length_append, List.length_drop, List.length_cons, List.length_nil]; omega) (by simp only [List.length_append, List.length_drop, List.length_cons, List.length_nil]; omega)]
        refine ⟨_, _, rfl, fun _ => ⟨fun x hx => ?_, by simp only [List.length_append, List.length_drop, List.length_cons, List.length_nil, List.length_take]; omega, fun hnd => ?_⟩⟩
        · rcases List.mem_append.1 hx with hx | hx
          · rcases List.mem_append.1 hx with hx | hx
            · exact .inl (List.mem_of_mem_take hx)
            · simp only [List.mem_singleton] at hx
              exact .inr hx
          · exact .inl (List.mem_of_mem_drop hx)
        · have hp : (l.take j ++ [i] ++ l.drop j).Perm (i :: l) := by
            have h1 : (l.take j ++ [i] ++ l.drop j).Perm (i :: (l.take j ++ l.drop j)) := by
              rw [List.append_assoc]; exact List.perm_middle
            rwa [List.take_append_drop] at h1
          have h2 := (hp.map (fun x : AAccount' => x.1)).nodup_iff.2 (List.nodup_cons.2 ⟨fun hm => by
            obtain ⟨a, ha, e⟩ := List.mem_map.1 hm
            exact hno a ha e, hnd⟩)
          exact h2
      show ∃ r e, stdW.cnd (decide ((j : Int) < (l.length : Int))) _ _ = _ ∧ _
      by_cases h : j < l.length
      · rw [cnd_lt h]
        show ∃ r e, stdW.idx l (j : Int) _ = _ ∧ _
        rw [idx_w h]
        by_cases h1 : l[j].1 < i.1
        · rw [cnd_y (decide_eq_true h1)]
          show ∃ r e, again (IntKind.i64.wrap ((j : Int) + 1), ()) = _ ∧ _
          rw [i64_s j (by omega)]
          exact ha _ ⟨j + 1, by omega, rfl⟩ (by show _ - ((j + 1 : Nat) : Int).toNat < _ - ((j : Nat) : Int).toNat; omega)
        · rw [cnd_n (decide_eq_false h1)]; exact fin
      · have : j = l.length := by omega
        subst this
        rw [cnd_end]; exact fin
def okTab (l t : List AAccount') : Prop := (∀ x ∈ t, x ∈ l) ∧ t.length ≤ 20 ∧ (t.map (·.1)).Nodup
theorem r_table15 {l : List AAccount'} (hm : ∀ i ∈ l, i.2.2.2.1.length ≤ 1000000) (hl : l.length ≤ 1000) : ∃ t, ref15_Table l = some t ∧ okTab l t := by
  show ∃ t, ref15_TableW stdW l = some t ∧ okTab l t
  unfold ref15_TableW
  rw [join_w]
  refine loop_P (fun o => ∃ t, o = some t ∧ okTab l t) (fun z => l.length + 1 - z.2.1.toNat) (fun z => ∃ (j : Nat) (acc : List AAccount'), j ≤ l.length ∧ j ≤ 20 ∧ acc.length ≤ j ∧ (∀ x ∈ acc, x ∈ l) ∧ (acc.map (·.1)).Nodup ∧ z = (acc, ((j : Int), ()))) ⟨0, [], Nat.zero_le _, Nat.zero_le _, Nat.le_refl _, by simp, by simp, rfl⟩ (by show _ - (0 : Int).toNat < _; omega) ?_
  rintro _ ⟨j, acc, hj, hj10, hacc, hok, hnd, rfl⟩ again ha
  have fin : ∃ t, (some acc : Option (List AAccount')) = some t ∧ okTab l t := ⟨acc, rfl, hok, by omega, hnd⟩
  show ∃ t, stdW.cnd (decide ((j : Int) < (l.length : Int))) (stdW.cnd (decide ((j : Int) < 20)) _ _) _ = some t ∧ okTab l t
  by_cases h : j < l.length
  · rw [cnd_lt h]
    by_cases h10 : j < 20
    · rw [cnd_y (decide_eq_true (by omega)), join_w]
      show ∃ t, stdW.idx l (j : Int) _ = some t ∧ okTab l t
      rw [idx_w h]
      obtain ⟨r, e, hp, hr⟩ := r_put15 (l := acc) (i := l[j]) (by omega) (hm _ (List.getElem_mem h))
      have nxt : ∀ a : List AAccount', a.length ≤ j + 1 → (∀ x ∈ a, x ∈ l) → (a.map (·.1)).Nodup → ∃ t, again (a, (IntKind.i64.wrap ((j : Int) + 1), ())) = some t ∧ okTab l t := by
        intro a h1 h2 h3
        rw [i64_s j (by omega)]
        exact ha _ ⟨j + 1, a, by omega, by omega, h1, h2, h3, rfl⟩ (by show _ - ((j + 1 : Nat) : Int).toNat < _ - ((j : Nat) : Int).toNat; omega)
      show ∃ t, stdW.call (ref15_Put acc l[j]) _ = some t ∧ okTab l t
      rw [call_eq hp]
      by_cases he : e = 0
      · obtain ⟨h1, h2, h3⟩ := hr he
        rw [cnd_y (by simpa using he)]
        exact nxt r (by omega) (fun x hx => (h1 x hx).elim (hok x) fun h3 => h3 ▸ List.getElem_mem h) (h3 hnd)
      · rw [cnd_n (by simpa using he)]
        exact nxt acc (by omega) hok hnd
    · rw [cnd_n (decide_eq_false (by omega))]; exact fin
  · have : j = l.length := by omega
    subst this
    rw [cnd_end]; exact fin
def few26 (l : List AHold') : List AHold' := (l.take 10).map fun h => ((h.1, (h.2.1.take 20, ())) : AHold')
theorem r_few18 {l : List ALot'} (hl : l.length ≤ 9223372036854775807) : law18_Few l = some (l.take 20) := by
  show law18_FewW stdW l = _
  unfold law18_FewW
  by_cases h : 20 < l.length
  · rw [cnd_y (decide_eq_true (by omega)), bnd_w (by omega) (by omega)]; rfl
  · rw [cnd_n (decide_eq_false (by omega)), List.take_of_length_le (by omega)]
theorem r_few26 {l : List AHold'} (hl : l.length ≤ 9223372036854775807) (hm : ∀ h ∈ l, h.2.1.length ≤ 9223372036854775807) : law26_Few l = some (few26 l) := by
  show law26_FewW stdW l = _
  unfold law26_FewW
  rw [join_w]
  have hm' : ∀ i (h : i < l.length), l[i].2.1.length ≤ 9223372036854775807 := fun i h => hm _ (List.getElem_mem h)
  refine (loop_std (fun z => l.length + 1 - z.1.toNat) (fun z => ∃ j : Nat, j ≤ l.length ∧ j ≤ 10 ∧ z = ((j : Int), (few26 (l.take j), ()))) (fun _ => some (few26 l)) ⟨0, Nat.zero_le _, Nat.zero_le _, rfl⟩ (by show _ - (0 : Int).toNat < _; omega) ?_)
  rintro _ ⟨j, hj, hj10, rfl⟩ again ha
  have ft : few26 (l.take j) = (l.take j).map fun h => ((h.1, (h.2.1.take 20, ())) : AHold') := by
    unfold few26; rw [List.take_take, Nat.min_eq_right hj10]
  show stdW.cnd (decide ((j : Int) < (l.length : Int))) (stdW.cnd (decide ((j : Int) < 10)) _ _) _ = _
  by_cases h : j < l.length
  · rw [cnd_lt h]
    by_cases h10 : j < 10
    · have ft1 : few26 (l.take (j + 1)) = few26 (l.take j) ++ [(l[j].1, (l[j].2.1.take 20, ()))] := by
        unfold few26; rw [List.take_take, List.take_take, Nat.min_eq_right hj10, Nat.min_eq_right (by omega), List.take_succ_eq_append_getElem h, List.map_append]; rfl
      have hlen : (few26 (l.take j)).length ≤ 10 := by rw [ft, List.length_map, List.length_take]; omega
      rw [cnd_y (decide_eq_true (by omega))]
      show stdW.idx l (j : Int) _ = _
      rw [idx_w h, idx_w h, call_eq (r_few18 (hm' j h))]
      show stdW.room ((few26 (l.take j)).length + 1) 40 (again (IntKind.i64.wrap ((j : Int) + 1), (few26 (l.take j) ++ [(l[j].1, (l[j].2.1.take 20, ()))], ()))) = _
      rw [room_w (by omega) (by omega), ← ft1, i64_s j (by omega)]
      exact ha _ ⟨j + 1, by omega, by omega, rfl⟩ (by show _ - ((j + 1 : Nat) : Int).toNat < _ - ((j : Nat) : Int).toNat; omega)
    · rw [cnd_n (decide_eq_false (by omega))]
      show some (few26 (l.take j)) = _
      have : j = 10 := by omega
      subst this
      unfold few26; rw [List.take_take, Nat.min_self]
  · have : j = l.length := by omega
    subst this
    rw [cnd_end, List.take_length]
def short25 (a : AAccount') : AAccount' := (a.1, (a.2.1, (a.2.2.1, (a.2.2.2.1.take 20, ()))))
theorem r_short {a : AAccount'} (hl : a.2.2.2.1.length ≤ 9223372036854775807) : law25_Short (a.1, (a.2.1, (a.2.2.1, (a.2.2.2.1, ())))) = some (short25 a) := by
  show law25_ShortW stdW a = _
  unfold law25_ShortW
  refine join_g fun k hk => ?_
  have kk : ∀ x : AAccount', k x = some x := by intro x; subst hk; rfl
  clear hk
  by_cases h : 20 < a.2.2.2.1.length
  · rw [cnd_y (decide_eq_true (by omega)), bnd_w (by omega) (by omega), kk]; rfl
  · rw [cnd_n (decide_eq_false (by omega)), kk]
    unfold short25
    rw [List.take_of_length_le (by omega)]
end Go.Proofs.YtllkmncnmlmefaaGreat

namespace Go.Proofs.YtllkmncnmlmefaaGreat
open Go Go.Vc Go.RowKit
/-! ### Lots: whether they may be, just so -/
def cmpI (x y : Int) : Int := if x < y then -1 else if y < x then 1 else 0
theorem r_cmp1I (x y : Int) : cmp_Compare x y = some (cmpI x y) := by
  show cmp_CompareW stdW x y = _
  unfold cmp_CompareW cmpI
  have e : ∀ x : Int, cmp_isNaN x = some false := fun x => by
    show some (x != x) = _
    simp
  rw [call_eq (e x), call_eq (e y), cnd_n rfl, cnd_n rfl]
  by_cases h : x < y
  · rw [cnd_y (decide_eq_true h), if_pos h]
  · rw [cnd_n (decide_eq_false h), if_neg h]
    by_cases h2 : y < x
    · rw [cnd_y (decide_eq_true h2), if_pos h2]
    · rw [cnd_n (decide_eq_false h2), if_neg h2]
def orI : List Int → Int
  | [] => 0
  | x :: l => if x = 0 then orI l else x
theorem r_or1 (l : List Int) (hl : l.length ≤ 1000000) : cmp_Or l = some (orI l) := by
  show cmp_OrW stdW l = _
  unfold cmp_OrW
  refine loop_list (l := l) (by omega) (s0 := ()) (fun _ _ => True) (fun l' _ => some (orI l')) trivial ?_ ?_
  · rintro _ again _
    rw [cnd_end]; rfl
  · rintro i hi _ _ again ha
    rw [cnd_lt hi, idx_w hi]
    show _ = some (orI (l[i] :: l.drop (i + 1)))
    rw [orI]
    by_cases h0 : l[i] = 0
    · rw [cnd_n (by simp [h0]), if_pos h0]
      show again (IntKind.i64.wrap ((i : Int) + 1), ()) = _
      rw [i64_s i (by omega)]
      exact ha _ trivial
    · rw [cnd_y (by simp [h0]), if_neg h0]
theorem r_lorder1 (a b : ALot') : lots_order a b = some (orI [cmpI a.1 b.1, cmpI a.2.1 b.2.1]) := by
  show lots_orderW stdW a b = _
  unfold lots_orderW
  rw [call_eq (r_cmp1I _ _), call_eq (r_cmp1I _ _), call_eq (r_or1 _ (by simp))]
theorem lorder_lt (a b : ALot') : decide (0 ≤ orI [cmpI a.1 b.1, cmpI a.2.1 b.2.1]) = !decide (ltL a b) := by
  unfold ltL
  simp only [orI, cmpI]
  by_cases h1 : a.1 < b.1
  · simp [h1]
  · by_cases h2 : b.1 < a.1
    · have h3 : ¬ a.1 = b.1 := by omega
      simp [h1, h2, h3]
    · have h3 : a.1 = b.1 := by omega
      by_cases h4 : a.2.1 < b.2.1
      · simp [h3, h4]
      · by_cases h5 : b.2.1 < a.2.1 <;> simp [h3, h4, h5]
theorem r_lright1 (x : ALot') : lots_right x = some (decide (rightL x)) := by
  show lots_rightW stdW x = _
  unfold lots_rightW rightL
  by_cases h1 : 1 ≤ x.1
  · rw [cnd_y (decide_eq_true h1)]
    by_cases h2 : x.1 ≤ 4
    · rw [cnd_y (decide_eq_true h2)]
      by_cases h3 : 0 ≤ x.2.1
      · rw [cnd_y (decide_eq_true h3)]
        by_cases h4 : x.2.1 ≤ 255
        · rw [cnd_y (decide_eq_true h4)]; simp [h1, h2, h3, h4]
        · rw [cnd_n (decide_eq_false h4)]; simp [h4]
      · rw [cnd_n (decide_eq_false h3)]; simp [h3]
    · rw [cnd_n (decide_eq_false h2)]; simp [h2]
  · rw [cnd_n (decide_eq_false h1)]; simp [h1]
theorem r_one18 (x : ALot') : ref18_one x = some (decide (rightL x)) := by
  show ref18_oneW stdW x = _
  unfold ref18_oneW rightL
  by_cases h1 : 1 ≤ x.1
  · rw [cnd_y (decide_eq_true (by omega))]
    by_cases h2 : x.1 ≤ 4
    · rw [cnd_y (decide_eq_true (by omega))]
      by_cases h3 : 0 ≤ x.2.1
      · rw [cnd_y (decide_eq_true h3)]
        by_cases h4 : x.2.1 ≤ 255
        · rw [cnd_y (decide_eq_true (by omega))]; simp [h1, h2, h3, h4]
        · rw [cnd_n (decide_eq_false (by omega))]; simp [h4]
      · rw [cnd_n (decide_eq_false h3)]; simp [h3]
    · rw [cnd_n (decide_eq_false (by omega))]; simp [h2]
  · rw [cnd_n (decide_eq_false (by omega))]; simp [h1]
theorem r_less18 (a b : ALot') : ref18_less a b = some (decide (ltL a b)) := by
  show ref18_lessW stdW a b = _
  unfold ref18_lessW ltL
  by_cases h1 : a.1 < b.1
  · rw [cnd_y (decide_eq_true h1)]; simp [h1]
  · rw [cnd_n (decide_eq_false h1)]
    by_cases h2 : a.1 = b.1
    · rw [cnd_y (by simpa using h2)]; simp [h2]
    · rw [cnd_n (by simpa using h2)]; simp [h1, h2]
def LP (l : List ALot') : Prop := (∀ x ∈ l, rightL x) ∧ l.Pairwise ltL
theorem ltL_tr {a b c : ALot'} (h1 : ltL a b) (h2 : ltL b c) : ltL a c := by unfold ltL at *; omega
theorem LP_next {l : List ALot'} {i : Nat} (hi : i < l.length) (inv : LP (l.take i)) (h1 : rightL l[i]) (h2 : ∀ h0 : 0 < i, ltL (l[i - 1]'(by omega)) l[i]) : LP (l.take (i + 1)) := by
  rw [List.take_succ_eq_append_getElem hi]
  refine ⟨fun x hx => ?_, ?_⟩
  · rcases List.mem_append.1 hx with hx | hx
    · exact inv.1 x hx
    · simp at hx; rw [hx]; exact h1
  · refine List.pairwise_append.2 ⟨inv.2, by simp, fun a ha b hb => ?_⟩
    simp only [List.mem_singleton] at hb
    subst hb
    obtain ⟨k, hk, hka⟩ := List.mem_iff_getElem.1 ha
    have hk' : k < i := by simp at hk; omega
    have h3 := h2 (by omega)
    by_cases hki : k = i - 1
    · subst hki; rw [← hka]; simpa using h3
    · have h4 := List.pairwise_iff_getElem.1 inv.2 k (i - 1) (by simpa using hk) (by simp; omega) (by omega)
      rw [hka] at h4
      refine ltL_tr h4 ?_
      simpa using h3
theorem isL_end {l : List ALot'} (h : LP (l.take l.length)) : isL l = decide ((l.length : Int) ≤ 16) := by
  rw [List.take_length] at h
  unfold isL LInv
  refine decide_eq_decide.2 ⟨fun h => by omega, fun h3 => ⟨h.1, h.2, by omega⟩⟩
theorem isL_bad0 {l : List ALot'} {i : Nat} (hi : i < l.length) (h : ¬ rightL l[i]) : isL l = false :=
  decide_eq_false fun hp => h (hp.1 _ (List.getElem_mem hi))
theorem isL_bad1 {l : List ALot'} {i : Nat} (hi : i < l.length) (h0 : 0 < i) (h : ¬ ltL (l[i - 1]'(by omega)) l[i]) : isL l = false :=
  decide_eq_false fun hp => h (List.pairwise_iff_getElem.1 hp.2.1 (i - 1) i (by omega) hi (by omega))
theorem r_lis1 {l : List ALot'} (hl : l.length ≤ 1000000) : lots_Is l = some (isL l) := by
  show lots_IsW stdW l = _
  unfold lots_IsW
  refine loop_n (N := l.length) (by omega) (fun i _ => LP (l.take i)) (some (isL l)) (by simp [LP]) ?_ ?_
  · rintro _ again h
    rw [cnd_end, isL_end h]
  · rintro i hi _ inv again ha
    rw [cnd_lt hi, idx_w hi]
    refine join_g fun k hk => ?_
    have kt : k (true, ()) = some false := by subst hk; rfl
    have kf : k (false, ()) = again (((i + 1 : Nat) : Int), ()) := by rw [← i64_s i (by omega)]; subst hk; rfl
    clear hk
    rw [call_eq (r_lright1 _)]
    by_cases h1 : rightL l[i]
    · rw [cnd_n (by simp [h1])]
      by_cases h0 : 0 < i
      · rw [cnd_y (decide_eq_true (by omega)), i64_pred i h0 (by rw [maxLen_eq]; omega), idx_w (by omega), call_eq (r_lorder1 _ _), both_w, lorder_lt]
        by_cases h2 : ltL (l[i - 1]'(by omega)) l[i]
        · rw [decide_eq_true h2]
          exact kf.trans (ha _ (LP_next hi inv h1 fun _ => h2))
        · rw [decide_eq_false h2, isL_bad1 hi h0 h2]; exact kt
      · rw [cnd_n (decide_eq_false (by omega)), both_w]
        exact kf.trans (ha _ (LP_next hi inv h1 fun h => absurd h h0))
    · rw [cnd_y (by simp [h1]), both_w, kt, isL_bad0 hi h1]
theorem r_is18 {l : List ALot'} (hl : l.length ≤ 1000000) : ref18_Is l = some (isL l) := by
  show ref18_IsW stdW l = _
  unfold ref18_IsW
  refine loop_n (N := l.length) (by omega) (fun i _ => LP (l.take i)) (some (isL l)) (by simp [LP]) ?_ ?_
  · rintro _ again h
    rw [cnd_end, isL_end h]
  · rintro i hi _ inv again ha
    rw [cnd_lt hi]
    refine join_g fun k hk => ?_
    have kt : k (true, ()) = some false := by subst hk; rfl
    have kf : k (false, ()) = again (((i + 1 : Nat) : Int), ()) := by rw [← i64_s i (by omega)]; subst hk; rfl
    clear hk
    rw [idx_w hi, call_eq (r_one18 _)]
    by_cases h1 : rightL l[i]
    · rw [cnd_n (by simp [h1])]
      by_cases h0 : 0 < i
      · rw [cnd_y (decide_eq_true (by omega)), i64_pred i h0 (by rw [maxLen_eq]; omega), idx_w (by omega), idx_w hi, call_eq (r_less18 _ _), both_w]
        by_cases h2 : ltL (l[i - 1]'(by omega)) l[i]
        · rw [decide_eq_true h2]
          exact kf.trans (ha _ (LP_next hi inv h1 fun _ => h2))
        · rw [decide_eq_false h2, isL_bad1 hi h0 h2]; exact kt
      · rw [cnd_n (decide_eq_false (by omega)), both_w]
        exact kf.trans (ha _ (LP_next hi inv h1 fun h => absurd h h0))
    · rw [cnd_y (by simp [h1]), both_w, kt, isL_bad0 hi h1]
/-! ### Holds: whether they may be, just so -/
def HP (l : List AHold') : Prop := (∀ h ∈ l, h.2.1 ≠ [] ∧ LInv h.2.1) ∧ SrtA (l.map (·.1))
theorem HP_next {l : List AHold'} {i : Nat} (hi : i < l.length) (inv : HP (l.take i)) (h1 : l[i].2.1 ≠ [] ∧ LInv l[i].2.1) (h2 : ∀ h0 : 0 < i, ltA (l[i - 1]'(by omega)).1 l[i].1) : HP (l.take (i + 1)) := by
  refine ⟨fun x hx => ?_, srt_next hi inv.2 h2⟩
  rw [List.take_succ_eq_append_getElem hi] at hx
  rcases List.mem_append.1 hx with hx | hx
  · exact inv.1 x hx
  · simp at hx; rw [hx]; exact h1
theorem isH_end {l : List AHold'} (h : HP (l.take l.length)) : isH l = true := by rw [List.take_length] at h; exact decide_eq_true h
theorem isH_bad0 {l : List AHold'} {i : Nat} (hi : i < l.length) (h : l[i].2.1 = []) : isH l = false := decide_eq_false fun hp => (hp.1 _ (List.getElem_mem hi)).1 h
theorem isH_bad1 {l : List AHold'} {i : Nat} (hi : i < l.length) (h : isL l[i].2.1 = false) : isH l = false := decide_eq_false fun hp => of_decide_eq_false h (hp.1 _ (List.getElem_mem hi)).2
theorem isH_bad2 {l : List AHold'} {i : Nat} (hi : i < l.length) (h0 : 0 < i) (h : ¬ ltA (l[i - 1]'(by omega)).1 l[i].1) : isH l = false :=
  decide_eq_false fun hp => h (by
    have := List.pairwise_iff_getElem.1 hp.2 (i - 1) i (by simp; omega) (by simpa using hi) (by omega)
    simpa using this)
theorem r_his1 {l : List AHold'} (h : okHs l) : hold_Is l = some (isH l) := by
  have hl := h.2
  show hold_IsW stdW l = _
  unfold hold_IsW
  refine loop_n (N := l.length) (by omega) (fun i _ => HP (l.take i)) (some (isH l)) (by simp [HP, SrtA]) ?_ ?_
  · rintro _ again h
    rw [cnd_end, isH_end h]
  · rintro i hi _ inv again ha
    rw [cnd_lt hi, idx_w hi]
    refine join_g fun k hk => ?_
    have kt : k (true, ()) = some false := by subst hk; rfl
    have kf : k (false, ()) = again (((i + 1 : Nat) : Int), ()) := by rw [← i64_s i (by omega)]; subst hk; rfl
    clear hk
    by_cases h1 : l[i].2.1 = []
    · rw [cnd_y (by rw [h1]; rfl), both_w, kt, isH_bad0 hi h1]
    · have hne : ((l[i].2.1.length : Int) == 0) = false := by
        cases hc : l[i].2.1 with
        | nil => exact absurd hc h1
        | cons x xs => simp; omega
      rw [cnd_n hne, call_eq (r_lis1 (by have := (h.1 _ (List.getElem_mem hi)).1; omega))]
      cases hL : isL l[i].2.1 with
      | false => rw [cnd_y (by rfl), both_w, kt, isH_bad1 hi hL]
      | true =>
        rw [cnd_n (by rfl)]
        by_cases h0 : 0 < i
        · rw [cnd_y (decide_eq_true (by omega)), i64_pred i h0 (by rw [maxLen_eq]; omega), idx_w (by omega), call_eq (r_lessA _ _), both_w]
          by_cases h2 : ltA (l[i - 1]'(by omega)).1 l[i].1
          · rw [decide_eq_true h2]
            exact kf.trans (ha _ (HP_next hi inv ⟨h1, of_decide_eq_true hL⟩ fun _ => h2))
          · rw [decide_eq_false h2, isH_bad2 hi h0 h2]; exact kt
        · rw [cnd_n (decide_eq_false (by omega)), both_w]
          exact kf.trans (ha _ (HP_next hi inv ⟨h1, of_decide_eq_true hL⟩ fun h => absurd h h0))
theorem r_is26 {l : List AHold'} (h : okHs l) : ref26_Is l = some (isH l) := by
  have hl := h.2
  show ref26_IsW stdW l = _
  unfold ref26_IsW
  refine loop_n (N := l.length) (by omega) (fun i _ => HP (l.take i)) (some (isH l)) (by simp [HP, SrtA]) ?_ ?_
  · rintro _ again h
    rw [cnd_end, isH_end h]
  · rintro i hi _ inv again ha
    rw [cnd_lt hi]
    refine join_g fun k hk => ?_
    have kt : k (true, ()) = some false := by subst hk; rfl
    have kf : k (false, ()) = again (((i + 1 : Nat) : Int), ()) := by rw [← i64_s i (by omega)]; subst hk; rfl
    clear hk
    rw [idx_w hi]
    by_cases h1 : l[i].2.1 = []
    · rw [cnd_y (by rw [h1]; rfl), both_w, kt, isH_bad0 hi h1]
    · have hne : ((l[i].2.1.length : Int) == 0) = false := by
        cases hc : l[i].2.1 with
        | nil => exact absurd hc h1
        | cons x xs => simp; omega
      rw [cnd_n hne, idx_w hi, call_eq (r_is18 (by have := (h.1 _ (List.getElem_mem hi)).1; omega))]
      cases hL : isL l[i].2.1 with
      | false => rw [cnd_y (by rfl), both_w, kt, isH_bad1 hi hL]
      | true =>
        rw [cnd_n (by rfl)]
        by_cases h0 : 0 < i
        · rw [cnd_y (decide_eq_true (by omega)), i64_pred i h0 (by rw [maxLen_eq]; omega), idx_w (by omega), idx_w hi, call_eq (r_less15 _ _), both_w]
          by_cases h2 : ltA (l[i - 1]'(by omega)).1 l[i].1
          · rw [decide_eq_true h2]
            exact kf.trans (ha _ (HP_next hi inv ⟨h1, of_decide_eq_true hL⟩ fun _ => h2))
          · rw [decide_eq_false h2, isH_bad2 hi h0 h2]; exact kt
        · rw [cnd_n (decide_eq_false (by omega)), both_w]
          exact kf.trans (ha _ (HP_next hi inv ⟨h1, of_decide_eq_true hL⟩ fun h => absurd h h0))
end Go.Proofs.YtllkmncnmlmefaaGreat

namespace Go.Proofs.YtllkmncnmlmefaaGreat
open Go Go.Vc Go.RowKit
/-! ### lots: one more, some less (plain) -/
def sameL (a b : ALot') : Prop := a.1 = b.1 ∧ a.2.1 = b.2.1
instance (a b : ALot') : Decidable (sameL a b) := by unfold sameL; infer_instance
def SrtL (l : List ALot') : Prop := l.Pairwise ltL
def lowL (x : ALot') (l : List ALot') : List ALot' := l.filter fun y => decide (ltL y x)
def midK (x : ALot') (l : List ALot') : List ALot' := l.filter fun y => decide (sameL y x)
def highL (x : ALot') (l : List ALot') : List ALot' := l.filter fun y => decide (ltL x y)
theorem cutL (x : ALot') : ∀ {l : List ALot'}, SrtL l → l = lowL x l ++ (midK x l ++ highL x l)
  | [], _ => rfl
  | y :: l, h => by
    obtain ⟨h1, h2⟩ := List.pairwise_cons.1 h
    have ih := cutL x h2
    unfold lowL midK highL at ih ⊢
    rw [List.filter_cons, List.filter_cons, List.filter_cons]
    by_cases hp : ltL y x
    · have e1 : ¬ sameL y x := by unfold ltL at hp; unfold sameL; omega
      have e2 : ¬ ltL x y := by unfold ltL at hp ⊢; omega
      rw [if_pos (by simpa using hp), if_neg (by simpa using e1), if_neg (by simpa using e2)]
      exact congrArg (y :: ·) ih
    · have a1 : ∀ z ∈ l, decide (ltL z x) = false := fun z hz => decide_eq_false fun e => hp (ltL_tr (h1 z hz) e)
      by_cases hs : sameL y x
      · have e2 : ¬ ltL x y := by unfold sameL at hs; unfold ltL; omega
        have a2 : ∀ z ∈ l, decide (sameL z x) = false := fun z hz => decide_eq_false fun e => by
          have := h1 z hz; unfold ltL at this; unfold sameL at hs e; omega
        have a3 : ∀ z ∈ l, decide (ltL x z) = true := fun z hz => decide_eq_true (by
          have := h1 z hz; unfold ltL at this ⊢; unfold sameL at hs; omega)
        rw [if_neg (by simpa using hp), if_pos (by simpa using hs), if_neg (by simpa using e2), fil_none a1, fil_none a2, fil_all a3]; rfl
      · have e2 : ltL x y := by unfold ltL at hp ⊢; unfold sameL at hs; omega
        have a2 : ∀ z ∈ l, decide (sameL z x) = false := fun z hz => decide_eq_false fun e => by
          have := h1 z hz; unfold ltL at this e2; unfold sameL at e; omega
        have a3 : ∀ z ∈ l, decide (ltL x z) = true := fun z hz => decide_eq_true (ltL_tr e2 (h1 z hz))
        rw [if_neg (by simpa using hp), if_neg (by simpa using hs), if_pos (by simpa using e2), fil_none a1, fil_none a2, fil_all a3]; rfl
/-- how much there is of a lot -/
def getL : List ALot' → Int → Int → Int
  | [], _, _ => 0
  | y :: l, a, t => if y.1 = a ∧ y.2.1 = t then y.2.2.1 else getL l a t
theorem getL_none {l : List ALot'} {x : ALot'} (h : midK x l = []) : getL l x.1 x.2.1 = 0 := by
  induction l with
  | nil => rfl
  | cons y l ih =>
    unfold midK at h ih
    rw [List.filter_cons] at h
    by_cases hs : sameL y x
    · rw [if_pos (by simpa using hs)] at h; cases h
    · rw [if_neg (by simpa using hs)] at h
      unfold sameL at hs; rw [getL, if_neg hs, ih h]
theorem getL_some {l : List ALot'} {x y : ALot'} {m : List ALot'} (h : midK x l = y :: m) : getL l x.1 x.2.1 = y.2.2.1 := by
  induction l with
  | nil => cases h
  | cons z l ih =>
    unfold midK at h ih
    rw [List.filter_cons] at h
    by_cases hs : sameL z x
    · rw [if_pos (by simpa using hs)] at h
      obtain ⟨rfl, _⟩ := List.cons.inj h
      unfold sameL at hs; rw [getL, if_pos hs]
    · rw [if_neg (by simpa using hs)] at h
      unfold sameL at hs; rw [getL, if_neg hs, ih h]
theorem midK_one {l : List ALot'} (h : SrtL l) (x : ALot') : midK x l = [] ∨ ∃ y, midK x l = [y] ∧ sameL y x ∧ y ∈ l := by
  cases e : midK x l with
  | nil => exact .inl rfl
  | cons y m =>
    have hy : y ∈ midK x l := by rw [e]; simp
    have hy2 := List.mem_filter.1 hy
    have hs : sameL y x := by simpa using hy2.2
    refine .inr ⟨y, ?_, hs, hy2.1⟩
    have hp : SrtL (midK x l) := List.Pairwise.sublist List.filter_sublist h
    rw [e] at hp
    cases m with
    | nil => rfl
    | cons z m =>
      have h1 : ltL y z := (List.pairwise_cons.1 hp).1 z (by simp)
      have hz : z ∈ midK x l := by rw [e]; simp
      have hz2 : sameL z x := by simpa using (List.mem_filter.1 hz).2
      unfold ltL at h1; unfold sameL at hs hz2; omega
/-- lots in which one has so much -/
def setL (l : List ALot') (x : ALot') : List ALot' := lowL x l ++ ((if x.2.2.1 = 0 then [] else [x]) ++ highL x l)
/-- the document's loop -/
def stGo (x : ALot') : List ALot' → Bool → List ALot' → List ALot'
  | [], d, out => if d = true then out else out ++ [x]
  | y :: l, d, out =>
    if d = true ∨ ltL y x then (if sameL y x then stGo x l d out else stGo x l d (out ++ [y]))
    else (if sameL y x then stGo x l true (out ++ [x]) else stGo x l true (out ++ [x] ++ [y]))
theorem stGo_t (x : ALot') : ∀ (l out : List ALot'), stGo x l true out = out ++ l.filter fun y => decide (¬ sameL y x)
  | [], out => by rw [stGo, if_pos rfl, List.filter_nil, List.append_nil]
  | y :: l, out => by
    rw [stGo, if_pos (.inl rfl), List.filter_cons]
    by_cases h : sameL y x
    · rw [if_pos h, stGo_t x l, if_neg (by simpa using h)]
    · rw [if_neg h, stGo_t x l, if_pos (by simpa using h), List.append_assoc]; rfl
theorem neL_cut {x : ALot'} : ∀ {l : List ALot'}, SrtL l → (l.filter fun y => decide (¬ sameL y x)) = lowL x l ++ highL x l := by
  intro l h
  have e := cutL x h
  have a1 : (lowL x l).filter (fun y => decide (¬ sameL y x)) = lowL x l := fil_all fun y hy => decide_eq_true fun e => by
    have := (List.mem_filter.1 hy).2
    simp only [decide_eq_true_eq] at this
    unfold ltL at this; unfold sameL at e; omega
  have a2 : (midK x l).filter (fun y => decide (¬ sameL y x)) = [] := fil_none fun y hy => decide_eq_false fun hn => by
    have := (List.mem_filter.1 hy).2
    simp only [decide_eq_true_eq] at this
    exact hn this
  have a3 : (highL x l).filter (fun y => decide (¬ sameL y x)) = highL x l := fil_all fun y hy => decide_eq_true fun e => by
    have := (List.mem_filter.1 hy).2
    simp only [decide_eq_true_eq] at this
    unfold ltL at this; unfold sameL at e; omega
  calc (l.filter fun y => decide (¬ sameL y x)) = (lowL x l ++ (midK x l ++ highL x l)).filter (fun y => decide (¬ sameL y x)) := by rw [← e]
    _ = lowL x l ++ highL x l := by rw [List.filter_append, List.filter_append, a1, a2, a3]; rfl
theorem stGo_f (x : ALot') : ∀ (l out : List ALot'), SrtL l → stGo x l false out = out ++ (lowL x l ++ ([x] ++ highL x l))
  | [], out, _ => by rw [stGo, if_neg (by simp)]; rfl
  | y :: l, out, h => by
    obtain ⟨h1, h2⟩ := List.pairwise_cons.1 h
    rw [stGo]
    by_cases hp : ltL y x
    · have hu : ¬ sameL y x := by unfold ltL at hp; unfold sameL; omega
      rw [if_pos (.inr hp), if_neg hu, stGo_f x l _ h2]
      have e1 : lowL x (y :: l) = y :: lowL x l := by unfold lowL; rw [List.filter_cons, if_pos (by simpa using hp)]
      have e2 : highL x (y :: l) = highL x l := by unfold highL; rw [List.filter_cons, if_neg (by simp; unfold ltL at hp ⊢; omega)]
      rw [e1, e2, List.append_assoc]; rfl
    · rw [if_neg (by simpa using hp)]
      have hge : ∀ z ∈ y :: l, ¬ ltL z x := by
        intro z hz hzx
        rcases List.mem_cons.1 hz with rfl | hz
        · exact hp hzx
        · exact hp (ltL_tr (h1 z hz) hzx)
      have e1 : lowL x (y :: l) = [] := fil_none fun z hz => decide_eq_false (hge z hz)
      have e2 := neL_cut (x := x) h
      rw [e1, List.nil_append] at e2
      rw [e1, ← e2, List.filter_cons]
      by_cases hu : sameL y x
      · rw [if_pos hu, if_neg (by simpa using hu), stGo_t, List.append_assoc]; rfl
      · rw [if_neg hu, if_pos (by simpa using hu), stGo_t]
        simp only [List.append_assoc, List.nil_append, List.cons_append]
theorem stGo_set {l : List ALot'} (h : SrtL l) (x : ALot') : stGo x l (decide (x.2.2.1 = 0)) [] = setL l x := by
  unfold setL
  by_cases h0 : x.2.2.1 = 0
  · rw [decide_eq_true h0, stGo_t, if_pos h0, neL_cut h]; rfl
  · rw [decide_eq_false h0, stGo_f x l [] h, if_neg h0]; rfl
/-! ### where a lot is found by halves -/
theorem low_at {l : List ALot'} (h : SrtL l) (x : ALot') {i : Nat} (hi : i < l.length) : (ltL l[i] x ↔ i < (lowL x l).length) := by
  have e := cutL x h
  have hr : ∀ y ∈ midK x l ++ highL x l, ¬ ltL y x := fun y hy hl => by
    rcases List.mem_append.1 hy with hy | hy
    · have := (List.mem_filter.1 hy).2
      simp only [decide_eq_true_eq] at this
      unfold ltL at hl; unfold sameL at this; omega
    · have := (List.mem_filter.1 hy).2
      simp only [decide_eq_true_eq] at this
      unfold ltL at hl this; omega
  have hl : ∀ y ∈ lowL x l, ltL y x := fun y hy => by simpa using (List.mem_filter.1 hy).2
  generalize lowL x l = a at *
  generalize midK x l ++ highL x l = b at *
  subst e
  by_cases hia : i < a.length
  · rw [List.getElem_append_left hia]
    exact ⟨fun _ => hia, fun _ => hl _ (List.getElem_mem _)⟩
  · rw [List.getElem_append_right (by omega)]
    exact ⟨fun hh => absurd hh (hr _ (List.getElem_mem _)), fun hh => absurd hh hia⟩
theorem mid_at {l : List ALot'} (h : SrtL l) (x : ALot') : (∃ hi : (lowL x l).length < l.length, sameL l[(lowL x l).length] x ∧ midK x l = [l[(lowL x l).length]]) ∨ (midK x l = [] ∧ ∀ hi : (lowL x l).length < l.length, ¬ sameL l[(lowL x l).length] x) := by
  have e := cutL x h
  rcases midK_one h x with hm | ⟨y, hm, hs, _⟩
  · right
    refine ⟨hm, fun hi hs => ?_⟩
    have : l[(lowL x l).length] ∈ midK x l := List.mem_filter.2 ⟨List.getElem_mem hi, by simpa using hs⟩
    rw [hm] at this; cases this
  · left
    rw [hm] at e
    have hlen : (lowL x l).length < l.length := by
      have := congrArg List.length e
      simp at this; omega
    have hy : l[(lowL x l).length] = y := by
      have h1 : l[(lowL x l).length]? = some y := by
        have : (lowL x l ++ ([y] ++ highL x l))[(lowL x l).length]? = some y := by simp
        rwa [← e] at this
      rw [List.getElem?_eq_getElem hlen] at h1
      exact Option.some.inj h1
    exact ⟨hlen, by rw [hy]; exact ⟨hs, hm⟩⟩
/-- what the code does with the place -/
theorem set_there {l : List ALot'} (h : SrtL l) {x : ALot'} (hi : (lowL x l).length < l.length) (hs : sameL l[(lowL x l).length] x) (q : Int) (hq : q ≠ 0) :
    l.set (lowL x l).length (x.1, (x.2.1, (q, ()))) = setL l (x.1, (x.2.1, (q, ()))) := by
  have e := cutL x h
  have hm : midK x l = [l[(lowL x l).length]] := by
    rcases mid_at h x with ⟨_, _, hm⟩ | ⟨_, hn⟩
    · exact hm
    · exact absurd hs (hn hi)
  generalize hy : l[(lowL x l).length] = y at hm
  have e3 : setL l (x.1, (x.2.1, (q, ()))) = lowL x l ++ ([(x.1, (x.2.1, (q, ())))] ++ highL x l) := by unfold setL; rw [if_neg hq]; rfl
  rw [e3]
  rw [hm] at e
  have e4 : l.set (lowL x l).length (x.1, (x.2.1, (q, ()))) = (lowL x l ++ ([y] ++ highL x l)).set (lowL x l).length (x.1, (x.2.1, (q, ()))) := by rw [← e]
  rw [e4, List.set_append_right _ _ (Nat.le_refl _), Nat.sub_self]; rfl
theorem del_there {l : List ALot'} (h : SrtL l) {x : ALot'} (hi : (lowL x l).length < l.length) (hs : sameL l[(lowL x l).length] x) :
    l.take (lowL x l).length ++ l.drop ((lowL x l).length + 1) = lowL x l ++ highL x l := by
  have e := cutL x h
  have hm : midK x l = [l[(lowL x l).length]] := by
    rcases mid_at h x with ⟨_, _, hm⟩ | ⟨_, hn⟩
    · exact hm
    · exact absurd hs (hn hi)
  generalize hy : l[(lowL x l).length] = y at hm
  rw [hm] at e
  generalize lowL x l = a at *
  generalize highL x l = b at *
  clear hy hi hs hm
  subst e
  simp
theorem ins_there {l : List ALot'} (h : SrtL l) {x : ALot'} (hm : midK x l = []) :
    l.take (lowL x l).length ++ x :: l.drop (lowL x l).length = lowL x l ++ (x :: highL x l) := by
  have e := cutL x h
  rw [hm] at e
  generalize lowL x l = a at *
  generalize highL x l = b at *
  subst e
  simp
end Go.Proofs.YtllkmncnmlmefaaGreat

namespace Go.Proofs.YtllkmncnmlmefaaGreat
open Go Go.Vc Go.RowKit
/-! ### A unit's lots put in its place -/
def lowH (u : AUnit') (l : List AHold') : List AHold' := l.filter fun p => decide (ltA p.1 u)
def midH (u : AUnit') (l : List AHold') : List AHold' := l.filter fun p => decide (p.1 = u)
def highH (u : AUnit') (l : List AHold') : List AHold' := l.filter fun p => decide (ltA u p.1)
theorem cutH (u : AUnit') : ∀ {l : List AHold'}, SrtA (l.map (·.1)) → l = lowH u l ++ (midH u l ++ highH u l)
  | [], _ => rfl
  | p :: l, h => by
    obtain ⟨h1, h2⟩ := List.pairwise_cons.1 h
    have h1 : ∀ x ∈ l, ltA p.1 x.1 := fun x hx => h1 _ (List.mem_map_of_mem hx)
    have ih := cutH u (l := l) h2
    unfold lowH midH highH at ih ⊢
    rw [List.filter_cons, List.filter_cons, List.filter_cons]
    by_cases hp : ltA p.1 u
    · have e1 : ¬ p.1 = u := fun e => ltA_irr u (by rw [e] at hp; exact hp)
      have e2 : ¬ ltA u p.1 := fun e => ltA_as hp e
      rw [if_pos (by simpa using hp), if_neg (by simpa using e1), if_neg (by simpa using e2), List.cons_append, ← ih]
    · by_cases hu : p.1 = u
      · have e2 : ¬ ltA u p.1 := by rw [hu]; exact ltA_irr u
        have a1 : ∀ x ∈ l, decide (ltA x.1 u) = false := fun x hx => decide_eq_false fun e => ltA_as e (by rw [← hu]; exact h1 x hx)
        have a2 : ∀ x ∈ l, decide (x.1 = u) = false := fun x hx => decide_eq_false fun e => ltA_irr u (by have := h1 x hx; rw [hu, e] at this; exact this)
        have a3 : ∀ x ∈ l, decide (ltA u x.1) = true := fun x hx => decide_eq_true (by rw [← hu]; exact h1 x hx)
        rw [if_neg (by simpa using hp), if_pos (by simpa using hu), if_neg (by simpa using e2), fil_none a1, fil_none a2, fil_all a3]; rfl
      · have e2 : ltA u p.1 := Classical.byContradiction fun hn => hu (ltA_tot hp hn)
        have a1 : ∀ x ∈ l, decide (ltA x.1 u) = false := fun x hx => decide_eq_false fun e => ltA_as (ltA_tr e2 (h1 x hx)) e
        have a2 : ∀ x ∈ l, decide (x.1 = u) = false := fun x hx => decide_eq_false fun e => ltA_irr u (by have := ltA_tr e2 (h1 x hx); rw [e] at this; exact this)
        have a3 : ∀ x ∈ l, decide (ltA u x.1) = true := fun x hx => decide_eq_true (ltA_tr e2 (h1 x hx))
        rw [if_neg (by simpa using hp), if_neg (by simpa using hu), if_pos (by simpa using e2), fil_none a1, fil_none a2, fil_all a3]; rfl
def setH (l : List AHold') (u : AUnit') (now : List ALot') : List AHold' := lowH u l ++ ((if now = [] then [] else [(u, (now, ()))]) ++ highH u l)
theorem setH_len {l : List AHold'} (h : SrtA (l.map (·.1))) (u : AUnit') (now : List ALot') : (setH l u now).length ≤ l.length + 1 := by
  have hc := congrArg List.length (cutH u h)
  unfold setH
  rw [List.length_append, List.length_append] at hc
  rw [List.length_append, List.length_append]
  split <;> simp <;> omega
theorem setH_mem {l : List AHold'} {u : AUnit'} {now : List ALot'} {p : AHold'} : p ∈ setH l u now ↔ (p ∈ l ∧ p.1 ≠ u) ∨ (now ≠ [] ∧ p = (u, (now, ()))) := by
  unfold setH lowH highH
  rw [List.mem_append, List.mem_append, List.mem_filter, List.mem_filter]
  constructor
  · rintro (⟨h1, h2⟩ | h | ⟨h1, h2⟩)
    · exact .inl ⟨h1, fun e => ltA_irr u (by simp only [decide_eq_true_eq] at h2; rw [e] at h2; exact h2)⟩
    · split at h
      · cases h
      · rename_i hn; exact .inr ⟨hn, by simpa using h⟩
    · exact .inl ⟨h1, fun e => ltA_irr u (by simp only [decide_eq_true_eq] at h2; rw [e] at h2; exact h2)⟩
  · rintro (⟨h1, h2⟩ | ⟨hn, rfl⟩)
    · by_cases hlt : ltA p.1 u
      · exact .inl ⟨h1, by simpa using hlt⟩
      · by_cases hgt : ltA u p.1
        · exact .inr (.inr ⟨h1, by simpa using hgt⟩)
        · exact absurd (ltA_tot hlt hgt) h2
    · rw [if_neg hn]; exact .inr (.inl (by simp))
def shGoH (u : AUnit') (now : List ALot') : List AHold' → Bool → List AHold' → List AHold'
  | [], d, out => if d = true then out else out ++ [(u, (now, ()))]
  | p :: l, d, out =>
    if d = true ∨ ltA p.1 u then (if p.1 = u then shGoH u now l d out else shGoH u now l d (out ++ [p]))
    else (if p.1 = u then shGoH u now l true (out ++ [(u, (now, ()))]) else shGoH u now l true (out ++ [(u, (now, ()))] ++ [p]))
theorem shGoH_t (u : AUnit') (now : List ALot') : ∀ (l out : List AHold'), shGoH u now l true out = out ++ l.filter fun p => decide (p.1 ≠ u)
  | [], out => by rw [shGoH, if_pos rfl, List.filter_nil, List.append_nil]
  | p :: l, out => by
    rw [shGoH, if_pos (.inl rfl), List.filter_cons]
    by_cases h : p.1 = u
    · rw [if_pos h, shGoH_t u now l, if_neg (by simpa using h)]
    · rw [if_neg h, shGoH_t u now l, if_pos (by simpa using h), List.append_assoc]; rfl
theorem neH_cut {u : AUnit'} {l : List AHold'} (h : SrtA (l.map (·.1))) : (l.filter fun p => decide (p.1 ≠ u)) = lowH u l ++ highH u l := by
  have e := cutH u h
  have a1 : (lowH u l).filter (fun p => decide (p.1 ≠ u)) = lowH u l := fil_all fun x hx => decide_eq_true fun e => by
    have := (List.mem_filter.1 hx).2
    simp only [decide_eq_true_eq] at this
    rw [e] at this; exact ltA_irr u this
  have a2 : (midH u l).filter (fun p => decide (p.1 ≠ u)) = [] := fil_none fun x hx => decide_eq_false fun hn => by
    have := (List.mem_filter.1 hx).2
    simp only [decide_eq_true_eq] at this
    exact hn this
  have a3 : (highH u l).filter (fun p => decide (p.1 ≠ u)) = highH u l := fil_all fun x hx => decide_eq_true fun e => by
    have := (List.mem_filter.1 hx).2
    simp only [decide_eq_true_eq] at this
    rw [e] at this; exact ltA_irr u this
  calc (l.filter fun p => decide (p.1 ≠ u)) = (lowH u l ++ (midH u l ++ highH u l)).filter (fun p => decide (p.1 ≠ u)) := by rw [← e]
    _ = lowH u l ++ highH u l := by rw [List.filter_append, List.filter_append, a1, a2, a3]; rfl
theorem shGoH_f (u : AUnit') (now : List ALot') : ∀ (l out : List AHold'), SrtA (l.map (·.1)) → shGoH u now l false out = out ++ (lowH u l ++ ([(u, (now, ()))] ++ highH u l))
  | [], out, _ => by rw [shGoH, if_neg (by simp)]; rfl
  | p :: l, out, h => by
    obtain ⟨h1, h2⟩ := List.pairwise_cons.1 h
    have h1 : ∀ x ∈ l, ltA p.1 x.1 := fun x hx => h1 _ (List.mem_map_of_mem hx)
    rw [shGoH]
    by_cases hp : ltA p.1 u
    · have hu : ¬ p.1 = u := fun e => ltA_irr u (by rw [e] at hp; exact hp)
      rw [if_pos (.inr hp), if_neg hu, shGoH_f u now l _ h2]
      have e1 : lowH u (p :: l) = p :: lowH u l := by unfold lowH; rw [List.filter_cons, if_pos (by simpa using hp)]
      have e2 : highH u (p :: l) = highH u l := by unfold highH; rw [List.filter_cons, if_neg (by simpa using fun e => ltA_as hp e)]
      rw [e1, e2, List.append_assoc]; rfl
    · rw [if_neg (by simpa using hp)]
      have hge : ∀ x ∈ p :: l, ¬ ltA x.1 u := by
        intro x hx hxu
        rcases List.mem_cons.1 hx with rfl | hx
        · exact hp hxu
        · exact hp (ltA_tr (h1 x hx) hxu)
      have e1 : lowH u (p :: l) = [] := fil_none fun x hx => decide_eq_false (hge x hx)
      have e2 := neH_cut (u := u) h
      rw [e1, List.nil_append] at e2
      rw [e1, ← e2, List.filter_cons]
      by_cases hu : p.1 = u
      · rw [if_pos hu, if_neg (by simpa using hu), shGoH_t, List.append_assoc]; rfl
      · rw [if_neg hu, if_pos (by simpa using hu), shGoH_t]
        simp only [List.append_assoc, List.nil_append, List.cons_append]
theorem shGoH_put {l : List AHold'} (h : SrtA (l.map (·.1))) (u : AUnit') (now : List ALot') : shGoH u now l (decide (now = [])) [] = setH l u now := by
  unfold setH
  by_cases h0 : now = []
  · rw [decide_eq_true h0, shGoH_t, if_pos h0, neH_cut h]; rfl
  · rw [decide_eq_false h0, shGoH_f u now l [] h, if_neg h0]; rfl

end Go.Proofs.YtllkmncnmlmefaaGreat

namespace Go.Proofs.YtllkmncnmlmefaaGreat
open Go Go.Vc Go.RowKit
/-! ### Holds, as the document puts and moves them -/
def restH (u : AUnit') : List AHold' → List AHold'
  | [] => []
  | p :: t => if p.1 = u then t else p :: t
def midL (u : AUnit') (all : List ALot') : List AHold' := if all = [] then [] else [(u, (all, ()))]
theorem setH_lt {u : AUnit'} {p : AHold'} {l : List AHold'} {all : List ALot'} (h : ltA p.1 u) : setH (p :: l) u all = p :: setH l u all := by
  unfold setH
  have e1 : lowH u (p :: l) = p :: lowH u l := by unfold lowH; rw [List.filter_cons, if_pos (by simpa using h)]
  have e2 : highH u (p :: l) = highH u l := by unfold highH; rw [List.filter_cons, if_neg (by simpa using fun e => ltA_as h e)]
  rw [e1, e2]; rfl
theorem setH_ge {u : AUnit'} {l : List AHold'} {all : List ALot'} (hs : SrtA (l.map (·.1))) (h : ∀ p, l.head? = some p → ¬ ltA p.1 u) : setH l u all = midL u all ++ restH u l := by
  unfold setH midL
  cases l with
  | nil => rfl
  | cons p t =>
    have hp := h p rfl
    obtain ⟨h1, _⟩ := List.pairwise_cons.1 hs
    have h1 : ∀ x ∈ t, ltA p.1 x.1 := fun x hx => h1 _ (List.mem_map_of_mem hx)
    have hge : ∀ x ∈ p :: t, ¬ ltA x.1 u := by
      intro x hx hxu
      rcases List.mem_cons.1 hx with rfl | hx
      · exact hp hxu
      · exact hp (ltA_tr (h1 x hx) hxu)
    have e1 : lowH u (p :: t) = [] := fil_none fun x hx => decide_eq_false (hge x hx)
    rw [e1, List.nil_append]
    congr 1
    show highH u (p :: t) = if p.1 = u then t else p :: t
    by_cases hu : p.1 = u
    · rw [if_pos hu]
      unfold highH
      rw [List.filter_cons, if_neg (by rw [hu]; simpa using ltA_irr u)]
      exact fil_all fun x hx => decide_eq_true (by rw [← hu]; exact h1 x hx)
    · rw [if_neg hu]
      have hgt : ltA u p.1 := Classical.byContradiction fun hn => hu (ltA_tot hp hn)
      exact fil_all fun x hx => decide_eq_true (by
        rcases List.mem_cons.1 hx with rfl | hx
        · exact hgt
        · exact ltA_tr hgt (h1 x hx))
theorem okHs_set {l : List AHold'} (h : okHs l) (hl : l.length ≤ 390000) (hs : SrtA (l.map (·.1))) (u : AUnit') {all : List ALot'} (ha : okT all) : okHs (setH l u all) :=
  ⟨fun p hp => by
    rcases setH_mem.1 hp with ⟨h1, _⟩ | ⟨_, rfl⟩
    · exact h.1 p h1
    · exact ha, by have := setH_len hs u all; omega⟩
theorem okT_nil : okT [] := ⟨by simp, fun x hx => by cases hx⟩
/-! ### Choices without a part's -/
end Go.Proofs.YtllkmncnmlmefaaGreat

namespace Go.Vc
open Go
/-- a loop over a list, by what is left of it -/
theorem loop_go {α X S β : Type} {l : List α} (hN : l.length < 9223372036854775808) {f : X → (X → Option β) → Option β} (st : Nat → S → X) (Inv : Nat → S → Prop) (G : List α → S → Option β) {z0 : X} {s0 : S} (hz : z0 = st 0 s0) (h0 : Inv 0 s0)
    (hend : ∀ s, Inv l.length s → ∀ again : X → Option β, f (st l.length s) again = G [] s)
    (hstep : ∀ (i : Nat) (hi : i < l.length) (s : S), Inv i s → ∀ again : X → Option β, (∀ s', Inv (i + 1) s' → again (st (i + 1) s') = G (l.drop (i + 1)) s') → f (st i s) again = G (l[i] :: l.drop (i + 1)) s) : stdW.loop f z0 = G l s0 := by
  subst hz
  have key : ∀ n i s, i ≤ l.length → l.length - i < n → Inv i s → loopF n f (st i s) = G (l.drop i) s := by
    intro n
    induction n with
    | zero => intro i s _ h; omega
    | succ n ih =>
      intro i s hi hn hv
      show f (st i s) (loopF n f) = _
      by_cases h : i < l.length
      · rw [List.drop_eq_getElem_cons h]
        exact hstep i h s hv _ fun s' hv' => ih (i + 1) s' (by omega) (by omega) hv'
      · have : i = l.length := by omega
        subst this; rw [List.drop_length]; exact hend s hv _
  show loopF FU f (st 0 s0) = _
  have := key FU 0 s0 (Nat.zero_le _) (by rw [FU_eq]; omega) h0
  rwa [List.drop_zero] at this
end Go.Vc

namespace Go.Proofs.YtllkmncnmlmefaaGreat
open Go Go.Vc Go.RowKit
theorem unitEq (v x : AUnit') : notIf false ((v.1 == x.1) && (v.2.1 == x.2.1)) = decide (v = x) := by rw [nif_f]; exact eqA v x
theorem r_hsetG {l : List AHold'} {u : AUnit'} {all : List ALot'} (h : okHs l) (hs : SrtA (l.map (·.1))) (hal : all.length ≤ 1000) : hold_set l u all = some (setH l u all) := by
  have hl := h.2
  show hold_setW stdW l u all = _
  unfold hold_setW
  rw [← shGoH_put hs]
  refine both_of ?_ ?_ <;>
  · rw [call_eq (r_cloneT (s := all) (by omega))]
    have hz : ((all.length : Int) == 0) = decide (all = []) := by
      cases all with
      | nil => rfl
      | cons x xs => simp; omega
    rw [hz]
    refine loop_go (l := l) (s0 := (decide (all = []), [])) (by omega) (fun i (z : Bool × List AHold') => (z.1, ((i : Int), (u.1, (u.2.1, (all, (z.2, ()))))))) (fun i z => z.2.length ≤ 2 * i) (fun l' z => some (shGoH u all l' z.1 z.2)) rfl (by simp) ?_ ?_
    · rintro ⟨d, out⟩ ho again
      show stdW.cnd (decide ((l.length : Int) < (l.length : Int))) _ _ = _
      rw [cnd_end]
      refine join_g fun k hk => ?_
      have kk : ∀ x, k (x, ()) = some x := by intro x; subst hk; rfl
      clear hk
      simp only at ho
      show stdW.cnd (!d) (stdW.room (out.length + 1) 40 (k (out ++ [(u, (all, ()))], ()))) (k (out, ())) = some (shGoH u all [] d out)
      cases d with
      | true => rw [cnd_n (by rfl), kk, shGoH, if_pos rfl]
      | false => rw [cnd_y (by rfl), room_w (by omega) (by omega), kk, shGoH, if_neg (by decide)]
    · rintro i hi ⟨d, out⟩ ho again ha
      simp only at ho
      have h2 := (h.1 _ (List.getElem_mem hi)).1
      show stdW.cnd (decide ((i : Int) < (l.length : Int))) _ _ = _
      rw [cnd_lt hi]
      refine join_g fun k5 hk5 => ?_
      have k5' : ∀ (d' : Bool) (out' : List AHold'), out'.length ≤ 2 * (i + 1) → k5 (d', (out', ())) = some (shGoH u all (l.drop (i + 1)) d' out') := by
        intro d' out' ho'
        rw [← ha (d', out') ho']
        subst hk5
        show again (d', (IntKind.i64.wrap ((i : Int) + 1), (u.1, (u.2.1, (all, (out', ())))))) = _
        rw [i64_s i (by omega)]
      clear hk5 ha
      show stdW.idx l (i : Int) _ = some (shGoH u all (l[i] :: l.drop (i + 1)) d out)
      rw [idx_w hi, shGoH]
      refine join_g fun k9 hk9 => ?_
      have k9u : l[i].1 = u → ∀ (d' : Bool) (out' : List AHold'), out'.length ≤ 2 * i + 1 → k9 (d', (out', ())) = some (shGoH u all (l.drop (i + 1)) true (if d' = true then out' else out' ++ [(u, (all, ()))])) := by
        intro hu d' out' ho'
        subst hk9
        show stdW.cnd (notIf true ((l[i].1.1 == u.1) && (l[i].1.2.1 == u.2.1))) _ _ = _
        rw [nif_t, eqA, cnd_n (by simp [hu])]
        show stdW.cnd (!d') (stdW.room (out'.length + 1) 40 (k5 (true, (out' ++ [(u, (all, ()))], ())))) (k5 (d', (out', ()))) = _
        cases d' with
        | true => rw [cnd_n (by rfl), if_pos rfl, k5' true out' (by omega)]
        | false => rw [cnd_y (by rfl), if_neg (by decide), room_w (by omega) (by omega), k5' true _ (by rw [List.length_append]; simp; omega)]
      have k9n : ¬ l[i].1 = u → ∀ (d' : Bool) (out' : List AHold'), out'.length ≤ 2 * i + 1 → k9 (d', (out', ())) = some (shGoH u all (l.drop (i + 1)) d' (out' ++ [l[i]])) := by
        intro hu d' out' ho'
        subst hk9
        show stdW.cnd (notIf true ((l[i].1.1 == u.1) && (l[i].1.2.1 == u.2.1))) _ _ = _
        rw [nif_t, eqA, cnd_y (by simp [hu]), call_eq (r_cloneT (by omega))]
        show stdW.room (out'.length + 1) 40 (k5 (d', (out' ++ [l[i]], ()))) = _
        rw [room_w (by omega) (by omega), k5' d' _ (by rw [List.length_append]; simp; omega)]
      clear hk9
      refine join_g fun k11 hk11 => ?_
      have k11t : k11 (true, (out, ())) = k9 (true, (out ++ [(u, (all, ()))], ())) := by
        subst hk11
        show stdW.cnd true (stdW.room (out.length + 1) 40 (k9 (true, (out ++ [(u, (all, ()))], ())))) _ = _
        rw [cnd_y rfl, room_w (by omega) (by omega)]
      have k11f : k11 (false, (out, ())) = k9 (d, (out, ())) := by
        subst hk11
        show stdW.cnd false _ (k9 (d, (out, ()))) = _
        rw [cnd_n rfl]
      clear hk11
      show stdW.cnd (!d) (stdW.call (acct_Less u l[i].1) fun v => k11 (v, (out, ()))) (k11 (false, (out, ()))) = _
      cases d with
      | true =>
        rw [cnd_n (by rfl), k11f, if_pos (.inl rfl)]
        by_cases hu : l[i].1 = u
        · rw [if_pos hu, k9u hu true out (by omega), if_pos rfl]
        · rw [if_neg hu, k9n hu true out (by omega)]
      | false =>
        rw [cnd_y (by rfl), call_eq (r_lessA _ _)]
        by_cases hlt : ltA u l[i].1
        · have hn : ¬ ltA l[i].1 u := fun e => ltA_as hlt e
          have hu : ¬ l[i].1 = u := fun e => ltA_irr u (by rw [e] at hlt; exact hlt)
          rw [decide_eq_true hlt, k11t, k9n hu true _ (by rw [List.length_append]; simp; omega), if_neg (by simpa using hn), if_neg hu]
        · rw [decide_eq_false hlt, k11f]
          by_cases hu : l[i].1 = u
          · have hn : ¬ ltA l[i].1 u := by rw [hu]; exact ltA_irr u
            rw [k9u hu false out (by omega), if_neg (by decide), if_neg (by simpa using hn), if_pos hu]
          · have hn : ltA l[i].1 u := Classical.byContradiction fun hn => hu (ltA_tot hn hlt)
            rw [k9n hu false out (by omega), if_pos (.inr hn), if_neg hu]
theorem r_with26G {l : List AHold'} {u : AUnit'} {all : List ALot'} (hs : SrtA (l.map (·.1))) (hl : l.length ≤ 400000) : ref26_With l u all = some (setH l u all) := by
  show ref26_WithW stdW l u all = _
  unfold ref26_WithW
  refine join_g fun k10 h10 => ?_
  have K10 : ∀ (i : Nat) (out : List AHold'), i ≤ l.length → out.length ≤ 400000 → k10 ((i : Int), (out, ())) = some (out ++ (midL u all ++ restH u (l.drop i))) := by
    intro i out hi ho
    subst h10
    refine join_g fun k9 h9 => ?_
    have K9 : ∀ out' : List AHold', out'.length ≤ 400001 → k9 (out', ()) = some (out' ++ restH u (l.drop i)) := by
      intro out' ho'
      subst h9
      refine join_g fun k5 h5 => ?_
      have K5 : ∀ j : Nat, j ≤ l.length → k5 ((j : Int), (out', ())) = some (out' ++ l.drop j) := by
        intro j hj
        subst h5
        show stdW.bnd (j : Int) l.length (fun h4 => stdW.room (out'.length + ((l.take l.length).drop h4).length) 40 (some (out' ++ ((l.take l.length).drop h4)))) = _
        rw [bnd_w (by omega) (by omega), Int.toNat_natCast, List.take_length, room_w (by rw [List.length_drop]; omega) (by rw [List.length_drop]; omega)]
      clear h5
      refine join_g fun k7 h7 => ?_
      have K7 : ∀ b : Bool, k7 (b, (out', ())) = stdW.cnd b (k5 (IntKind.i64.wrap ((i : Int) + 1), (out', ()))) (k5 ((i : Int), (out', ()))) := by intro b; subst h7; rfl
      clear h7
      by_cases h : i < l.length
      · rw [cnd_lt h]
        show stdW.idx l (i : Int) (fun x8 => k7 (notIf false ((x8.1.1 == u.1) && (x8.1.2.1 == u.2.1)), (out', ()))) = _
        rw [idx_w h, unitEq, K7, List.drop_eq_getElem_cons h]
        show _ = some (out' ++ if l[i].1 = u then l.drop (i + 1) else l[i] :: l.drop (i + 1))
        by_cases hu : l[i].1 = u
        · rw [decide_eq_true hu, cnd_y rfl, if_pos hu, i64_s i (by omega), K5 (i + 1) (by omega)]
        · rw [decide_eq_false hu, cnd_n rfl, if_neg hu, K5 i hi, ← List.drop_eq_getElem_cons h]
      · have : i = l.length := by omega
        subst this
        rw [cnd_end]
        show k7 (false, (out', ())) = _
        rw [K7, cnd_n rfl, K5 _ (Nat.le_refl _), List.drop_length]; rfl
    clear h9
    show stdW.cnd (decide (0 < (all.length : Int))) (stdW.room (out.length + 1) 40 (k9 (out ++ [(u, (all, ()))], ()))) (k9 (out, ())) = _
    unfold midL
    cases all with
    | nil => rw [cnd_n (by rfl), if_pos rfl, K9 out (by omega), List.nil_append]
    | cons x xs => rw [cnd_y (decide_eq_true (by simp <;> omega)), if_neg (by simp), room_w (by omega) (by omega), K9 _ (by rw [List.length_append]; simp; omega), List.append_assoc]
  clear h10
  refine (loop_go (l := l) (s0 := []) (by omega) (fun i (z : List AHold') => ((i : Int), (z, ()))) (fun i z => z.length ≤ i ∧ SrtA ((l.drop i).map (·.1))) (fun l' z => some (z ++ setH l' u all)) rfl ⟨Nat.le_refl _, hs⟩ ?_ ?_).trans (by rw [List.nil_append])
  · rintro z ⟨hz, _⟩ again
    show stdW.cnd (decide ((l.length : Int) < (l.length : Int))) _ (k10 ((l.length : Int), (z, ()))) = _
    rw [cnd_end, K10 _ z (Nat.le_refl _) (by omega), List.drop_length]
    rw [setH_ge (l := []) List.Pairwise.nil (fun p h => by cases h)]
  · rintro i hi z ⟨hz, hsd⟩ again ha
    have hd := List.drop_eq_getElem_cons hi
    show stdW.cnd (decide ((i : Int) < (l.length : Int))) (stdW.idx l (i : Int) _) _ = _
    rw [cnd_lt hi, idx_w hi, call_eq (r_less15 _ _)]
    rw [hd] at hsd
    by_cases h : ltA l[i].1 u
    · rw [decide_eq_true h, cnd_y rfl]
      show stdW.idx l (i : Int) _ = _
      rw [idx_w hi]
      show stdW.room (z.length + 1) 40 (again (IntKind.i64.wrap ((i : Int) + 1), (z ++ [l[i]], ()))) = _
      rw [room_w (by omega) (by omega), i64_s i (by omega), ha (z ++ [l[i]]) ⟨by rw [List.length_append]; simp; omega, (List.pairwise_cons.1 hsd).2⟩, setH_lt h, List.append_assoc]; rfl
    · rw [decide_eq_false h, cnd_n rfl]
      show k10 ((i : Int), (z, ())) = _
      rw [K10 i z (by omega) (by omega), setH_ge hsd (fun p hp => by cases hp; exact h), hd]
end Go.Proofs.YtllkmncnmlmefaaGreat

namespace Go.Proofs.YtllkmncnmlmefaaGreat
open Go Go.Vc Go.RowKit
/-! ### what collateral is worth, what is passed, what is sold (plain) -/
def qtyOf (x : ALot') : Int := x.2.2.1
def priceOf (a : AAsset') : Int := a.2.1
def putL (l : List ALot') (x : ALot') : List ALot' × Int × Unit :=
  if isL l = true then if rightL x then if I64 (getL l x.1 x.2.1 + x.2.2.1) then if getL l x.1 x.2.1 = 0 ∧ l.length = 16 then ([], 25, ()) else (setL l (x.1, (x.2.1, (getL l x.1 x.2.1 + x.2.2.1, ()))), 0, ()) else ([], 7, ()) else ([], 2, ()) else ([], 3, ())
def takeL (l : List ALot') (x : ALot') : List ALot' × Int × Unit :=
  if isL l = true then if rightL x then if getL l x.1 x.2.1 < x.2.2.1 then ([], 23, ()) else (setL l (x.1, (x.2.1, (getL l x.1 x.2.1 - x.2.2.1, ()))), 0, ()) else ([], 2, ()) else ([], 3, ())
def putH (l : List AHold') (u : AUnit') (x : ALot') : List AHold' × Int × Unit :=
  if isH l = true then if (putL (lotsH l u) x).2.1 = 0 then (setH l u (putL (lotsH l u) x).1, 0, ()) else ([], (putL (lotsH l u) x).2.1, ()) else ([], 3, ())
def takeH (l : List AHold') (u : AUnit') (x : ALot') : List AHold' × Int × Unit :=
  if isH l = true then if (takeL (lotsH l u) x).2.1 = 0 then (setH l u (takeL (lotsH l u) x).1, 0, ()) else ([], (takeL (lotsH l u) x).2.1, ()) else ([], 3, ())
def passH (l : List AHold') (f t : AUnit') (x : ALot') (tag : Int) : List AHold' × Int × Unit :=
  if isH l = true then if f = t then ([], 24, ()) else if (takeH l f x).2.1 = 0 then putH (takeH l f x).1 t (x.1, (tag, (x.2.2.1, ()))) else ([], (takeH l f x).2.1, ()) else ([], 3, ())
def zA : AAsset' := (0, (0, (0, ())))
def findA : List AAsset' → Int → AAsset' × Bool × Unit
  | [], _ => (zA, false, ())
  | a :: l, k => if a.1 = k then (a, true, ()) else findA l k
def valsGo (as : List AAsset') : List ALot' → List Int → List Int × Int × Unit
  | [], acc => (acc, 0, ())
  | x :: l, acc => if (findA as x.1).2.1 = true then if I64 (qtyOf x * priceOf (findA as x.1).1) then valsGo as l (acc ++ [qtyOf x * priceOf (findA as x.1).1]) else ([], 7, ()) else ([], 11, ())
def worthP (as : List AAsset') (l : List ALot') : Int × Int × Unit :=
  if isL l = true then if (valsGo as l []).2.1 = 0 then fits64 (valsGo as l []).1.sum else (0, (valsGo as l []).2.1, ()) else (0, 3, ())
def owesP (p : List AFlow') (u : AUnit') : Int × Int × Unit := if getP p u = -9223372036854775808 then (0, 7, ()) else if getP p u < 0 then (- getP p u, 0, ()) else (0, 0, ())
def roomP (as : List AAsset') (p : List AFlow') (h : List AHold') (u : AUnit') : Int × Int × Unit :=
  if (worthP as (lotsH h u)).2.1 = 0 then if I64 ((worthP as (lotsH h u)).1 + getP p u) then (max 0 ((worthP as (lotsH h u)).1 + getP p u), 0, ()) else (0, 7, ()) else (0, (worthP as (lotsH h u)).2.1, ())
/-- purse, holds, or why not -/
abbrev PH := List AFlow' × List AHold' × Int
def tU : AUnit' := (0, (1, ()))
def fU : AUnit' := (0, (0, ()))
def upZ (m d : Int) : Int := -((-m) / d)
def soldP (as : List AAsset') (u : AUnit') (x : ALot') (m : Int) (p : List AFlow') (h : List AHold') : PH :=
  if (findA as x.1).2.1 = true then
    if priceOf (findA as x.1).1 = 0 then (p, h, 0)
    else if I64 (min (upZ m (priceOf (findA as x.1).1)) (qtyOf x) * priceOf (findA as x.1).1) then
      if (passH h u tU (x.1, (x.2.1, (min (upZ m (priceOf (findA as x.1).1)) (qtyOf x), ()))) 0).2.1 = 0 then
        if (moveP p tU u (min (upZ m (priceOf (findA as x.1).1)) (qtyOf x) * priceOf (findA as x.1).1)).2.1 = 0 then
          ((moveP p tU u (min (upZ m (priceOf (findA as x.1).1)) (qtyOf x) * priceOf (findA as x.1).1)).1, (passH h u tU (x.1, (x.2.1, (min (upZ m (priceOf (findA as x.1).1)) (qtyOf x), ()))) 0).1, 0)
        else ([], [], (moveP p tU u (min (upZ m (priceOf (findA as x.1).1)) (qtyOf x) * priceOf (findA as x.1).1)).2.1)
      else ([], [], (passH h u tU (x.1, (x.2.1, (min (upZ m (priceOf (findA as x.1).1)) (qtyOf x), ()))) 0).2.1)
    else ([], [], 7)
  else ([], [], 11)
def sellGo (as : List AAsset') (u : AUnit') (cash : Int) : List ALot' → List AFlow' → List AHold' → PH
  | [], p, h => (p, h, 0)
  | x :: l, p, h => if I64 (cash - getP p u) then if 0 < cash - getP p u then
      if (soldP as u x (cash - getP p u) p h).2.2 = 0 then sellGo as u cash l (soldP as u x (cash - getP p u) p h).1 (soldP as u x (cash - getP p u) p h).2.1 else ([], [], (soldP as u x (cash - getP p u) p h).2.2)
    else sellGo as u cash l p h else ([], [], 7)
def sellP (as : List AAsset') (p : List AFlow') (h : List AHold') (u : AUnit') (cash : Int) : PH :=
  if isP p = true ∧ isH h = true then if u = tU then ([], [], 2) else sellGo as u cash (lotsH h u) p h else ([], [], 3)
abbrev ADebit2 := AUnit' × AUnit' × Int × Unit
abbrev PHD := List AFlow' × List AHold' × List ADebit2 × Int
def paysP (as : List AAsset') (p : List AFlow') (h : List AHold') (by' to : AUnit') (n : Int) : PHD :=
  if n = 0 then (p, h, [], 0) else
    if (sellP as p h by' n).2.2 = 0 then
      if (moveP (sellP as p h by' n).1 by' to n).2.1 = 0 then ((moveP (sellP as p h by' n).1 by' to n).1, (sellP as p h by' n).2.1, [(by', (to, (n, ())))], 0)
      else ([], [], [], (moveP (sellP as p h by' n).1 by' to n).2.1)
    else ([], [], [], (sellP as p h by' n).2.2)
def payF (as : List AAsset') (p : List AFlow') (h : List AHold') (by' to : AUnit') : PHD :=
  if (owesP p to).2.1 = 0 then if (roomP as p h by').2.1 = 0 then if by' = to then (p, h, [], 0) else paysP as p h by' to (min (owesP p to).1 (roomP as p h by').1)
    else ([], [], [], (roomP as p h by').2.1) else ([], [], [], (owesP p to).2.1)
def ownF (as : List AAsset') (p : List AFlow') (h : List AHold') (u : AUnit') : PHD :=
  if (owesP p u).2.1 = 0 then if (sellP as p h u 0).2.2 = 0 then
      if (owesP p u).1 = (owesP (sellP as p h u 0).1 u).1 then ((sellP as p h u 0).1, (sellP as p h u 0).2.1, [], 0)
      else ((sellP as p h u 0).1, (sellP as p h u 0).2.1, [(u, (u, ((owesP p u).1 - (owesP (sellP as p h u 0).1 u).1, ())))], 0)
    else ([], [], [], (sellP as p h u 0).2.2) else ([], [], [], (owesP p u).2.1)
end Go.Proofs.YtllkmncnmlmefaaGreat
