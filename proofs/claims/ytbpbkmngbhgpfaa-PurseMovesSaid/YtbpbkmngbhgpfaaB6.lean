import Derived.Test.YtbpbkmngbhgpfaaB5
import Derived.Test.YtbpbkmngbhgpfaaRows
import Derived.JoinedOf
namespace Go.Proofs.Ytbpbkmngbhgpfaa
open Go Go.Vc Go.RowKit
/-! ### numbers of 128 bits, by their values -/
def wv (w : WideWide') : Int := w.1 * 18446744073709551616 + w.2.1
def wOk (w : WideWide') : Prop := (-9223372036854775808 ≤ w.1 ∧ w.1 ≤ 9223372036854775807) ∧ (0 ≤ w.2.1 ∧ w.2.1 < 18446744073709551616)
def wide (z : Int) : WideWide' := (z / 18446744073709551616, z % 18446744073709551616, ())
def In128 (z : Int) : Prop := -170141183460469231731687303715884105728 ≤ z ∧ z < 170141183460469231731687303715884105728
instance (z : Int) : Decidable (In128 z) := by unfold In128; infer_instance
theorem wv_wide (z : Int) : wv (wide z) = z := by unfold wide wv; simp only; omega
theorem wide_wv (w : WideWide') (h : wOk w) : wide (wv w) = w := by
  obtain ⟨hi, lo, ⟨⟩⟩ := w
  unfold wOk at h
  unfold wide wv
  simp only at h ⊢
  have e1 : (hi * 18446744073709551616 + lo) / 18446744073709551616 = hi := by omega
  have e2 : (hi * 18446744073709551616 + lo) % 18446744073709551616 = lo := by omega
  rw [e1, e2]
theorem wv_in (w : WideWide') (h : wOk w) : In128 (wv w) := by unfold wOk at h; unfold In128 wv; omega
theorem wide_ok (z : Int) (h : In128 z) : wOk (wide z) := by unfold In128 at h; unfold wOk wide; simp only; omega
theorem wide_inj {a b : Int} (h : wide a = wide b) : a = b := by rw [← wv_wide a, h, wv_wide]
theorem shr63 (n : Int) (h : -9223372036854775808 ≤ n ∧ n ≤ 9223372036854775807) : n.fdiv (2 ^ min (Int.toNat 63) IntKind.i64.bits) = n / 18446744073709551616 := by
  have e : (2 : Int) ^ min (Int.toNat 63) IntKind.i64.bits = 9223372036854775808 := by decide +kernel
  rw [e, Int.fdiv_eq_ediv_of_nonneg _ (by omega)]; omega
def fit (z : Int) : WideWide' × Int × Unit := if In128 z then (wide z, 0, ()) else ((0, 0, ()), 7, ())
def I64 (n : Int) : Prop := -9223372036854775808 ≤ n ∧ n ≤ 9223372036854775807
theorem i64_128 {n : Int} (h : I64 n) : In128 n := by unfold I64 at h; unfold In128; omega
theorem r_wOf (n : Int) (h : I64 n) : wide_Of n = some (wide n) := by
  show wide_OfW stdW n = _
  unfold wide_OfW
  rw [nn_w (by omega), shr63 n h, IntKind.wrap_u64]; rfl
/-! a running sum -/
def totT (V : Int) : Int × Int × Int × Unit := (V / 340282366920938463463374607431768211456, IntKind.i64.wrap (V / 18446744073709551616), V % 18446744073709551616, ())
def InTot (V : Int) : Prop := -1569275433846670190958947355801916604025588861116008628224 ≤ V ∧ V < 1569275433846670190958947355801916604025588861116008628224
theorem wrap_wrap_u (z : Int) : IntKind.u64.wrap (IntKind.i64.wrap z) = z % 18446744073709551616 := by
  rw [IntKind.wrap_u64, IntKind.wrap_i64]; omega
theorem wrap_mod_i (z : Int) : IntKind.i64.wrap (z % 18446744073709551616) = IntKind.i64.wrap z := by
  rw [IntKind.wrap_i64, IntKind.wrap_i64]; omega
theorem tot_next (V x y : Int) (hV : InTot V) (hx : -9223372036854775808 ≤ x ∧ x ≤ 9223372036854775807) (hy : 0 ≤ y ∧ y < 18446744073709551616) :
    ((IntKind.i64.wrap (V / 340282366920938463463374607431768211456 + IntKind.i64.wrap (x.fdiv (2 ^ min (Int.toNat 63) IntKind.i64.bits) + IntKind.i64.wrap ((IntKind.u64.wrap (IntKind.i64.wrap (V / 18446744073709551616)) + IntKind.u64.wrap x + (V % 18446744073709551616 + y + 0) / 18446744073709551616) / 18446744073709551616))),
      IntKind.i64.wrap ((IntKind.u64.wrap (IntKind.i64.wrap (V / 18446744073709551616)) + IntKind.u64.wrap x + (V % 18446744073709551616 + y + 0) / 18446744073709551616) % 18446744073709551616),
      (V % 18446744073709551616 + y + 0) % 18446744073709551616, ()) : Int × Int × Int × Unit) = totT (V + (x * 18446744073709551616 + y)) := by
  unfold InTot at hV
  rw [wrap_wrap_u, wrap_mod_i, shr63 x hx, IntKind.wrap_u64]
  have e1 : (V + (x * 18446744073709551616 + y)) / 18446744073709551616 = V / 18446744073709551616 + x + (V % 18446744073709551616 + y + 0) / 18446744073709551616 := by omega
  have e0 : (V + (x * 18446744073709551616 + y)) / 340282366920938463463374607431768211456 = (V / 18446744073709551616 + x + (V % 18446744073709551616 + y + 0) / 18446744073709551616) / 18446744073709551616 := by omega
  have e3 : V / 340282366920938463463374607431768211456 = V / 18446744073709551616 / 18446744073709551616 := by omega
  unfold totT
  rw [e1, e0, e3]
  have hc : 0 ≤ (V % 18446744073709551616 + y + 0) / 18446744073709551616 ∧ (V % 18446744073709551616 + y + 0) / 18446744073709551616 ≤ 1 := by omega
  generalize (V % 18446744073709551616 + y + 0) / 18446744073709551616 = c at *
  have hu : -92233720368547758080000000000000000000 ≤ V / 18446744073709551616 ∧ V / 18446744073709551616 < 92233720368547758080000000000000000000 := by omega
  generalize V / 18446744073709551616 = u at *
  have f1 : (V + (x * 18446744073709551616 + y)) % 18446744073709551616 = (V % 18446744073709551616 + y + 0) % 18446744073709551616 := by omega
  rw [f1]
  have g2 : (u % 18446744073709551616 + x % 18446744073709551616 + c) / 18446744073709551616 ≤ 2 ∧ 0 ≤ (u % 18446744073709551616 + x % 18446744073709551616 + c) / 18446744073709551616 := by omega
  have g1 : IntKind.i64.wrap ((u % 18446744073709551616 + x % 18446744073709551616 + c) / 18446744073709551616) = (u % 18446744073709551616 + x % 18446744073709551616 + c) / 18446744073709551616 := IntWalk.i64_in _ (by omega)
  rw [g1]
  have g3 : IntKind.i64.wrap (x / 18446744073709551616 + (u % 18446744073709551616 + x % 18446744073709551616 + c) / 18446744073709551616) = x / 18446744073709551616 + (u % 18446744073709551616 + x % 18446744073709551616 + c) / 18446744073709551616 := IntWalk.i64_in _ (by omega)
  rw [g3]
  have g4 : u / 18446744073709551616 + (x / 18446744073709551616 + (u % 18446744073709551616 + x % 18446744073709551616 + c) / 18446744073709551616) = (u + x + c) / 18446744073709551616 := by omega
  rw [g4]
  have g5 : IntKind.i64.wrap ((u + x + c) / 18446744073709551616) = (u + x + c) / 18446744073709551616 := IntWalk.i64_in _ (by omega)
  rw [g5]
  have g6 : IntKind.i64.wrap (u % 18446744073709551616 + x % 18446744073709551616 + c) = IntKind.i64.wrap (u + x + c) := by rw [IntKind.wrap_i64, IntKind.wrap_i64]; omega
  rw [g6]
theorem add64_is {x y c : Int} (hx : 0 ≤ x) (hy : 0 ≤ y) (hc0 : 0 ≤ c) (hc : c ≤ 1) : add64 x y c = some ((x + y + c) % 18446744073709551616, (x + y + c) / 18446744073709551616, ()) := by unfold add64; rw [if_pos ⟨hx, hy, hc0, hc⟩]
theorem sub64_is {x y b : Int} (hx : 0 ≤ x) (hy : 0 ≤ y) (hy2 : y < 18446744073709551616) (hb0 : 0 ≤ b) (hb : b ≤ 1) : sub64 x y b = some ((x - y - b) % 18446744073709551616, if x < y + b then 1 else 0, ()) := by unfold sub64; rw [if_pos ⟨hx, hy, hy2, hb0, hb⟩]
theorem r_tadd (V : Int) (x : WideWide') (hV : InTot V) (hx : wOk x) : wide_total_add x (totT V).1 (totT V).2.1 (totT V).2.2.1 = some ((), totT (V + wv x)) := by
  unfold wOk at hx
  show wide_total_addW stdW x (V / 340282366920938463463374607431768211456) (IntKind.i64.wrap (V / 18446744073709551616)) (V % 18446744073709551616) = _
  unfold wide_total_addW wv
  rw [← tot_next V x.1 x.2.1 hV hx.1 hx.2]
  have hV' := hV
  unfold InTot at hV'
  rw [call_eq (add64_is (by omega) (by omega) (by omega) (by omega)), call_eq (add64_is (by rw [IntKind.wrap_u64]; omega) (by rw [IntKind.wrap_u64]; omega) (by show 0 ≤ (V % 18446744073709551616 + x.2.1 + 0) / 18446744073709551616; omega) (by show (V % 18446744073709551616 + x.2.1 + 0) / 18446744073709551616 ≤ 1; omega)), nn_w (by omega)]
theorem tot_fits (V : Int) (hV : InTot V) : (V / 340282366920938463463374607431768211456 == (IntKind.i64.wrap (V / 18446744073709551616)).fdiv (2 ^ min (Int.toNat 63) IntKind.i64.bits)) = decide (In128 V) := by
  have hr : -9223372036854775808 ≤ IntKind.i64.wrap (V / 18446744073709551616) ∧ IntKind.i64.wrap (V / 18446744073709551616) ≤ 9223372036854775807 := by
    rw [IntKind.wrap_i64]; omega
  rw [shr63 _ hr]
  unfold InTot at hV
  by_cases h : In128 V
  · rw [decide_eq_true h]
    unfold In128 at h
    rw [IntWalk.i64_in _ (by omega)]
    first | (simp; done) | (simp; omega) | skip
  · rw [decide_eq_false h]
    unfold In128 at h
    rw [IntKind.wrap_i64]
    simp; omega
theorem r_ranged (w : WideWide') (ok : Bool) : wide_ranged w ok = some (if ok = true then (w, 0, ()) else ((0, 0, ()), 7, ())) := by
  show wide_rangedW stdW w ok = _
  unfold wide_rangedW
  cases ok <;> rfl
theorem r_tdone (V : Int) (hV : InTot V) : wide_total_done (totT V).1 (totT V).2.1 (totT V).2.2.1 = some (fit V, totT V) := by
  show wide_total_doneW stdW _ _ _ = _
  unfold wide_total_doneW
  rw [nn_w (by omega), call_eq (r_ranged _ _)]
  have := tot_fits V hV
  show some ((if (V / 340282366920938463463374607431768211456 == (IntKind.i64.wrap (V / 18446744073709551616)).fdiv (2 ^ min (Int.toNat 63) IntKind.i64.bits)) = true then _ else _), _) = _
  rw [this]
  unfold fit
  by_cases h : In128 V
  · rw [if_pos (decide_eq_true h), if_pos h]
    have e : IntKind.i64.wrap (V / 18446744073709551616) = V / 18446744073709551616 := by unfold In128 at h; exact IntWalk.i64_in _ (by omega)
    show some (((IntKind.i64.wrap (V / 18446744073709551616), V % 18446744073709551616, ()), 0, ()), _) = _
    rw [e]; rfl
  · rw [decide_eq_false h, if_neg (by simp), if_neg h]
def sumW (l : List WideWide') : Int := (l.map wv).sum
theorem sumW_in : ∀ (l : List WideWide'), (∀ w ∈ l, wOk w) → -(170141183460469231731687303715884105728 * (l.length : Int)) ≤ sumW l ∧ sumW l ≤ 170141183460469231731687303715884105728 * (l.length : Int)
  | [], _ => by simp [sumW]
  | x :: l, h => by
    have h1 := wv_in x (h x (by simp))
    have h2 := sumW_in l fun w hw => h w (by simp [hw])
    unfold In128 at h1
    simp only [sumW, List.map_cons, List.sum_cons, List.length_cons] at h2 ⊢
    omega
theorem sumW_tot (l : List WideWide') (h : ∀ w ∈ l, wOk w) (hl : l.length < 9223372036854775807) : InTot (sumW l) := by
  have := sumW_in l h
  unfold InTot; omega
theorem sumW_app (a b : List WideWide') : sumW (a ++ b) = sumW a + sumW b := by unfold sumW; simp
theorem sumW_one (a : WideWide') : sumW [a] = wv a := by unfold sumW; simp
theorem sumW_take (l : List WideWide') (i : Nat) (h : i < l.length) : sumW (l.take (i + 1)) = sumW (l.take i) + wv l[i] := by
  rw [show l.take (i + 1) = l.take i ++ [l[i]] by simp, sumW_app, sumW_one]
theorem r_wAdd (l : List WideWide') (h : ∀ w ∈ l, wOk w) (hl : l.length < 9223372036854775807) : wide_Add l = some (fit (sumW l)) := by
  show wide_AddW stdW l = _
  unfold wide_AddW
  refine loop_list (l := l) (by omega) (fun i s => s = totT (sumW (l.take i))) (fun _ _ => some (fit (sumW l))) (by simp [sumW]; rfl) ?_ ?_
  · rintro _ again rfl
    rw [List.take_length, cnd_end, call_eq (r_tdone _ (sumW_tot l h hl))]
  · rintro i hi _ rfl again ha
    rw [cnd_lt hi, idx_w hi, call_eq (r_tadd _ _ (sumW_tot _ (fun w hw => h w (List.mem_of_mem_take hw)) (by rw [List.length_take]; omega)) (h _ (List.getElem_mem hi)))]
    dsimp only
    rw [i64_s i (by omega)]
    exact ha _ (by rw [sumW_take l i hi])
end Go.Proofs.Ytbpbkmngbhgpfaa

namespace Go.Proofs.Ytbpbkmngbhgpfaa
open Go Go.Vc Go.RowKit
/-! ### numbers without bounds: the reference's -/
theorem r_neg {a : BigT} (h : Nb a) (la : a.2.1.length ≤ 1000) : ref01_Neg a = some (big (-(bv a))) := by
  show ref01_NegW stdW a = _
  unfold ref01_NegW
  rw [call_eq (r_trim (nb_nrm h).bits la), neg_is]
theorem r_sub {a b : BigT} (ha : Nb a) (hb : Nb b) (la : a.2.1.length ≤ 900) (lb : b.2.1.length ≤ 900) : ref01_Sub a b = some (big (bv a - bv b)) := by
  show ref01_SubW stdW a b = _
  unfold ref01_SubW
  have e : ∀ z : BigT, (z.1, (z.2.1, ())) = z := fun z => rfl
  rw [e, e, call_eq (r_neg hb (by omega)), e, call_eq (r_add ha (nb_big _) la (by rw [neg_len hb]; exact lb)), e, bv_big]
  congr 2
theorem r_cmp {a b : BigT} (ha : Nb a) (hb : Nb b) (la : a.2.1.length ≤ 900) (lb : b.2.1.length ≤ 900) : ref01_Cmp a b = some (if bv a - bv b = 0 then 0 else if bv a - bv b < 0 then -1 else 1) := by
  show ref01_CmpW stdW a b = _
  unfold ref01_CmpW
  have e : ∀ z : BigT, (z.1, (z.2.1, ())) = z := fun z => rfl
  rw [e, e, call_eq (r_sub ha hb la lb)]
  by_cases h : bv a - bv b = 0
  · rw [cnd_y (by have := (big_len0 (bv a - bv b)).2 h; simp [this]), if_pos h]
  · rw [cnd_n (by have := mt (big_len0 (bv a - bv b)).1 h; simpa using this), if_neg h, cnd_b]
    show (if decide (bv a - bv b < 0) = true then _ else _) = _
    by_cases h2 : bv a - bv b < 0
    · rw [if_pos (by simpa using h2), if_pos h2]
    · rw [if_neg (by simpa using h2), if_neg h2]
theorem r_of {n : Int} (h : I64 n) : ref01_Of n = some (big n) := by
  show ref01_OfW stdW n = _
  unfold I64 at h
  unfold ref01_OfW
  by_cases h0 : 0 ≤ n
  · rw [cnd_y (decide_eq_true h0), u64_id n (by omega)]
    obtain ⟨m, rfl⟩ := Int.eq_ofNat_of_zero_le h0
    rw [call_eq (r_nat m (by omega)), bigS_f]
  · rw [cnd_n (decide_eq_false h0), of_neg (by omega) (by omega)]
    obtain ⟨m, hm⟩ := Int.eq_ofNat_of_zero_le (show 0 ≤ -(n + 1) by omega)
    rw [hm, call_eq (r_nat m (by omega))]
    have hl : (bitsOf m).length ≤ 1000 := bits_len_le (show m < 2 ^ 64 by omega) (by omega)
    show stdW.call (ref01_plus (bitsOf m) [1]) _ = _
    rw [call_eq (r_plus (nrm_bits m) nrm1 hl (by simp)), of_negB (by omega) (by omega) hm.symm]
    rfl
theorem big_dbl {z : Int} (h : z ≠ 0) : big (z * 2) = ((big z).1, 0 :: (big z).2.1, ()) := by
  unfold big
  rw [show (z * 2).natAbs = z.natAbs * 2 by omega, bitsS (show z.natAbs * 2 ≠ 0 by omega), show z.natAbs * 2 % 2 = 0 by omega, show z.natAbs * 2 / 2 = z.natAbs by omega]
  have : decide (z * 2 < 0) = decide (z < 0) := decide_eq_decide.2 (by omega)
  rw [this]; rfl
theorem pow_small {i : Nat} (h : i ≤ 64) : 2 ^ i ≤ 18446744073709551616 := Nat.le_trans (Nat.pow_le_pow_right (by omega) h) (by decide)
theorem len_big2 {z : Int} (h : -170141183460469231731687303715884105728 ≤ z ∧ z ≤ 170141183460469231731687303715884105728) : (big z).2.1.length ≤ 200 := by
  refine len_big z ?_
  have : (2 : Nat) ^ 200 = 1606938044258990275541962092341162602522202993782792835301376 := by decide
  omega
theorem len_big3 {z : Int} (h : -1606938044258990275541962092341162602522202993782792835301375 ≤ z ∧ z ≤ 1606938044258990275541962092341162602522202993782792835301375) : (big z).2.1.length ≤ 900 := by
  refine Nat.le_trans (len_big z ?_) (by decide)
  have : (2 : Nat) ^ 200 = 1606938044258990275541962092341162602522202993782792835301376 := by decide
  omega
theorem r_wide {hi lo : Int} (h : I64 hi) (h0 : 0 ≤ lo) (h1 : lo < 18446744073709551616) : ref01_Wide hi lo = some (big (hi * 18446744073709551616 + lo)) := by
  show ref01_WideW stdW hi lo = _
  unfold ref01_WideW
  rw [call_eq (r_of h)]
  have e : ∀ z : BigT, (z.1, (z.2.1, ())) = z := fun z => rfl
  obtain ⟨m, rfl⟩ := Int.eq_ofNat_of_zero_le h0
  unfold I64 at h
  have hb : ∀ i, i ≤ 64 → -170141183460469231731687303715884105728 ≤ hi * ((2 ^ i : Nat) : Int) ∧ hi * ((2 ^ i : Nat) : Int) ≤ 170141183460469231731687303715884105728 := by
    intro i hi'
    have hp := pow_small hi'
    have hp' : ((2 ^ i : Nat) : Int) ≤ 18446744073709551616 := Int.ofNat_le.2 hp
    have hp0 : (0 : Int) ≤ ((2 ^ i : Nat) : Int) := Int.natCast_nonneg _
    generalize ((2 ^ i : Nat) : Int) = p at *
    constructor
    · have := Int.mul_le_mul_of_nonneg_right (show -9223372036854775808 ≤ hi by omega) hp0
      omega
    · have := Int.mul_le_mul_of_nonneg_right (show hi ≤ 9223372036854775808 by omega) hp0
      omega
  have fin : ∀ z : BigT, z = big (hi * 18446744073709551616) → stdW.call (ref01_Nat (m : Int)) (fun v3 => stdW.call (ref01_Add (z.1, (z.2.1, ())) (v3.1, (v3.2.1, ()))) fun v4 => some ((v4.1, (v4.2.1, ())) : BigT)) = some (big (hi * 18446744073709551616 + m)) := by
    rintro _ rfl
    have h64 := hb 64 (by omega)
    rw [call_eq (r_nat m (by omega)), e, e, bigS_f, call_eq (r_add (nb_big _) (nb_big _) (Nat.le_trans (len_big2 (by simpa using h64)) (by decide)) (Nat.le_trans (len_big2 (by omega)) (by decide))), bv_big, bv_big]
  rw [join_w]
  refine loop_n (N := 64) (by omega) (fun i s => s = big (hi * ((2 ^ i : Nat) : Int))) (some (big (hi * 18446744073709551616 + m))) (by simp) ?_ ?_
  · rintro _ again rfl
    show stdW.cnd (decide ((64 : Int) < 64)) _ _ = _
    rw [cnd_n (by decide)]
    exact fin _ rfl
  · rintro i hi' _ rfl again ha
    rw [cnd_y (decide_eq_true (show (i : Int) < 64 by omega))]
    by_cases hz : hi = 0
    · subst hz
      have : (big (0 * ((2 ^ i : Nat) : Int))) = big (0 * 18446744073709551616) := by simp
      rw [this]
      rw [cnd_n (by simp [big, bits0])]
      exact fin _ rfl
    · have hz2 : hi * ((2 ^ i : Nat) : Int) ≠ 0 := Int.mul_ne_zero hz (by have := Nat.two_pow_pos i; omega)
      have hl : (big (hi * ((2 ^ i : Nat) : Int))).2.1.length ≤ 200 := len_big2 (hb i (by omega))
      rw [cnd_y (by have := mt (big_len0 (hi * ((2 ^ i : Nat) : Int))).1 hz2; simp only [decide_eq_true_eq]; omega)]
      rw [room_w (by simp) (by simp), room_w (by simp only [List.length_cons, List.length_nil]; omega) (by simp only [List.length_cons, List.length_nil]; omega), i64_s i (by omega)]
      refine ha _ ?_
      rw [Nat.pow_succ, Int.natCast_mul, ← Int.mul_assoc]
      exact (big_dbl hz2).symm
end Go.Proofs.Ytbpbkmngbhgpfaa

namespace Go.Proofs.Ytbpbkmngbhgpfaa
open Go Go.Vc Go.RowKit
/-! ### numbers: what fits, what it is -/
theorem valB_drop_le (xs : List Int) (i : Nat) (h : i ≤ xs.length) : valB (xs.drop i) ≤ valB xs := by
  have h1 := valB_split xs i h
  have h2 : valB (xs.drop i) ≤ 2 ^ i * valB (xs.drop i) := Nat.le_mul_of_pos_left _ (Nat.two_pow_pos i)
  omega
theorem r_int {z : Int} (h : I64 z) : ref01_Int (big z) = some z := by
  unfold I64 at h
  show ref01_IntW stdW (big z) = _
  unfold ref01_IntW
  have hb : bitL (big z).2.1 := bitL_bits _
  have hv : valB (big z).2.1 = z.natAbs := valB_bits _
  have hl : (big z).2.1.length ≤ 64 := bits_len 64 _ (by omega)
  have hs : (big z).1 = decide (z < 0) := rfl
  generalize (big z).1 = sg at *
  generalize (big z).2.1 = xs at *
  refine (loop_std (fun z => z.2.1.toNat) (fun y => ∃ i : Nat, i ≤ xs.length ∧ y = ((if z < 0 then -((valB (xs.drop i) : Nat) : Int) else ((valB (xs.drop i) : Nat) : Int)), ((i : Int), ()))) (fun _ => some z) ⟨xs.length, Nat.le_refl _, by simp [valB]⟩ (by show ((xs.length : Nat) : Int).toNat < _; omega) ?_)
  rintro _ ⟨i, hi, rfl⟩ again ha
  show stdW.cnd (decide ((0 : Int) < ((i : Nat) : Int))) _ _ = _
  by_cases h0 : i = 0
  · subst h0
    rw [cnd_n (c := decide ((0 : Int) < ((0 : Nat) : Int))) rfl, List.drop_zero, hv]
    congr 1; split <;> omega
  · have hm : i - 1 < xs.length := by omega
    rw [cnd_y (decide_eq_true (by omega)), join_w, i64_pred i (by omega) (by rw [maxLen_eq]; omega)]
    have hd : xs.drop (i - 1) = xs[i - 1] :: xs.drop i := by rw [List.drop_eq_getElem_cons hm, show i - 1 + 1 = i by omega]
    have hbit := hb _ (List.getElem_mem hm)
    have hle := valB_drop_le xs (i - 1) (by omega)
    rw [hv, hd, valB] at hle
    have hx0 : 0 ≤ xs[i - 1] ∧ xs[i - 1] ≤ 1 := by rcases hbit with e | e <;> rw [e] <;> omega
    have next : ∀ n : Int, n = (if z < 0 then -((valB (xs.drop (i - 1)) : Nat) : Int) else ((valB (xs.drop (i - 1)) : Nat) : Int)) → again (n, (((i - 1 : Nat) : Int), ())) = some z := fun n hn => ha _ ⟨i - 1, by omega, by rw [hn]⟩ (by show ((i - 1 : Nat) : Int).toNat < ((i : Nat) : Int).toNat; omega)
    rw [hd, valB] at next
    by_cases hz : z < 0
    · rw [hs, cnd_y (decide_eq_true hz), idx_w hm]
      refine next _ ?_
      rw [if_pos hz, if_pos hz, IntWalk.i64_in xs[i - 1] (by omega), IntWalk.i64_in (2 * -((valB (xs.drop i) : Nat) : Int)) (by omega), IntWalk.i64_in _ (by omega)]
      omega
    · rw [hs, cnd_n (decide_eq_false hz), idx_w hm]
      refine next _ ?_
      rw [if_neg hz, if_neg hz, IntWalk.i64_in xs[i - 1] (by omega), IntWalk.i64_in (2 * ((valB (xs.drop i) : Nat) : Int)) (by omega), IntWalk.i64_in _ (by omega)]
      omega
def sml (z : Int) : Prop := -170141183460469231731687303715884105728 ≤ z ∧ z ≤ 170141183460469231731687303715884105728
instance (z : Int) : Decidable (I64 z) := by unfold I64; infer_instance
theorem len_lt63 (n : Nat) : (bitsOf n).length < 64 ↔ n < 9223372036854775808 := by
  constructor
  · intro h
    have := valB_lt' (nrm_bits n) (k := 63) (by omega)
    rw [valB_bits] at this; simpa using this
  · intro h
    have := bits_len 63 n (by simpa using h)
    omega
theorem r_fits {z : Int} (h : sml z) : ref01_Fits (big z) = some (decide (I64 z)) := by
  unfold sml at h
  have hw : ref01_Within ((big z).1, ((big z).2.1, ())) 64 = some (decide (I64 z)) := by
    show ref01_WithinW stdW (big z) 64 = _
    unfold ref01_WithinW
    rw [join_w]
    by_cases hz : z < 0
    · have hs : (big z).1 = true := decide_eq_true hz
      have e1 : ref01_Nat 1 = some (big 1) := r_nat 1 (by omega)
      have e2 : ref01_Add ((big z).1, ((big z).2.1, ())) ((big 1).1, ((big 1).2.1, ())) = some (big (z + 1)) := by
        have := r_add (nb_big z) (nb_big 1) (Nat.le_trans (len_big2 h) (by decide)) (Nat.le_trans (len_big2 (by omega)) (by decide))
        rw [bv_big, bv_big] at this; exact this
      have e3 : (decide (((big (z + 1)).2.1.length : Int) < 64)) = decide (I64 z) := by
        refine decide_eq_decide.2 ?_
        have := len_lt63 (z + 1).natAbs
        show (((bitsOf (z + 1).natAbs).length : Int) < 64) ↔ _
        unfold I64; omega
      rw [cnd_y hs, both_w, call_eq e1, call_eq e2]
      show some (decide _) = _
      rw [e3]
    · have hs : (big z).1 = false := decide_eq_false hz
      rw [cnd_n hs]
      show some (decide (((bitsOf z.natAbs).length : Int) < 64)) = _
      congr 1
      refine decide_eq_decide.2 ?_
      have := len_lt63 z.natAbs
      unfold I64; omega
  show ref01_FitsW stdW (big z) = _
  unfold ref01_FitsW
  rw [call_eq hw]
/-! 64 bits of 128 -/
def fits64 (z : Int) : Int × Int × Unit := if I64 z then (z, 0, ()) else (0, 7, ())
theorem nif_t (c : Bool) : notIf true c = !c := by cases c <;> rfl
theorem nif_f (c : Bool) : notIf false c = c := by cases c <;> rfl
theorem r_wInt {z : Int} (h : In128 z) : wide_Int (wide z) = some (fits64 z) := by
  show wide_IntW stdW (wide z) = _
  unfold wide_IntW
  have hw : IntKind.i64.wrap (wide z).2.1 = IntKind.i64.wrap z := wrap_mod_i z
  have hI : I64 (IntKind.i64.wrap z) := by unfold I64; rw [IntKind.wrap_i64]; omega
  rw [hw, call_eq (r_wOf _ hI), nif_t]
  unfold fits64
  by_cases hz : I64 z
  · have e : IntKind.i64.wrap z = z := by unfold I64 at hz; exact IntWalk.i64_in _ (by omega)
    rw [if_pos hz, e, cnd_n (by simp)]
  · rw [if_neg hz, cnd_y ?_]
    rw [Bool.not_eq_true']
    cases hc : ((wide (IntKind.i64.wrap z)).1 == (wide z).1 && (wide (IntKind.i64.wrap z)).2.1 == (wide z).2.1) with
    | false => rfl
    | true =>
      simp only [Bool.and_eq_true, beq_iff_eq] at hc
      have : wide (IntKind.i64.wrap z) = wide z := Prod.ext hc.1 (Prod.ext hc.2 rfl)
      exact absurd (wide_inj this ▸ hI) hz
theorem r_narrow0 {z : Int} (h : In128 z) : fix_narrow (wide z) 0 = some (fits64 z) := by
  show fix_narrowW stdW (wide z) 0 = _
  unfold fix_narrowW
  rw [cnd_n (by decide), call_eq (r_wInt h)]
theorem sum_in {l : List Int} (h : ∀ x ∈ l, I64 x) : -(9223372036854775808 * (l.length : Int)) ≤ l.sum ∧ l.sum ≤ 9223372036854775808 * (l.length : Int) := by
  have := sumBy_in (f := fun x : Int => x) (B := 9223372036854775808) (l := l) (fun x hx => by have := h x hx; unfold I64 at this; omega)
  simpa [sumBy] using this
theorem sumW_wide (l : List Int) : sumW (l.map wide) = l.sum := by
  unfold sumW
  rw [List.map_map]
  have : (wv ∘ wide) = id := funext wv_wide
  rw [this, List.map_id]
theorem wides_ok {l : List Int} (h : ∀ x ∈ l, I64 x) : ∀ w ∈ l.map wide, wOk w := by
  intro w hw
  obtain ⟨x, hx, rfl⟩ := List.mem_map.1 hw
  exact wide_ok _ (i64_128 (h x hx))
theorem sum128 {l : List Int} (h : ∀ x ∈ l, I64 x) (hl : l.length ≤ 1000000) : In128 l.sum := by
  have := sum_in h; unfold In128; omega
theorem r_wSum {l : List Int} (h : ∀ x ∈ l, I64 x) (hl : l.length ≤ 1000000) : wide_Add (l.map wide) = some (wide l.sum, 0, ()) := by
  rw [r_wAdd _ (wides_ok h) (by rw [List.length_map]; omega), sumW_wide]
  unfold fit; rw [if_pos (sum128 h hl)]
theorem r_fSum {l : List Int} (h : ∀ x ∈ l, I64 x) (hl : l.length ≤ 1000000) : fix_Sum l = some (fits64 l.sum) := by
  show fix_SumW stdW l = _
  unfold fix_SumW
  rw [nn_w (by omega), room_w (by simp; omega) (by simp; omega)]
  refine loop_n (N := l.length) (by omega) (fun i s => s = ((l.take i).map wide, ())) (some (fits64 l.sum)) rfl ?_ ?_
  · rintro _ again rfl
    rw [cnd_end, List.take_length, call_eq (r_wSum h hl), call_eq (r_narrow0 (sum128 h hl))]
  · rintro i hi _ rfl again ha
    rw [cnd_lt hi, idx_w hi, call_eq (r_wOf _ (h _ (List.getElem_mem hi))), i64_s i (by omega), room_w (by simp; omega) (by simp; omega)]
    refine ha _ ?_
    rw [List.take_succ_eq_append_getElem hi, List.map_append]; rfl
end Go.Proofs.Ytbpbkmngbhgpfaa

namespace Go.Proofs.Ytbpbkmngbhgpfaa
open Go Go.Vc Go.RowKit
theorem join_g {X β : Type} {k0 : X → Option β} {f : (X → Option β) → Option β} {r : Option β} (h : ∀ k, k = k0 → f k = r) : stdW.join k0 f = r := h k0 rfl
/-! ### purses: which are, what each unit has, what there is in all -/
theorem r_lessA (a b : AUnit') : acct_Less a b = some (decide (ltA a b)) := by
  show acct_LessW stdW a b = _
  unfold acct_LessW
  by_cases h : a.1 = b.1
  · rw [cnd_n (by simp [h])]
    congr 1; refine decide_eq_decide.2 ?_; unfold ltA; omega
  · rw [cnd_y (by simp [h])]
    congr 1; refine decide_eq_decide.2 ?_; unfold ltA; omega
theorem r_less15 (a b : AUnit') : ref15_Less a b = some (decide (ltA a b)) := by
  show ref15_LessW stdW a b = _
  unfold ref15_LessW
  by_cases h1 : a.1 < b.1
  · rw [cnd_y (decide_eq_true h1), decide_eq_true (by unfold ltA; omega)]
  · rw [cnd_n (decide_eq_false h1)]
    by_cases h : a.1 = b.1
    · rw [cnd_y (by simp [h])]
      congr 1; refine decide_eq_decide.2 ?_; unfold ltA; omega
    · rw [cnd_n (by simp [h]), decide_eq_false (by unfold ltA; omega)]
def PInv (l : List AFlow') : Prop := (∀ x ∈ l, x.2.1 ≠ 0) ∧ SrtA (l.map (·.1))
instance (l : List AFlow') : Decidable (PInv l) := by unfold PInv SrtA; infer_instance
def isP (l : List AFlow') : Bool := decide (PInv l)
theorem isP_bad0 {l : List AFlow'} {i : Nat} (hi : i < l.length) (h : l[i].2.1 = 0) : isP l = false :=
  decide_eq_false fun hp => hp.1 _ (List.getElem_mem hi) h
theorem isP_bad1 {l : List AFlow'} {i : Nat} (hi : i < l.length) (h0 : 0 < i) (h : ¬ ltA (l[i - 1]'(by omega)).1 l[i].1) : isP l = false :=
  decide_eq_false fun hp => h (by
    have := List.pairwise_iff_getElem.1 hp.2 (i - 1) i (by simp; omega) (by simpa using hi) (by omega)
    simpa using this)
theorem isP_next {l : List AFlow'} {i : Nat} (hi : i < l.length) (inv : PInv (l.take i)) (h1 : l[i].2.1 ≠ 0) (h2 : ∀ h0 : 0 < i, ltA (l[i - 1]'(by omega)).1 l[i].1) : PInv (l.take (i + 1)) := by
  rw [List.take_succ_eq_append_getElem hi]
  refine ⟨fun x hx => ?_, ?_⟩
  · rcases List.mem_append.1 hx with hx | hx
    · exact inv.1 x hx
    · simp at hx; rw [hx]; exact h1
  · show SrtA ((l.take i ++ [l[i]]).map (·.1))
    rw [List.map_append]
    refine List.pairwise_append.2 ⟨inv.2, by simp, fun a ha b hb => ?_⟩
    simp only [List.map_cons, List.map_nil, List.mem_singleton] at hb
    subst hb
    obtain ⟨k, hk, hka⟩ := List.mem_iff_getElem.1 ha
    have hk' : k < i := by simp at hk; omega
    have h3 := h2 (by omega)
    by_cases hki : k = i - 1
    · subst hki; rw [← hka]; simpa using h3
    · have h4 := List.pairwise_iff_getElem.1 inv.2 k (i - 1) (by simpa using hk) (by simp; omega) (by omega)
      rw [hka] at h4
      refine ltA_tr h4 ?_
      simpa using h3
theorem isP_end {l : List AFlow'} (h : PInv (l.take l.length)) : isP l = true := by rw [List.take_length] at h; exact decide_eq_true h
theorem r_is {l : List AFlow'} (hl : l.length ≤ 1000000) : purse_Is l = some (isP l) := by
  show purse_IsW stdW l = _
  unfold purse_IsW
  refine loop_n (N := l.length) (by omega) (fun i _ => PInv (l.take i)) (some (isP l)) (by simp [PInv]) ?_ ?_
  · rintro _ again h
    rw [cnd_end, isP_end h]
  · rintro i hi _ inv again ha
    rw [cnd_lt hi, idx_w hi]
    refine join_g fun k hk => ?_
    have kt : k (true, ()) = some false := by subst hk; rfl
    have kf : k (false, ()) = again (((i + 1 : Nat) : Int), ()) := by rw [← i64_s i (by omega)]; subst hk; rfl
    clear hk
    by_cases h1 : l[i].2.1 = 0
    · rw [cnd_y (by simpa using h1), kt, isP_bad0 hi h1]
    · rw [cnd_n (by simpa using h1)]
      by_cases h0 : 0 < i
      · rw [cnd_y (decide_eq_true (by omega)), i64_pred i h0 (by rw [maxLen_eq]; omega), idx_w (by omega), call_eq (r_lessA _ _)]
        by_cases h2 : ltA (l[i - 1]'(by omega)).1 l[i].1
        · rw [decide_eq_true h2]
          exact kf.trans (ha _ (isP_next hi inv h1 fun _ => h2))
        · rw [decide_eq_false h2, isP_bad1 hi h0 h2]; exact kt
      · rw [cnd_n (decide_eq_false (by omega))]
        exact kf.trans (ha _ (isP_next hi inv h1 fun h => absurd h h0))
theorem r_is17 {l : List AFlow'} (hl : l.length ≤ 1000000) : ref17_Is l = some (isP l) := by
  show ref17_IsW stdW l = _
  unfold ref17_IsW
  refine loop_n (N := l.length) (by omega) (fun i _ => PInv (l.take i)) (some (isP l)) (by simp [PInv]) ?_ ?_
  · rintro _ again h
    rw [cnd_end, isP_end h]
  · rintro i hi _ inv again ha
    rw [cnd_lt hi]
    refine join_g fun k hk => ?_
    have kt : k (true, ()) = some false := by subst hk; rfl
    have kf : k (false, ()) = again (((i + 1 : Nat) : Int), ()) := by rw [← i64_s i (by omega)]; subst hk; rfl
    clear hk
    rw [idx_w hi]
    by_cases h1 : l[i].2.1 = 0
    · rw [cnd_y (by simpa using h1), kt, isP_bad0 hi h1]
    · rw [cnd_n (by simpa using h1)]
      by_cases h0 : 0 < i
      · rw [cnd_y (decide_eq_true (by omega)), i64_pred i h0 (by rw [maxLen_eq]; omega), idx_w (by omega), idx_w hi, call_eq (r_less15 _ _)]
        by_cases h2 : ltA (l[i - 1]'(by omega)).1 l[i].1
        · rw [decide_eq_true h2]
          exact kf.trans (ha _ (isP_next hi inv h1 fun _ => h2))
        · rw [decide_eq_false h2, isP_bad1 hi h0 h2]; exact kt
      · rw [cnd_n (decide_eq_false (by omega))]
        exact kf.trans (ha _ (isP_next hi inv h1 fun h => absurd h h0))
theorem eqA (a b : AUnit') : (a.1 == b.1 && a.2.1 == b.2.1) = decide (a = b) := by
  by_cases h : a = b
  · subst h; simp
  · rw [decide_eq_false h]
    cases hc : (a.1 == b.1 && a.2.1 == b.2.1) with
    | false => rfl
    | true => simp only [Bool.and_eq_true, beq_iff_eq] at hc; exact absurd (extA hc.1 hc.2) h
def getP : List AFlow' → AUnit' → Int
  | [], _ => 0
  | x :: l, u => if x.1 = u then x.2.1 else getP l u
theorem r_get {l : List AFlow'} {u : AUnit'} (hl : l.length ≤ 1000000) : purse_Get l u = some (getP l u) := by
  show purse_GetW stdW l u = _
  unfold purse_GetW
  refine loop_list (l := l) (by omega) (fun _ _ => True) (fun l _ => some (getP l u)) trivial ?_ ?_
  · rintro _ again _
    rw [cnd_end]; rfl
  · rintro i hi _ _ again ha
    rw [cnd_lt hi, idx_w hi, nif_f, eqA]
    unfold getP
    by_cases h : l[i].1 = u
    · rw [cnd_y (decide_eq_true h), if_pos h]
    · rw [cnd_n (decide_eq_false h), if_neg h, i64_s i (by omega)]
      exact ha _ trivial
theorem r_get17 {l : List AFlow'} {u : AUnit'} (hl : l.length ≤ 1000000) : ref17_Get l u = some (getP l u) := by
  show ref17_GetW stdW l u = _
  unfold ref17_GetW
  refine loop_list (l := l) (by omega) (fun _ _ => True) (fun l _ => some (getP l u)) trivial ?_ ?_
  · rintro _ again _
    rw [cnd_end]; rfl
  · rintro i hi _ _ again ha
    rw [cnd_lt hi, idx_w hi, nif_f, eqA]
    unfold getP
    by_cases h : l[i].1 = u
    · rw [cnd_y (decide_eq_true h), if_pos h, idx_w hi]
    · rw [cnd_n (decide_eq_false h), if_neg h, i64_s i (by omega)]
      exact ha _ trivial
def amt (x : AFlow') : Int := x.2.1
def okF (l : List AFlow') : Prop := ∀ x ∈ l, I64 (amt x)
theorem okF.amts {l : List AFlow'} (h : okF l) : ∀ x ∈ l.map amt, I64 x := by
  intro x hx; obtain ⟨y, hy, rfl⟩ := List.mem_map.1 hx; exact h y hy
theorem r_total {l : List AFlow'} (h : okF l) (hl : l.length ≤ 1000000) : purse_Total l = some (wide (sumBy amt l)) := by
  show purse_TotalW stdW l = _
  unfold purse_TotalW
  refine loop_n (N := l.length) (by omega) (fun i s => s = (((l.take i).map amt).map wide, ())) (some (wide (sumBy amt l))) rfl ?_ ?_
  · rintro _ again rfl
    rw [cnd_end, List.take_length, call_eq (r_wSum h.amts (by simpa using hl))]; rfl
  · rintro i hi _ rfl again ha
    rw [cnd_lt hi, idx_w hi, call_eq (r_wOf l[i].2.1 (h _ (List.getElem_mem hi))), i64_s i (by omega), room_w (by simp; omega) (by simp; omega)]
    refine ha _ ?_
    rw [List.take_succ_eq_append_getElem hi, List.map_append, List.map_append]; rfl
theorem sumA_in {l : List AFlow'} (h : okF l) : -(9223372036854775808 * (l.length : Int)) ≤ sumBy amt l ∧ sumBy amt l ≤ 9223372036854775808 * (l.length : Int) :=
  sumBy_in fun x hx => by have := h x hx; unfold I64 at this; omega
theorem sumA_sml {l : List AFlow'} (h : okF l) (hl : l.length ≤ 1000000) : sml (sumBy amt l) ∧ In128 (sumBy amt l) := by
  have := sumA_in h; unfold sml In128; omega
theorem okF.take {l : List AFlow'} (h : okF l) (i : Nat) : okF (l.take i) := fun x hx => h x (List.mem_of_mem_take hx)
theorem eta3 (z : BigT) : (z.1, (z.2.1, ())) = z := rfl
theorem r_addB {a b : Int} (ha : sml a) (hb : sml b) : ref01_Add (big a) (big b) = some (big (a + b)) := by
  unfold sml at *
  have := r_add (nb_big a) (nb_big b) (Nat.le_trans (len_big2 ha) (by decide)) (Nat.le_trans (len_big2 hb) (by decide))
  rwa [bv_big, bv_big] at this
theorem big0 : big 0 = (false, ([], ())) := by unfold big; simp [bits0]
theorem i64_sml {n : Int} (h : I64 n) : sml n := by unfold I64 at h; unfold sml; omega
theorem r_total17 {l : List AFlow'} (h : okF l) (hl : l.length ≤ 1000000) : ref17_Total l = some (big (sumBy amt l)) := by
  show ref17_TotalW stdW l = _
  unfold ref17_TotalW
  refine loop_n (N := l.length) (by omega) (fun i s => s = big (sumBy amt (l.take i))) (some (big (sumBy amt l))) (by rw [List.take_zero, sumBy_nil, big0]) ?_ ?_
  · rintro _ again rfl
    rw [cnd_end, List.take_length]
  · rintro i hi _ rfl again ha
    have h1 := (sumA_sml (h.take i) (by rw [List.length_take]; omega)).1
    have h2 := h _ (List.getElem_mem hi)
    rw [cnd_lt hi]
    refine join_g fun k hk => ?_
    have kk : ∀ v : BigT, k (v.1, (v.2.1, ())) = again (((i + 1 : Nat) : Int), v) := by intro v; rw [← i64_s i (by omega)]; subst hk; rfl
    clear hk
    rw [idx_w hi, both_w, call_eq (r_of (n := l[i].2.1) h2)]
    show stdW.call (ref01_Add (big (sumBy amt (l.take i))) (big (l[i].2.1))) _ = _
    rw [call_eq (r_addB (b := l[i].2.1) h1 (i64_sml h2)), kk]
    refine ha _ ?_
    rw [sumBy_take _ _ _ hi]; rfl
end Go.Proofs.Ytbpbkmngbhgpfaa

namespace Go.Proofs.Ytbpbkmngbhgpfaa
open Go Go.Vc Go.RowKit
/-! ### a purse behind some flows -/
def ofFlow (u : AUnit') (x : AFlow') : Bool := decide (x.1 = u)
def amts (l : List AFlow') (u : AUnit') : List Int := (l.filter (ofFlow u)).map amt
def sumU (l : List AFlow') (u : AUnit') : Int := (amts l u).sum
theorem amts_len (l : List AFlow') (u : AUnit') : (amts l u).length ≤ l.length := by
  unfold amts; rw [List.length_map]; exact List.length_filter_le _ _
theorem amts_ok {l : List AFlow'} (h : okF l) (u : AUnit') : ∀ x ∈ amts l u, I64 x := by
  intro x hx
  obtain ⟨y, hy, rfl⟩ := List.mem_map.1 hx
  exact h y (List.mem_filter.1 hy).1
theorem amts_take (l : List AFlow') (u : AUnit') (i : Nat) (h : i < l.length) : amts (l.take (i + 1)) u = amts (l.take i) u ++ (if l[i].1 = u then [l[i].2.1] else []) := by
  unfold amts
  rw [filter_take _ _ _ h, List.map_append]
  unfold ofFlow
  by_cases hu : l[i].1 = u <;> simp [hu, amt]
theorem r_amounts {l : List AFlow'} {u : AUnit'} (hl : l.length ≤ 1000000) : purse_amounts l u = some (amts l u) := by
  show purse_amountsW stdW l u = _
  unfold purse_amountsW
  refine loop_n (N := l.length) (by omega) (fun i s => s = (amts (l.take i) u, ())) (some (amts l u)) rfl ?_ ?_
  · rintro _ again rfl
    rw [cnd_end, List.take_length]
  · rintro i hi _ rfl again ha
    rw [cnd_lt hi]
    refine join_g fun k hk => ?_
    have kk : ∀ v : List Int, k (v, ()) = again (((i + 1 : Nat) : Int), (v, ())) := by intro v; rw [← i64_s i (by omega)]; subst hk; rfl
    clear hk
    have hlen := amts_len (l.take i) u
    rw [List.length_take] at hlen
    rw [idx_w hi, nif_f, eqA]
    by_cases h : l[i].1 = u
    · rw [cnd_y (decide_eq_true h), room_w (by simp; omega) (by simp; omega), kk]
      refine ha _ ?_
      rw [amts_take _ _ _ hi, if_pos h]
    · rw [cnd_n (decide_eq_false h), kk]
      refine ha _ ?_
      rw [amts_take _ _ _ hi, if_neg h, List.append_nil]
def payGo (all : List AFlow') : List AUnit' → List AFlow' → List AFlow' × Int × Unit
  | [], acc => (acc, 0, ())
  | u :: us, acc => if I64 (sumU all u) then (if sumU all u ≠ 0 then payGo all us (acc ++ [(u, sumU all u, ())]) else payGo all us acc) else ([], 7, ())
def payP (l fl : List AFlow') : List AFlow' × Int × Unit := if isP l = true then payGo (l ++ fl) (unitsOf (l ++ fl)) [] else ([], 3, ())
theorem uniq_le (l : List (Int × Int)) : (uniqU l).length ≤ l.length := uniq_len l
theorem units_len (l : List AFlow') : (unitsOf l).length ≤ l.length := by
  unfold unitsOf
  rw [List.length_map, srt_len]
  exact Nat.le_trans (uniq_len _) (by simp)
theorem r_pay {l fl : List AFlow'} (h : okF l) (hf : okF fl) (hl : l.length + fl.length ≤ 1000000) : purse_Pay l fl = some (payP l fl) := by
  show purse_PayW stdW l fl = _
  unfold purse_PayW payP
  rw [call_eq (r_is (by omega))]
  by_cases hp : isP l = true
  · rw [hp, cnd_n (by decide), if_pos rfl]
    have hall : okF (l ++ fl) := fun x hx => (List.mem_append.1 hx).elim (h x) (hf x)
    have e1 : concatO (l :: (fl :: [])) = some (l ++ fl) := by
      unfold concatO
      rw [show (l :: (fl :: [])).flatten = l ++ fl by simp, if_pos (by rw [List.length_append]; omega)]
    have hlen : (l ++ fl).length ≤ 1000000 := by rw [List.length_append]; exact hl
    have e2 : namedO (l ++ fl) = some (unitsOf (l ++ fl)) := by unfold namedO; rw [if_pos (by omega)]
    rw [call_eq e1, call_eq e2]
    have hul := units_len (l ++ fl)
    generalize l ++ fl = all at *
    generalize unitsOf all = us at *
    refine loop_list (l := us) (by omega) (fun i (s : List AUnit' × List AFlow' × Unit) => s.1 = us ∧ s.2.1.length ≤ i) (fun us' (s : List AUnit' × List AFlow' × Unit) => some (payGo all us' s.2.1)) ⟨rfl, Nat.le_refl _⟩ ?_ ?_
    · rintro ⟨_, acc, ⟨⟩⟩ again ⟨rfl, _⟩
      rw [cnd_end]; rfl
    · rintro i hi ⟨us', acc, ⟨⟩⟩ ⟨hus, hacc⟩ again ha
      have hus : us = us' := hus.symm
      subst hus
      simp only at hacc
      rw [cnd_lt hi]
      refine join_g fun k hk => ?_
      have kk : ∀ v : List AFlow', k (us, (v, ())) = again (((i + 1 : Nat) : Int), (us, (v, ()))) := by intro v; rw [← i64_s i (by omega)]; subst hk; rfl
      clear hk
      show stdW.idx us (i : Int) _ = _
      rw [idx_w hi]
      show stdW.nth us (Int.toNat (i : Int)) _ = _
      rw [nth_w hi, call_eq (r_amounts hlen)]
      show _ = some (payGo all (us[i] :: us.drop (i + 1)) acc)
      rw [payGo]
      have e3 := r_fSum (amts_ok hall us[i]) (Nat.le_trans (amts_len _ _) hlen)
      change fix_Sum (amts all us[i]) = some (if I64 (sumU all us[i]) then (sumU all us[i], 0, ()) else (0, 7, ())) at e3
      by_cases hI : I64 (sumU all us[i])
      · rw [if_pos hI] at e3
        rw [if_pos hI, call_eq e3]
        show stdW.cnd ((0 : Int) != 0) _ (stdW.cnd (sumU all us[i] != 0) (stdW.room (acc.length + 1) 24 (k (us, (acc ++ [(us[i], sumU all us[i], ())], ())))) (k (us, (acc, ())))) = _
        rw [cnd_n (by decide)]
        by_cases h0 : sumU all us[i] = 0
        · rw [if_neg (by simp [h0]), cnd_n (by simp [h0])]
          exact (kk acc).trans (ha _ ⟨rfl, by simp only; omega⟩)
        · rw [if_pos h0, cnd_y (by simp [h0]), room_w (by omega) (by omega)]
          exact (kk (acc ++ [(us[i], sumU all us[i], ())])).trans (ha _ ⟨rfl, by simp; omega⟩)
      · rw [if_neg hI] at e3
        rw [if_neg hI, call_eq e3]
        show stdW.cnd ((7 : Int) != 0) (some ([], (7, ()))) _ = _
        rw [cnd_y (by decide)]
  · have hp : isP l = false := by simpa using hp
    rw [hp, cnd_y (by decide), if_neg (by simp)]
end Go.Proofs.Ytbpbkmngbhgpfaa

namespace Go.Proofs.Ytbpbkmngbhgpfaa
open Go Go.Vc Go.RowKit
/-! ### differences of 128 bits; a payment; that anything is paid at all -/
theorem not_i (a : Int) (h : -9223372036854775808 ≤ a ∧ a ≤ 9223372036854775807) : bits .xor .i64 (-1) a = -1 - a := by
  have e1 : BitVec.ofInt 64 (-1) = BitVec.allOnes 64 := by decide
  show IntKind.i64.wrap (((BitVec.ofInt 64 (-1) ^^^ BitVec.ofInt 64 a).toNat : Nat) : Int) = _
  rw [e1, BitVec.allOnes_xor, BitVec.toNat_not, BitVec.toNat_ofInt, IntKind.wrap_i64]
  have : (2 : Int) ^ 64 = 18446744073709551616 := by decide
  omega
theorem not_u (a : Int) (h : 0 ≤ a ∧ a < 18446744073709551616) : bits .xor .u64 18446744073709551615 a = 18446744073709551615 - a := by
  have e1 : BitVec.ofInt 64 18446744073709551615 = BitVec.allOnes 64 := by decide
  show IntKind.u64.wrap (((BitVec.ofInt 64 18446744073709551615 ^^^ BitVec.ofInt 64 a).toNat : Nat) : Int) = _
  rw [e1, BitVec.allOnes_xor, BitVec.toNat_not, BitVec.toNat_ofInt, IntKind.wrap_u64]
  have : (2 : Int) ^ 64 = 18446744073709551616 := by decide
  omega
theorem r_wSub {a b : Int} (ha : In128 a) (hb : In128 b) : wide_Sub (wide a) (wide b) = some (fit (a - b)) := by
  show wide_SubW stdW (wide a) (wide b) = _
  unfold wide_SubW
  have ha' := ha
  have hb' := hb
  unfold In128 at ha' hb'
  have t0 : InTot 0 := by unfold InTot; omega
  have t1 : InTot a := by unfold InTot; omega
  have t2 : InTot (a + (-b - 1)) := by unfold InTot; omega
  have t3 : InTot (a - b) := by unfold InTot; omega
  have s1 : wide_total_add (wide a) 0 0 0 = some ((), totT a) := by
    have := r_tadd 0 (wide a) t0 (wide_ok a ha)
    rw [wv_wide, Int.zero_add] at this
    exact this
  rw [call_eq s1]
  have ec : (bits .xor .i64 (if true = true then (-1) else (if true = true then ((2 ^ ((IntKind.bits .i64) - 1)) - 1) else ((2 ^ (IntKind.bits .i64)) - 1))) (wide b).1, bits .xor .u64 (if false = true then (-1) else (if false = true then ((2 ^ ((IntKind.bits .u64) - 1)) - 1) else ((2 ^ (IntKind.bits .u64)) - 1))) (wide b).2.1, ()) = wide (-b - 1) := by
    have c1 : (if false = true then (-1 : Int) else (if false = true then ((2 ^ ((IntKind.bits .u64) - 1)) - 1) else ((2 ^ (IntKind.bits .u64)) - 1))) = 18446744073709551615 := by decide
    rw [c1, if_pos rfl]
    unfold wide
    show (bits .xor .i64 (-1) (b / 18446744073709551616), bits .xor .u64 18446744073709551615 (b % 18446744073709551616), ()) = _
    rw [not_i _ (by omega), not_u _ (by omega)]
    refine Prod.ext ?_ (Prod.ext ?_ rfl)
    · show -1 - b / 18446744073709551616 = (-b - 1) / 18446744073709551616; omega
    · show 18446744073709551615 - b % 18446744073709551616 = (-b - 1) % 18446744073709551616; omega
  have s2 := r_tadd a (wide (-b - 1)) t1 (wide_ok _ (by unfold In128; omega))
  rw [wv_wide] at s2
  show stdW.call (wide_total_add _ (totT a).1 (totT a).2.1 (totT a).2.2.1) _ = _
  rw [ec, call_eq s2, call_eq (r_wOf 1 (by unfold I64; omega))]
  have s3 := r_tadd (a + (-b - 1)) (wide 1) t2 (wide_ok _ (by unfold In128; omega))
  rw [wv_wide, show a + (-b - 1) + 1 = a - b by omega] at s3
  show stdW.call (wide_total_add (wide 1) (totT (a + (-b - 1))).1 (totT (a + (-b - 1))).2.1 (totT (a + (-b - 1))).2.2.1) _ = _
  rw [call_eq s3]
  show stdW.call (wide_total_done (totT (a - b)).1 (totT (a - b)).2.1 (totT (a - b)).2.2.1) _ = _
  rw [call_eq (r_tdone _ t3)]
theorem r_fSub {a b : Int} (ha : I64 a) (hb : I64 b) : fix_Sub a b = some (fits64 (a - b)) := by
  show fix_SubW stdW a b = _
  unfold fix_SubW
  have hd : In128 (a - b) := by unfold I64 at ha hb; unfold In128; omega
  have e : fit (a - b) = (wide (a - b), 0, ()) := if_pos hd
  rw [call_eq (r_wOf a ha), call_eq (r_wOf b hb), call_eq (r_wSub (i64_128 ha) (i64_128 hb)), e]
  show stdW.call (fix_narrow (wide (a - b)) 0) _ = _
  rw [call_eq (r_narrow0 hd)]
def moveP (l : List AFlow') (f t : AUnit') (n : Int) : List AFlow' × Int × Unit :=
  if I64 (-n) then payP l [(f, (-n, ())), (t, (n, ()))] else if isP l = true then ([], (7, ())) else ([], (3, ()))
theorem r_move {l : List AFlow'} {f t : AUnit'} {n : Int} (h : okF l) (hn : I64 n) (hl : l.length ≤ 1000) : purse_Move l f t n = some (moveP l f t n) := by
  show purse_MoveW stdW l f t n = _
  unfold purse_MoveW moveP
  have e := r_fSub (a := 0) (b := n) (by unfold I64; omega) hn
  rw [Int.zero_sub] at e
  unfold fits64 at e
  by_cases hI : I64 (-n)
  · rw [if_pos hI] at e
    rw [if_pos hI, call_eq e]
    refine join_g fun k hk => ?_
    show stdW.cnd ((0 : Int) != 0) _ _ = _
    rw [cnd_n (by decide)]
    subst hk
    show stdW.cnd false _ (stdW.call (purse_Pay l [(f, (-n, ())), (t, (n, ()))]) _) = _
    rw [cnd_n rfl, call_eq (r_pay h (by
      intro x hx
      simp only [List.mem_cons, List.not_mem_nil, or_false] at hx
      rcases hx with rfl | rfl
      · exact hI
      · exact hn) (by simp; omega))]
  · rw [if_neg hI] at e
    rw [if_neg hI, call_eq e]
    refine join_g fun k hk => ?_
    show stdW.cnd ((7 : Int) != 0) _ _ = _
    rw [cnd_y (by decide), call_eq (r_is (by omega))]
    subst hk
    by_cases hp : isP l = true
    · rw [hp, if_pos rfl]; rfl
    · have hp : isP l = false := by simpa using hp
      rw [hp, if_neg (by simp)]
      show stdW.cnd false _ (stdW.call (purse_Pay l _) _) = _
      unfold I64 at hI hn
      have hn2 : n = -9223372036854775808 := by omega
      rw [cnd_n rfl, call_eq (r_pay h (by
        intro x hx
        simp only [List.mem_cons, List.not_mem_nil, or_false] at hx
        rcases hx with rfl | rfl
        · show I64 0; unfold I64; omega
        · show I64 n; unfold I64; omega) (by simp; omega))]
      unfold payP
      rw [hp, if_neg (by simp)]
theorem unit_ext {l : List AFlow'} {us : List AUnit'} (hs : SrtA us) (h : ∀ u, u ∈ us ↔ ∃ x ∈ l, x.1 = u) : unitsOf l = us :=
  srt_ext (units_srt l) hs fun u => by rw [units_mem, h u]
theorem r_lives17 : law17_lives = some true := by
  show law17_livesW stdW = _
  unfold law17_livesW
  have hm : purse_Move [] (1, (0, ())) (2, (0, ())) 5 = some ([((1, (0, ())), (-5, ())), ((2, (0, ())), (5, ()))], (0, ())) := by
    rw [r_move (by intro x hx; cases hx) (by unfold I64; omega) (by simp)]
    unfold moveP payP
    have hu : unitsOf ([] ++ [(((1, (0, ())) : AUnit'), ((-5 : Int), ())), (((2, (0, ())) : AUnit'), ((5 : Int), ()))]) = [(1, (0, ())), (2, (0, ()))] := by
      refine unit_ext ?_ fun u => ?_
      · simp [SrtA, ltA]
      · simp only [List.nil_append, List.mem_cons, List.not_mem_nil, or_false, exists_eq_or_imp, exists_eq_left]
        constructor <;> rintro (h | h) <;> simp [h]
    rw [hu]
    decide +kernel
  rw [call_eq hm]
  show stdW.cnd ((0 : Int) == 0) _ _ = _
  rw [cnd_y (by decide), call_eq (r_get (by simp))]
  show stdW.cnd ((-5 : Int) == -5) _ _ = _
  rw [cnd_y (by decide), call_eq (r_get (by simp))]
  show stdW.cnd ((5 : Int) == 5) _ _ = _
  rw [cnd_y (by decide), call_eq (r_is (by simp))]
  show some (isP _) = _
  congr 1
end Go.Proofs.Ytbpbkmngbhgpfaa

namespace Go.Proofs.Ytbpbkmngbhgpfaa
open Go Go.Vc Go.RowKit
/-! ### flows may come in any order -/
theorem perm_sum {l m : List Int} (h : l.Perm m) : l.sum = m.sum := by
  induction h with
  | nil => rfl
  | cons x _ ih => simp [ih]
  | swap x y l => simp only [List.sum_cons]; omega
  | trans _ _ h1 h2 => rw [h1, h2]
theorem sumU_perm {l m : List AFlow'} (h : l.Perm m) (u : AUnit') : sumU l u = sumU m u := perm_sum ((h.filter _).map _)
theorem payGo_congr {a b : List AFlow'} (h : ∀ u, sumU a u = sumU b u) : ∀ (us : List AUnit') (acc : List AFlow'), payGo a us acc = payGo b us acc
  | [], _ => rfl
  | u :: us, acc => by
    unfold payGo
    rw [h u, payGo_congr h us, payGo_congr h us]
theorem payP_perm {l f g : List AFlow'} (h : f.Perm g) : payP l f = payP l g := by
  unfold payP
  have hp : (l ++ f).Perm (l ++ g) := h.append_left l
  rw [units_perm hp, payGo_congr (sumU_perm hp)]
theorem eqF (a b : AFlow') : (a.1.1 == b.1.1 && (a.1.2.1 == b.1.2.1 && a.2.1 == b.2.1)) = decide (a = b) := by
  by_cases h : a = b
  · subst h; simp
  · rw [decide_eq_false h]
    cases hc : (a.1.1 == b.1.1 && (a.1.2.1 == b.1.2.1 && a.2.1 == b.2.1)) with
    | false => rfl
    | true =>
      simp only [Bool.and_eq_true, beq_iff_eq] at hc
      exact absurd (Prod.ext (extA hc.1 hc.2.1) (Prod.ext hc.2.2 rfl)) h
theorem r_same {a : List AFlow'} (hl : a.length ≤ 1000000) : ref17_Same a a = some true := by
  show ref17_SameW stdW a a = _
  unfold ref17_SameW
  rw [cnd_n (by simp)]
  refine loop_n (N := a.length) (by omega) (fun _ _ => True) (some true) trivial ?_ ?_
  · rintro _ again _
    rw [cnd_end]
  · rintro i hi _ _ again ha
    rw [cnd_lt hi, idx_w hi, idx_w hi, nif_t, eqF, cnd_n (by simp), i64_s i (by omega)]
    exact ha _ trivial
theorem payGo_len (all : List AFlow') : ∀ (us : List AUnit') (acc : List AFlow'), (payGo all us acc).1.length ≤ acc.length + us.length
  | [], acc => by simp [payGo]
  | u :: us, acc => by
    unfold payGo
    split
    · split
      · have := payGo_len all us (acc ++ [(u, sumU all u, ())]); simp at this ⊢; omega
      · have := payGo_len all us acc; simp at this ⊢; omega
    · simp
theorem payP_len (l f : List AFlow') : (payP l f).1.length ≤ l.length + f.length := by
  unfold payP
  split
  · have := payGo_len (l ++ f) (unitsOf (l ++ f)) []
    have h2 := units_len (l ++ f)
    simp at this h2 ⊢; omega
  · simp
theorem r_few17 (l : List AFlow') (hl : l.length ≤ 9223372036854775807) : law17_Few l = some (l.take 20) := by
  show law17_FewW stdW l = _
  unfold law17_FewW
  by_cases h : 20 < l.length
  · rw [cnd_y (decide_eq_true (by omega)), bnd_w (by omega) (by omega)]; rfl
  · rw [cnd_n (decide_eq_false (by omega)), List.take_of_length_le (by omega)]
theorem r_turns {l f : List AFlow'} (h : okF l) (hf : okF f) (hl : l.length ≤ 9223372036854775807) (hfl : f.length ≤ 9223372036854775807) : law17_PurseTurns l f = some true := by
  show law17_PurseTurnsW stdW l f = _
  unfold law17_PurseTurnsW
  rw [call_eq (r_few17 l hl), call_eq (r_few17 f hfl)]
  have h1 := h.take 20
  have h2 := hf.take 20
  have l1 : (l.take 20).length ≤ 20 := by rw [List.length_take]; omega
  have l2 : (f.take 20).length ≤ 20 := by rw [List.length_take]; omega
  generalize l.take 20 = a at *
  generalize f.take 20 = b at *
  refine (loop_std (fun z => z.1.toNat) (fun z => ∃ i : Nat, i ≤ b.length ∧ z = ((i : Int), ((b.drop i).reverse, ()))) (fun _ => some true) ⟨b.length, Nat.le_refl _, by simp⟩ (by show ((b.length : Nat) : Int).toNat < _; omega) ?_)
  rintro _ ⟨i, hi, rfl⟩ again ha
  show stdW.cnd (decide ((0 : Int) < ((i : Nat) : Int))) _ _ = _
  by_cases h0 : i = 0
  · subst h0
    have hr : okF b.reverse := fun x hx => h2 x (List.mem_reverse.1 hx)
    have lr : b.reverse.length ≤ 20 := by rw [List.length_reverse]; exact l2
    have hlen := payP_len a b
    rw [cnd_n (c := decide ((0 : Int) < ((0 : Nat) : Int))) rfl, call_eq (r_pay h1 h2 (by omega))]
    show stdW.call (purse_Pay a b.reverse) _ = _
    rw [call_eq (r_pay h1 hr (by omega)), payP_perm (List.reverse_perm b), call_eq (r_same (by omega)), cnd_y rfl, cnd_y (by simp), call_eq r_lives17]
  · have hm : i - 1 < b.length := by omega
    rw [cnd_y (decide_eq_true (by omega))]
    show stdW.idx b (IntKind.i64.wrap ((i : Int) - 1)) _ = _
    rw [i64_pred i (by omega) (by rw [maxLen_eq]; omega), idx_w hm, room_w (by simp; omega) (by simp; omega)]
    refine ha _ ⟨i - 1, by omega, ?_⟩ (by show ((i - 1 : Nat) : Int).toNat < ((i : Nat) : Int).toNat; omega)
    rw [List.drop_eq_getElem_cons hm, show i - 1 + 1 = i by omega, List.reverse_cons]
end Go.Proofs.Ytbpbkmngbhgpfaa

namespace Go.Proofs.Ytbpbkmngbhgpfaa
open Go Go.Vc Go.RowKit
/-- a loop whose state is known round by round -/
theorem loop_at {X β : Type} {N : Nat} (hN : N < 9223372036854775808) {f : X → (X → Option β) → Option β} (st : Nat → X) (r : Option β)
    (hend : ∀ again : X → Option β, f (st N) again = r) (hstep : ∀ i, i < N → ∀ again : X → Option β, again (st (i + 1)) = r → f (st i) again = r) : stdW.loop f (st 0) = r := by
  have key : ∀ n i, i ≤ N → N - i < n → loopF n f (st i) = r := by
    intro n
    induction n with
    | zero => intro i _ h; omega
    | succ n ih =>
      intro i hi hn
      show f (st i) (loopF n f) = r
      by_cases h : i < N
      · exact hstep i h _ (ih (i + 1) (by omega) (by omega))
      · have : i = N := by omega
        subst this; exact hend _
  show loopF FU f (st 0) = r
  exact key FU 0 (Nat.zero_le _) (by rw [FU_eq]; omega)
/-! ### the reference's units -/
def insL (l : List AFlow') : List AUnit' := l.foldl (fun a x => insA x.1 a) []
theorem insL_srt (l : List AFlow') : SrtA (insL l) := (ins_all l [] List.Pairwise.nil).1
theorem insL_units (l : List AFlow') : insL l = unitsOf l := ins_units l
theorem insL_len (l : List AFlow') : (insL l).length ≤ l.length := by rw [insL_units]; exact units_len l
theorem insL_step (l : List AFlow') (i : Nat) (h : i < l.length) : insL (l.take (i + 1)) = insA l[i].1 (insL (l.take i)) := by
  unfold insL
  rw [List.take_succ_eq_append_getElem h, List.foldl_append]; rfl
theorem r_units {l : List AFlow'} (hl : l.length ≤ 1000000) : ref17_Units l = some (unitsOf l) := by
  show ref17_UnitsW stdW l = _
  unfold ref17_UnitsW
  refine loop_at (N := l.length) (by omega) (fun i => (insL (l.take i), ((i : Int), ()))) (some (unitsOf l)) ?_ ?_
  · intro again
    show stdW.cnd (decide ((l.length : Int) < (l.length : Int))) _ _ = _
    rw [cnd_end, List.take_length, insL_units]
  · intro i hi again ha
    show stdW.cnd (decide ((i : Int) < (l.length : Int))) _ _ = _
    rw [cnd_lt hi]
    refine join_g fun k hk => ?_
    have kk : k (insL (l.take (i + 1)), ()) = some (unitsOf l) := by
      subst hk
      show again (insL (l.take (i + 1)), (IntKind.i64.wrap ((i : Int) + 1), ())) = _
      rw [i64_s i (by omega)]; exact ha
    clear hk ha
    show stdW.idx l (i : Int) _ = _
    rw [idx_w hi]
    rw [insL_step l i hi] at kk
    have hs := insL_srt (l.take i)
    have hlen : (insL (l.take i)).length ≤ 1000000 := Nat.le_trans (insL_len _) (by rw [List.length_take]; omega)
    generalize insL (l.take i) = out at *
    generalize l[i].1 = u at *
    refine loop_at (N := out.length) (by omega) (fun j => ((((lowU u (out.take j)).length : Nat) : Int), (decide (u ∈ out.take j), ((j : Int), ())))) (some (unitsOf l)) ?_ ?_
    · intro again2
      show stdW.cnd (decide ((out.length : Int) < (out.length : Int))) _ (stdW.cnd (!decide (u ∈ out.take out.length)) (stdW.bnd (((lowU u (out.take out.length)).length : Nat) : Int) out.length _) (k (out, ()))) = _
      rw [cnd_end, List.take_length]
      obtain ⟨e1, e2⟩ := low_take hs u
      have hle : (lowU u out).length ≤ out.length := List.length_filter_le _ _
      by_cases hu : u ∈ out
      · rw [cnd_n (by simp [hu])]
        rw [insA, if_pos hu] at kk; exact kk
      · rw [cnd_y (by simp [hu]), bnd_w (by omega) (by omega)]
        have l1 : (out.take (lowU u out).length).length ≤ 1000000 := by rw [List.length_take]; omega
        show stdW.room (out.take (lowU u out).length).length 16 (stdW.room ((out.take (lowU u out).length).length + 1) 16 (stdW.bnd (((lowU u out).length : Nat) : Int) out.length _)) = _
        rw [room_w (by omega) (by omega), room_w (by omega) (by omega), bnd_w (by omega) (by omega)]
        show stdW.room ((out.take (lowU u out).length ++ [u]).length + (out.drop (lowU u out).length).length) 16 (k ((out.take (lowU u out).length ++ [u]) ++ out.drop (lowU u out).length, ())) = _
        rw [room_w (by simp only [List.length_append, List.length_drop, List.length_cons, List.length_nil]; omega) (by simp only [List.length_append, List.length_drop, List.length_cons, List.length_nil]; omega), e1, e2]
        rw [insA, if_neg hu] at kk
        rw [List.append_assoc]; exact kk
    · intro j hj again2 ha2
      show stdW.cnd (decide ((j : Int) < (out.length : Int))) _ _ = _
      rw [cnd_lt hj]
      refine join_g fun k9 hk9 => ?_
      have k9k : ∀ a b, k9 (a, (b, ())) = again2 (a, (b, (((j + 1 : Nat) : Int), ()))) := by
        intro a b; rw [← i64_s j (by omega)]; subst hk9; rfl
      clear hk9
      refine join_g fun k13 hk13 => ?_
      have mem : decide (u ∈ out.take (j + 1)) = (decide (u ∈ out.take j) || decide (out[j] = u)) := by
        rw [List.take_succ_eq_append_getElem hj]
        rw [Bool.eq_iff_iff]
        simp only [decide_eq_true_eq, Bool.or_eq_true, List.mem_append, List.mem_singleton]
        exact or_congr_right ⟨fun h => h.symm, fun h => h.symm⟩
      have fin : ∀ b, b = decide (u ∈ out.take (j + 1)) → k13 (b, ()) = some (unitsOf l) := by
        rintro _ rfl
        subst hk13
        show stdW.idx out (j : Int) _ = _
        rw [idx_w hj, call_eq (r_less15 _ _)]
        rw [low_step hs u j hj] at ha2
        by_cases hlt : ltA out[j] u
        · rw [if_pos hlt] at ha2
          rw [decide_eq_true hlt, cnd_y rfl]
          show k9 (IntKind.i64.wrap ((j : Int) + 1), _) = _
          rw [i64_s j (by omega)]
          exact (k9k _ _).trans ha2
        · rw [if_neg hlt] at ha2
          rw [decide_eq_false hlt, cnd_n rfl]
          exact (k9k _ _).trans ha2
      clear hk13
      show stdW.cnd (decide (u ∈ out.take j)) (k13 (true, ())) (stdW.idx out (j : Int) _) = _
      by_cases h1 : u ∈ out.take j
      · rw [cnd_y (decide_eq_true h1)]
        exact fin _ (by rw [mem]; simp [h1])
      · rw [cnd_n (decide_eq_false h1), idx_w hj, nif_f, eqA]
        exact fin _ (by rw [mem]; simp [h1])
end Go.Proofs.Ytbpbkmngbhgpfaa

namespace Go.Proofs.Ytbpbkmngbhgpfaa
open Go Go.Vc Go.RowKit
theorem loop_az {X β : Type} {N : Nat} (hN : N < 9223372036854775808) {f : X → (X → Option β) → Option β} (st : Nat → X) (r : Option β) {z0 : X} (hz : z0 = st 0)
    (hend : ∀ again : X → Option β, f (st N) again = r) (hstep : ∀ i, i < N → ∀ again : X → Option β, again (st (i + 1)) = r → f (st i) again = r) : stdW.loop f z0 = r := by
  subst hz; exact loop_at hN st r hend hstep
/-! ### the reference's purse behind some flows -/
theorem sumU_take (l : List AFlow') (u : AUnit') (i : Nat) (h : i < l.length) : sumU (l.take (i + 1)) u = sumU (l.take i) u + (if l[i].1 = u then l[i].2.1 else 0) := by
  unfold sumU
  rw [amts_take _ _ _ h, List.sum_append]
  split <;> simp
theorem sumU_sml {l : List AFlow'} (h : okF l) (u : AUnit') (hl : l.length ≤ 1000000) : sml (sumU l u) := by
  have h1 := sum_in (amts_ok h u)
  have h2 := amts_len l u
  unfold sumU sml; omega
theorem r_pay17 {l fl : List AFlow'} (h : okF l) (hf : okF fl) (hl : l.length + fl.length ≤ 1000000) : ref17_Pay l fl = some (payP l fl) := by
  show ref17_PayW stdW l fl = _
  unfold ref17_PayW payP
  rw [call_eq (r_is17 (by omega))]
  by_cases hp : isP l = true
  · rw [hp, cnd_n (by decide), if_pos rfl, room_w (by omega) (by omega), room_w (by omega) (by omega)]
    have hall : okF (l ++ fl) := fun x hx => (List.mem_append.1 hx).elim (h x) (hf x)
    have hlen : (l ++ fl).length ≤ 1000000 := by rw [List.length_append]; exact hl
    rw [call_eq (r_units hlen)]
    have hul := units_len (l ++ fl)
    generalize l ++ fl = all at *
    generalize unitsOf all = us at *
    refine loop_list (l := us) (by omega) (fun i (s : List AFlow' × Unit) => s.1.length ≤ i) (fun us' (s : List AFlow' × Unit) => some (payGo all us' s.1)) (Nat.le_refl _) ?_ ?_
    · rintro ⟨acc, ⟨⟩⟩ again _
      rw [cnd_end]; rfl
    · rintro i hi ⟨acc, ⟨⟩⟩ hacc again ha
      simp only at hacc
      rw [cnd_lt hi]
      refine join_g fun k hk => ?_
      have kk : ∀ v : List AFlow', v.length ≤ i + 1 → k (v, ()) = some (payGo all (us.drop (i + 1)) v) := by
        intro v hv
        subst hk
        show again (IntKind.i64.wrap ((i : Int) + 1), (v, ())) = _
        rw [i64_s i (by omega)]
        exact ha (v, ()) hv
      clear hk ha
      show _ = some (payGo all (us[i] :: us.drop (i + 1)) acc)
      rw [payGo]
      refine loop_az (N := all.length) (by omega) (fun j => (((j : Nat) : Int), ((big (sumU (all.take j) us[i])).1, ((big (sumU (all.take j) us[i])).2.1, (acc, ()))))) _ (by rw [List.take_zero, show sumU [] us[i] = 0 from rfl, big0]; rfl) ?_ ?_
      · intro again2
        show stdW.cnd (decide ((all.length : Int) < (all.length : Int))) _ (stdW.call (ref01_Fits (big (sumU (all.take all.length) us[i]))) _) = _
        rw [cnd_end, List.take_length, call_eq (r_fits (sumU_sml hall us[i] hlen))]
        by_cases hI : I64 (sumU all us[i])
        · rw [decide_eq_true hI, cnd_n (by decide), if_pos hI]
          have e := r_int hI
          show stdW.call (ref01_Int (big (sumU all us[i]))) _ = _
          rw [call_eq e]
          by_cases h0 : sumU all us[i] = 0
          · rw [cnd_n (by simp [h0]), if_neg (by simp [h0])]
            exact kk acc (by omega)
          · rw [cnd_y (by simp [h0]), if_pos h0]
            show stdW.idx us (i : Int) _ = _
            rw [idx_w hi, call_eq e]
            show stdW.room (acc.length + 1) 24 (k (acc ++ [(us[i], sumU all us[i], ())], ())) = _
            rw [room_w (by omega) (by omega)]
            exact kk _ (by simp; omega)
        · rw [decide_eq_false hI, cnd_y (by decide), if_neg hI]
      · intro j hj again2 ha2
        show stdW.cnd (decide ((j : Int) < (all.length : Int))) _ _ = _
        rw [cnd_lt hj]
        refine join_g fun k2 hk2 => ?_
        have kk2 : k2 ((big (sumU (all.take (j + 1)) us[i])).1, ((big (sumU (all.take (j + 1)) us[i])).2.1, (acc, ()))) = again2 (((j + 1 : Nat) : Int), ((big (sumU (all.take (j + 1)) us[i])).1, ((big (sumU (all.take (j + 1)) us[i])).2.1, (acc, ())))) := by
          rw [← i64_s j (by omega)]; subst hk2; rfl
        rw [ha2] at kk2
        clear hk2 ha2
        show stdW.idx all (j : Int) _ = _
        rw [idx_w hj]
        show stdW.idx us (i : Int) _ = _
        rw [idx_w hi, nif_f, eqA]
        rw [sumU_take _ _ _ hj] at kk2
        by_cases hu : all[j].1 = us[i]
        · rw [if_pos hu] at kk2
          rw [cnd_y (decide_eq_true hu)]
          show stdW.idx all (j : Int) _ = _
          have h2 : I64 all[j].2.1 := hall _ (List.getElem_mem hj)
          rw [idx_w hj, both_w, call_eq (r_of h2)]
          show stdW.call (ref01_Add (big (sumU (all.take j) us[i])) (big all[j].2.1)) _ = _
          rw [call_eq (r_addB (sumU_sml (hall.take j) us[i] (by rw [List.length_take]; omega)) (i64_sml h2))]
          exact kk2
        · rw [if_neg hu, Int.add_zero] at kk2
          rw [cnd_n (decide_eq_false hu)]
          exact kk2
  · have hp : isP l = false := by simpa using hp
    rw [hp, cnd_y (by decide), if_neg (by simp)]
end Go.Proofs.Ytbpbkmngbhgpfaa

namespace Go.Proofs.Ytbpbkmngbhgpfaa
open Go Go.Vc Go.RowKit
theorem r_wideB {z : Int} (h : In128 z) : ref01_Wide (wide z).1 (wide z).2.1 = some (big z) := by
  have ho := wide_ok z h
  unfold wOk at ho
  rw [r_wide ho.1 ho.2.1 ho.2.2]
  congr 2
  exact wv_wide z
theorem r_cmpB {a b : Int} (ha : sml a) (hb : sml b) : ref01_Cmp (big a) (big b) = some (if a - b = 0 then 0 else if a - b < 0 then -1 else 1) := by
  unfold sml at *
  have := r_cmp (nb_big a) (nb_big b) (Nat.le_trans (len_big2 ha) (by decide)) (Nat.le_trans (len_big2 hb) (by decide))
  rwa [bv_big, bv_big] at this
theorem r_pays {l f : List AFlow'} {u : AUnit'} (h : okF l) (hf : okF f) (hl : l.length ≤ 9223372036854775807) (hfl : f.length ≤ 9223372036854775807) : law17_PursePays l f u = some true := by
  show law17_PursePaysW stdW l f u = _
  unfold law17_PursePaysW
  rw [call_eq (r_few17 l hl), call_eq (r_few17 f hfl)]
  have h1 := h.take 20
  have h2 := hf.take 20
  have l1 : (l.take 20).length ≤ 20 := by rw [List.length_take]; omega
  have l2 : (f.take 20).length ≤ 20 := by rw [List.length_take]; omega
  generalize l.take 20 = a at *
  generalize f.take 20 = b at *
  have hs := sumA_sml h1 (by omega)
  rw [call_eq (r_total h1 (by omega))]
  refine join_g fun k hk => ?_
  have kf : k (false, ()) = some true := by
    subst hk
    show stdW.call (purse_Pay a b) _ = _
    have hlen := payP_len a b
    rw [call_eq (r_pay h1 h2 (by omega)), call_eq (r_pay17 h1 h2 (by omega)), call_eq (r_same (by omega)), cnd_y rfl, cnd_y (by simp), call_eq r_lives17]
  clear hk
  rw [call_eq (r_is (by omega)), call_eq (r_is17 (by omega)), cnd_n (by simp [nif_t]), both_w, both_w, call_eq (r_get (by omega)), call_eq (r_get17 (by omega)), cnd_n (by simp), both_w, call_eq (r_wideB hs.2), call_eq (r_total17 h1 (by omega))]
  show stdW.call (ref01_Cmp (big (sumBy amt a)) (big (sumBy amt a))) _ = _
  rw [call_eq (r_cmpB hs.1 hs.1)]
  show k ((if sumBy amt a - sumBy amt a = 0 then (0 : Int) else if sumBy amt a - sumBy amt a < 0 then -1 else 1) != 0, ()) = _
  rw [if_pos (by omega)]
  exact kf
/-! ### what a payment leaves -/
theorem payGo_ok (all : List AFlow') : ∀ (us : List AUnit') (acc : List AFlow'), (payGo all us acc).2.1 = 0 →
    (payGo all us acc).1 = acc ++ (us.filter fun u => decide (sumU all u ≠ 0)).map (fun u => (u, sumU all u, ())) ∧ ∀ u ∈ us, I64 (sumU all u)
  | [], acc, _ => by simp [payGo]
  | u :: us, acc, h => by
    unfold payGo at h ⊢
    by_cases hI : I64 (sumU all u)
    · rw [if_pos hI] at h ⊢
      by_cases h0 : sumU all u ≠ 0
      · rw [if_pos h0] at h ⊢
        obtain ⟨h1, h2⟩ := payGo_ok all us _ h
        refine ⟨?_, fun x hx => ?_⟩
        · rw [h1, List.filter_cons, if_pos (by simpa using h0)]; simp
        · rcases List.mem_cons.1 hx with rfl | hx
          · exact hI
          · exact h2 x hx
      · rw [if_neg h0] at h ⊢
        obtain ⟨h1, h2⟩ := payGo_ok all us _ h
        refine ⟨?_, fun x hx => ?_⟩
        · rw [h1, List.filter_cons, if_neg (by simpa using h0)]
        · rcases List.mem_cons.1 hx with rfl | hx
          · exact hI
          · exact h2 x hx
    · rw [if_neg hI] at h; simp at h
theorem sumU_cons (x : AFlow') (l : List AFlow') (u : AUnit') : sumU (x :: l) u = (if x.1 = u then amt x else 0) + sumU l u := by
  unfold sumU amts ofFlow
  rw [List.filter_cons]
  by_cases h : x.1 = u <;> simp [h]
theorem sumU_app (a b : List AFlow') (u : AUnit') : sumU (a ++ b) u = sumU a u + sumU b u := by
  unfold sumU amts; rw [List.filter_append, List.map_append, List.sum_append]
theorem sumU_none {l : List AFlow'} {u : AUnit'} (h : ∀ x ∈ l, x.1 ≠ u) : sumU l u = 0 := by
  induction l with
  | nil => rfl
  | cons x l ih => rw [sumU_cons, if_neg (h x (by simp)), ih fun y hy => h y (by simp [hy])]; rfl
theorem one_of {us : List AUnit'} (hn : us.Nodup) {v : AUnit'} (z : Int) : sumBy (fun u => if v = u then z else 0) us = if v ∈ us then z else 0 := by
  induction us with
  | nil => rfl
  | cons u us ih =>
    obtain ⟨h1, h2⟩ := List.nodup_cons.1 hn
    rw [sumBy_cons, ih h2]
    by_cases hv : v = u
    · subst hv; rw [if_pos rfl, if_neg h1, if_pos (by simp)]; omega
    · rw [if_neg hv]
      by_cases hm : v ∈ us
      · rw [if_pos hm, if_pos (by simp [hm])]; omega
      · rw [if_neg hm, if_neg (by simp [hm, hv])]; rfl
theorem sumBy_add {α : Type} (f g : α → Int) (l : List α) : sumBy (fun x => f x + g x) l = sumBy f l + sumBy g l := by
  induction l with
  | nil => rfl
  | cons x l ih => rw [sumBy_cons, sumBy_cons, sumBy_cons, ih]; omega
theorem sum_units : ∀ (l : List AFlow') {us : List AUnit'}, us.Nodup → (∀ x ∈ l, x.1 ∈ us) → sumBy (sumU l) us = sumBy amt l
  | [], us, _, _ => by
    have : ∀ us : List AUnit', sumBy (sumU []) us = 0 := by
      intro us; induction us with
      | nil => rfl
      | cons u us ih => rw [sumBy_cons, ih]; rfl
    rw [this]; rfl
  | x :: l, us, hn, h => by
    have e : sumU (x :: l) = fun u => (if x.1 = u then amt x else 0) + sumU l u := funext (sumU_cons x l)
    rw [e, sumBy_add, one_of hn, if_pos (h x (by simp)), sum_units l hn fun y hy => h y (by simp [hy]), sumBy_cons]
def resP (all : List AFlow') (us : List AUnit') : List AFlow' := (us.filter fun u => decide (sumU all u ≠ 0)).map fun u => (u, sumU all u, ())
theorem srt_nd {us : List AUnit'} (h : SrtA us) : us.Nodup := List.Pairwise.imp (fun {a b} (hab : ltA a b) (e : a = b) => by subst e; exact ltA_irr _ hab) h
theorem resP_sum (all : List AFlow') : sumBy amt (resP all (unitsOf all)) = sumBy amt all := by
  have e : ∀ us : List AUnit', sumBy amt (resP all us) = sumBy (sumU all) us := by
    intro us
    induction us with
    | nil => rfl
    | cons u us ih =>
      unfold resP at ih ⊢
      rw [List.filter_cons, sumBy_cons, ← ih]
      by_cases h : sumU all u = 0
      · rw [if_neg (by simp [h]), h]; omega
      · rw [if_pos (by simp [h]), List.map_cons, sumBy_cons]; rfl
  rw [e, sum_units all (srt_nd (units_srt all)) fun x hx => (units_mem all x.1).2 ⟨x, hx, rfl⟩]
theorem resP_is {all : List AFlow'} {us : List AUnit'} (h : SrtA us) : isP (resP all us) = true := by
  refine decide_eq_true ⟨fun x hx => ?_, ?_⟩
  · obtain ⟨u, hu, rfl⟩ := List.mem_map.1 hx
    simpa using (List.mem_filter.1 hu).2
  · unfold resP
    rw [List.map_map]
    have : ((fun x : AFlow' => x.1) ∘ fun u => ((u, sumU all u, ()) : AFlow')) = id := rfl
    rw [this, List.map_id]
    exact h.filter _
theorem getP_none {l : List AFlow'} {u : AUnit'} (h : ∀ x ∈ l, x.1 ≠ u) : getP l u = 0 := by
  induction l with
  | nil => rfl
  | cons x l ih => rw [getP, if_neg (h x (by simp)), ih fun y hy => h y (by simp [hy])]
theorem getP_sum : ∀ {l : List AFlow'}, (l.map (·.1)).Nodup → ∀ u, getP l u = sumU l u
  | [], _, u => rfl
  | x :: l, h, u => by
    obtain ⟨h1, h2⟩ := List.nodup_cons.1 h
    rw [getP, sumU_cons]
    by_cases hu : x.1 = u
    · rw [if_pos hu, if_pos hu, sumU_none fun y hy e => h1 (List.mem_map.2 ⟨y, hy, e.trans hu.symm⟩)]
      show amt x = _; omega
    · rw [if_neg hu, if_neg hu, getP_sum h2]; omega
theorem isP_nd {l : List AFlow'} (h : isP l = true) : (l.map (·.1)).Nodup := srt_nd (of_decide_eq_true h).2
theorem resP_get (all : List AFlow') (u : AUnit') : getP (resP all (unitsOf all)) u = sumU all u := by
  by_cases h0 : sumU all u = 0
  · rw [h0]
    refine getP_none fun x hx e => ?_
    obtain ⟨v, hv, rfl⟩ := List.mem_map.1 hx
    have := (List.mem_filter.1 hv).2
    simp only [decide_eq_true_eq] at this
    exact this (by rw [show v = u from e]; exact h0)
  · rw [getP_sum (isP_nd (resP_is (units_srt all)))]
    have hu : u ∈ unitsOf all := by
      rw [units_mem]
      by_cases hx : ∃ x ∈ all, x.1 = u
      · exact hx
      · exact absurd (sumU_none fun x hx' e => hx ⟨x, hx', e⟩) h0
    have key : ∀ us : List AUnit', us.Nodup → sumU (resP all us) u = if u ∈ us then sumU all u else 0 := by
      intro us
      induction us with
      | nil => intro _; rfl
      | cons v us ih =>
        intro hn
        obtain ⟨h1, h2⟩ := List.nodup_cons.1 hn
        have ih := ih h2
        unfold resP at ih ⊢
        rw [List.filter_cons]
        by_cases hv : v = u
        · subst hv
          rw [if_pos (by simpa using h0), List.map_cons, sumU_cons, ih, if_neg h1, if_pos rfl, if_pos (by simp)]
          show sumU all v + 0 = _; omega
        · have e : (if u ∈ v :: us then sumU all u else 0) = if u ∈ us then sumU all u else 0 := by
            by_cases hm : u ∈ us
            · rw [if_pos hm, if_pos (by simp [hm])]
            · rw [if_neg hm, if_neg (by simp [hm, Ne.symm hv])]
          rw [e, ← ih]
          by_cases hz : sumU all v = 0
          · rw [if_neg (by simp [hz])]
          · rw [if_pos (by simp [hz]), List.map_cons, sumU_cons, if_neg hv]; omega
    rw [key _ (srt_nd (units_srt all)), if_pos hu]
end Go.Proofs.Ytbpbkmngbhgpfaa

namespace Go.Proofs.Ytbpbkmngbhgpfaa
open Go Go.Vc Go.RowKit
theorem payP_ok {l f : List AFlow'} (h : (payP l f).2.1 = 0) : isP l = true ∧ (payP l f).1 = resP (l ++ f) (unitsOf (l ++ f)) ∧ ∀ u ∈ unitsOf (l ++ f), I64 (sumU (l ++ f) u) := by
  unfold payP at h ⊢
  by_cases hp : isP l = true
  · rw [if_pos hp] at h ⊢
    obtain ⟨h1, h2⟩ := payGo_ok _ _ _ h
    exact ⟨hp, by rw [h1, List.nil_append]; rfl, h2⟩
  · rw [if_neg hp] at h; simp at h
theorem resP_ok {all : List AFlow'} {us : List AUnit'} (h : ∀ u ∈ us, I64 (sumU all u)) : okF (resP all us) := by
  intro x hx
  obtain ⟨u, hu, rfl⟩ := List.mem_map.1 hx
  exact h u (List.mem_filter.1 hu).1
theorem resP_len (all : List AFlow') (us : List AUnit') : (resP all us).length ≤ us.length := by
  unfold resP; rw [List.length_map]; exact List.length_filter_le _ _
theorem notAB {o a : AUnit'} : notIf true (o.1 == a.1 && o.2.1 == a.2.1) = decide (o ≠ a) := by
  rw [nif_t, eqA]
  by_cases h : o = a <;> simp [h]
theorem r_moves {l : List AFlow'} {f t o : AUnit'} {n : Int} (h : okF l) (hn : I64 n) (hl : l.length ≤ 9223372036854775807) : law17_PurseMoves l f t o n = some true := by
  show law17_PurseMovesW stdW l f t o n = _
  unfold law17_PurseMovesW
  rw [call_eq (r_few17 l hl)]
  have h1 := h.take 20
  have l1 : (l.take 20).length ≤ 20 := by rw [List.length_take]; omega
  generalize l.take 20 = a at *
  rw [call_eq (r_move h1 hn (by omega))]
  by_cases hm : n = -9223372036854775808
  · subst hm
    rw [cnd_y (by decide)]
    have e : moveP a f t (-9223372036854775808) = if isP a = true then ([], (7, ())) else ([], (3, ())) := if_neg (by unfold I64; omega)
    rw [e]
    refine join_g fun k hk => ?_
    rw [call_eq (r_is17 (by omega))]
    by_cases hp : isP a = true
    · rw [hp, if_pos rfl] at hk
      rw [hp, cnd_n (by decide), if_pos rfl]
      subst hk
      show stdW.cnd ((7 : Int) == 7) (stdW.cnd (((0 : Nat) : Int) == 0) _ _) _ = _
      rw [cnd_y (by decide), cnd_y (by decide), call_eq r_lives17]
    · have hp : isP a = false := by simpa using hp
      rw [hp, if_neg (by simp)] at hk
      rw [hp, cnd_y (by decide), if_neg (by simp)]
      subst hk
      show stdW.cnd ((3 : Int) == 3) (stdW.cnd (((0 : Nat) : Int) == 0) _ _) _ = _
      rw [cnd_y (by decide), cnd_y (by decide), call_eq r_lives17]
  · have hI : I64 (-n) := by unfold I64 at *; omega
    rw [cnd_n (by simpa using hm)]
    have hw : IntKind.i64.wrap (0 - n) = -n := by rw [Int.zero_sub]; unfold I64 at hI; exact IntWalk.i64_in _ hI
    rw [hw]
    have e : moveP a f t n = payP a [(f, (-n, ())), (t, (n, ()))] := if_pos hI
    rw [e]
    have hf : okF [(f, (-n, ())), (t, (n, ()))] := by
      intro x hx
      simp only [List.mem_cons, List.not_mem_nil, or_false] at hx
      rcases hx with rfl | rfl
      · exact hI
      · exact hn
    rw [call_eq (r_pay17 h1 hf (by simp; omega))]
    have hplen := payP_len a [(f, (-n, ())), (t, (n, ()))]
    refine join_g fun k hk => ?_
    have hk0 : k ((payP a [(f, (-n, ())), (t, (n, ()))]).1, (false, ())) = some true := by
      subst hk
      show stdW.cnd false _ (stdW.cnd ((payP a [(f, (-n, ())), (t, (n, ()))]).2.1 != 0) _ _) = _
      rw [cnd_n rfl]
      by_cases h0 : (payP a [(f, (-n, ())), (t, (n, ()))]).2.1 = 0
      · rw [cnd_n (by simp [h0])]
        obtain ⟨hp, hr, hok⟩ := payP_ok h0
        have hsum := resP_sum (a ++ [(f, (-n, ())), (t, (n, ()))])
        have hget := resP_get (a ++ [(f, (-n, ())), (t, (n, ()))])
        have his := resP_is (all := a ++ [(f, (-n, ())), (t, (n, ()))]) (units_srt (a ++ [(f, (-n, ())), (t, (n, ()))]))
        have hres := resP_ok hok
        have hlen : (resP (a ++ [(f, (-n, ())), (t, (n, ()))]) (unitsOf (a ++ [(f, (-n, ())), (t, (n, ()))]))).length ≤ 1000 := by
          have := resP_len (a ++ [(f, (-n, ())), (t, (n, ()))]) (unitsOf (a ++ [(f, (-n, ())), (t, (n, ()))]))
          have h2 := units_len (a ++ [(f, (-n, ())), (t, (n, ()))])
          simp at this h2 ⊢; omega
        have hsum2 : sumBy amt (a ++ [(f, (-n, ())), (t, (n, ()))]) = sumBy amt a := by
          rw [sumBy_app, sumBy_cons, sumBy_cons, sumBy_nil]
          show _ + (-n + (n + 0)) = _; omega
        have hget2 : o ≠ f → o ≠ t → sumU (a ++ [(f, (-n, ())), (t, (n, ()))]) o = getP a o := by
          intro h2 h3
          rw [sumU_app, sumU_cons, sumU_cons, if_neg (Ne.symm h2), if_neg (Ne.symm h3), getP_sum (isP_nd hp)]
          show _ + (0 + (0 + 0)) = _; omega
        rw [hsum2] at hsum
        rw [hr]
        generalize resP (a ++ [(f, (-n, ())), (t, (n, ()))]) (unitsOf (a ++ [(f, (-n, ())), (t, (n, ()))])) = b at *
        refine join_g fun k2 hk2 => ?_
        have hk20 : k2 (false, ()) = some true := by
          subst hk2
          show stdW.call (purse_Total b) _ = _
          rw [call_eq (r_total hres (by omega)), call_eq (r_total h1 (by omega)), hsum, cnd_y (by simp [nif_f]), call_eq (r_is (by omega)), his, cnd_y rfl, call_eq r_lives17]
        clear hk2
        rw [notAB, notAB]
        by_cases h2 : o = f
        · rw [cnd_n (by simp [h2])]; exact hk20
        · rw [cnd_y (by simp [h2])]
          by_cases h3 : o = t
          · rw [cnd_n (by simp [h3])]; exact hk20
          · rw [cnd_y (by simp [h3])]
            show stdW.call (purse_Get b o) _ = _
            rw [call_eq (r_get (by omega)), call_eq (r_get (by omega)), hget o, hget2 h2 h3]
            show k2 (getP a o != getP a o, ()) = _
            rw [show (getP a o != getP a o) = false by simp]
            exact hk20
      · rw [cnd_y (by simp [h0]), call_eq r_lives17]
    clear hk
    have hplen2 : (payP a [(f, (-n, ())), (t, (n, ()))]).1.length ≤ 1000000 := by simp at hplen; omega
    rw [call_eq (r_same hplen2), cnd_n (by decide)]
    show k ((payP a [(f, (-n, ())), (t, (n, ()))]).1, ((payP a [(f, (-n, ())), (t, (n, ()))]).2.1 != (payP a [(f, (-n, ())), (t, (n, ()))]).2.1, ())) = _
    rw [show ((payP a [(f, (-n, ())), (t, (n, ()))]).2.1 != (payP a [(f, (-n, ())), (t, (n, ()))]).2.1) = false by simp]
    exact hk0
end Go.Proofs.Ytbpbkmngbhgpfaa

namespace Go.Vc
open Go Go.RowKit
/-! what a well formed argument is known to be -/
def DT.okD : (t : DT) → t.den → Prop
  | .int k, n => (Lit.int k n).wf = true
  | .bool, _ => True
  | .str, s => s.size ≤ maxLen
  | .slc t, l => (∀ x ∈ l, t.okD x) ∧ l.length ≤ maxLen
  | .unit, _ => True
  | .pair a b, x => a.okD x.1 ∧ b.okD x.2
theorem wf_i64 {n : Int} (h : (Lit.int .i64 n).wf = true) : -9223372036854775808 ≤ n ∧ n ≤ 9223372036854775807 := by
  simp [Lit.wf, IntKind.min, IntKind.max, IntKind.signed, IntKind.bits] at h; omega
theorem wf_u64 {n : Int} (h : (Lit.int .u64 n).wf = true) : 0 ≤ n ∧ n ≤ 18446744073709551615 := by
  simp [Lit.wf, IntKind.min, IntKind.max, IntKind.signed, IntKind.bits] at h; omega
theorem wf_u8 {n : Int} (h : (Lit.int .u8 n).wf = true) : 0 ≤ n ∧ n ≤ 255 := by
  simp [Lit.wf, IntKind.min, IntKind.max, IntKind.signed, IntKind.bits] at h; omega
end Go.Vc

namespace Go.Proofs.Ytbpbkmngbhgpfaa
open Go Go.Vc Go.RowKit
theorem okD_flows {l : DT.den (.slc tAFlow)} (h : DT.okD (.slc tAFlow) l) : okF l ∧ l.length ≤ 9223372036854775807 := by
  refine ⟨fun x hx => wf_i64 (h.1 x hx).2.1, ?_⟩
  have := h.2
  rwa [maxLen_eq] at this
theorem turns_true (x0 : DT.den (.slc tAFlow)) (x1 : DT.den (.slc tAFlow)) (o0 : DT.okD (.slc tAFlow) x0) (o1 : DT.okD (.slc tAFlow) x1) : law17_PurseTurns x0 x1 = some true :=
  r_turns (okD_flows o0).1 (okD_flows o1).1 (okD_flows o0).2 (okD_flows o1).2
end Go.Proofs.Ytbpbkmngbhgpfaa

namespace Go.Proofs.Ytbpbkmngbhgpfaa
open Go Go.Vc Go.RowKit
theorem pays_true (x0 : DT.den (.slc tAFlow)) (x1 : DT.den (.slc tAFlow)) (x2 : DT.den tAUnit) (o0 : DT.okD (.slc tAFlow) x0) (o1 : DT.okD (.slc tAFlow) x1) (_ : DT.okD tAUnit x2) : law17_PursePays x0 x1 x2 = some true :=
  r_pays (okD_flows o0).1 (okD_flows o1).1 (okD_flows o0).2 (okD_flows o1).2
theorem moves_true (x0 : DT.den (.slc tAFlow)) (x1 x2 x3 : DT.den tAUnit) (x4 : DT.den (.int .i64)) (o0 : DT.okD (.slc tAFlow) x0) (_ : DT.okD tAUnit x1) (_ : DT.okD tAUnit x2) (_ : DT.okD tAUnit x3) (o4 : DT.okD (.int .i64) x4) : law17_PurseMoves x0 x1 x2 x3 x4 = some true :=
  r_moves (okD_flows o0).1 (wf_i64 o4) (okD_flows o0).2
end Go.Proofs.Ytbpbkmngbhgpfaa

namespace Go.Proofs.Ytbpbkmngbhgpfaa
open Go Go.Vc Go.RowKit Go.ChangeShapes Go.WideShapes Go.ChangeAt Go.Joins

theorem own : ownKnob Try.prog.godebug = none := by kernel_rfl
theorem laidOut : laidOutB Try.prog = true := by kernel_rfl
theorem trod_places {H : Type} {enc : TypeId × Value → H} {w : World} {spare : Nat → Bool} {held : Bool} {t : TypeId} {v : Value} {d : DataW H} {p : List MemPlace} (h : DataW.Trod enc Try.prog w 0 spare held t v d p) : ∀ x ∈ p, x.block < w.heap.size := by
  obtain ⟨m, hm⟩ := h; exact DataW.trod_lt m _ _ _ hm
end Go.Proofs.Ytbpbkmngbhgpfaa

/-! A program's closures over a table of who leads to whom (own work): so that 'recurses' is not reckoned by the kernel function by function. -/
namespace Go.Vc
open Go
def closT (T : List (List Nat)) : Nat → List Nat → List Nat → List Nat
  | 0, _, seen => seen.reverse
  | _, [], seen => seen.reverse
  | n + 1, f :: todo, seen => if seen.contains f then closT T n todo seen else closT T n ((T[f]?).getD [] ++ todo) (f :: seen)
theorem lead_eq {P : Program} {T : List (List Nat)} (hT : P.funcs.toList.map P.leadsTo = T) (f : Nat) : (P.funcs[f]?).elim [] P.leadsTo = (T[f]?).getD [] := by
  subst hT
  rw [List.getElem?_map, Array.getElem?_toList]
  cases P.funcs[f]? <;> rfl
theorem closureVia_eq {P : Program} {T : List (List Nat)} (hT : P.funcs.toList.map P.leadsTo = T) : ∀ n todo seen, P.closureVia n todo seen = closT T n todo seen
  | 0, _, _ => by simp only [Program.closureVia, closT]
  | n + 1, [], _ => by simp only [Program.closureVia, closT]
  | n + 1, f :: todo, seen => by
    simp only [Program.closureVia, closT]
    rw [closureVia_eq hT n, closureVia_eq hT n, lead_eq hT f]
theorem closure_eq {P : Program} {T : List (List Nat)} (hT : P.funcs.toList.map P.leadsTo = T) (f : Nat) : P.closure f = closT T (1 + (T.map fun l => l.length + 1).sum) [f] [] := by
  unfold Program.closure
  rw [closureVia_eq hT]
  subst hT
  rw [List.map_map]; rfl
theorem mem_closT {T : List (List Nat)} {p : Nat → Prop} (hp : ∀ x, p x → ∀ y ∈ (T[x]?).getD [], p y) : ∀ n todo seen, (∀ x ∈ todo, p x) → (∀ x ∈ seen, p x) → ∀ x ∈ closT T n todo seen, p x
  | 0, _, _, _, hs => by intro x hx; simp only [closT] at hx; exact hs x (by simpa using hx)
  | n + 1, [], _, _, hs => by intro x hx; simp only [closT] at hx; exact hs x (by simpa using hx)
  | n + 1, f :: todo, seen, ht, hs => by
    intro x hx
    simp only [closT] at hx
    split at hx
    · exact mem_closT hp n todo seen (fun y hy => ht y (by simp [hy])) hs x hx
    · refine mem_closT hp n _ _ (fun y hy => ?_) (fun y hy => ?_) x hx
      · rcases List.mem_append.1 hy with h | h
        · exact hp f (ht f (by simp)) y h
        · exact ht y (by simp [h])
      · rcases List.mem_cons.1 hy with rfl | h
        · exact ht y (by simp)
        · exact hs y h
/-- a rank that falls along every call (0: not ranked) -/
def okRk (T : List (List Nat)) (rk : List Nat) : Bool :=
  (List.range T.length).all fun g => (rk[g]?).getD 0 == 0 || ((T[g]?).getD []).all fun h => decide (0 < (rk[h]?).getD 0) && decide ((rk[h]?).getD 0 < (rk[g]?).getD 0)
theorem okRk_at {T : List (List Nat)} {rk : List Nat} (h : okRk T rk = true) {g y : Nat} (hg : 0 < (rk[g]?).getD 0) (hy : y ∈ (T[g]?).getD []) : 0 < (rk[y]?).getD 0 ∧ (rk[y]?).getD 0 < (rk[g]?).getD 0 := by
  have hlt : g < T.length := by
    rcases Nat.lt_or_ge g T.length with h1 | h1
    · exact h1
    · rw [List.getElem?_eq_none h1] at hy; cases hy
  have := List.all_eq_true.1 h g (List.mem_range.2 hlt)
  simp only [Bool.or_eq_true, beq_iff_eq, List.all_eq_true, Bool.and_eq_true, decide_eq_true_eq] at this
  rcases this with h0 | h0
  · omega
  · exact h0 y hy
theorem recurses_no {P : Program} {T : List (List Nat)} {rk : List Nat} {f : Nat} (hT : P.funcs.toList.map P.leadsTo = T) (hk : okRk T rk = true) (hf : 0 < (rk[f]?).getD 0) (hu : P.unfollowed f = false) : P.recurses f = false := by
  unfold Program.recurses
  rw [hu, Bool.false_or, List.any_eq_false]
  intro g hg
  rw [closure_eq hT] at hg
  have hg0 : 0 < (rk[g]?).getD 0 := mem_closT (p := fun x => 0 < (rk[x]?).getD 0) (fun x hx y hy => (okRk_at hk hx hy).1) _ _ _ (by intro x hx; simp only [List.mem_singleton] at hx; subst hx; exact hf) (by intro x hx; cases hx) g hg
  simp only [Bool.not_eq_true, List.any_eq_false]
  intro h hh
  rw [lead_eq hT] at hh
  obtain ⟨h1, h2⟩ := okRk_at hk hg0 hh
  rw [closure_eq hT]
  cases hc : (closT T (1 + (T.map fun l => l.length + 1).sum) [h] []).contains g with
  | false => rfl
  | true =>
    have hm := List.contains_iff_mem.1 hc
    have := mem_closT (p := fun x => 0 < (rk[x]?).getD 0 ∧ (rk[x]?).getD 0 ≤ (rk[h]?).getD 0) (fun x hx y hy => by have := okRk_at hk hx.1 hy; exact ⟨this.1, by omega⟩) _ _ _ (by intro x hx; simp only [List.mem_singleton] at hx; subst hx; exact ⟨h1, Nat.le_refl _⟩) (by intro x hx; cases hx) g hm
    omega
end Go.Vc

namespace Go.Proofs.Ytbpbkmngbhgpfaa
open Go Go.Vc
def leadsT : List (List Nat) := [[], [], [1], [11, 11, 12, 12, 13, 14], [11, 11, 15, 16, 17, 18, 19, 21, 22, 20, 12, 23, 13, 14], [11, 24, 17, 14, 23, 13, 14, 18, 18, 15, 15, 16, 14], [25, 26, 27, 11, 28, 29, 30, 31, 32, 33, 13, 13, 34], [25, 27, 11, 32, 34, 32, 13, 34], [25, 27, 11, 35, 36, 34, 30, 34, 22, 20, 16, 32, 22, 22, 20, 34], [37, 38, 39, 40, 39, 40, 41, 18, 43, 18, 43, 42, 44, 20, 40], [37, 38, 39, 46, 45, 40, 36, 36, 15, 15, 47, 49, 49, 48, 18, 18, 39, 46, 46, 45, 39, 18, 18, 40], [], [16, 50, 51, 53, 52], [], [24, 18, 18, 16], [54, 55], [56], [57], [], [], [42], [43, 59, 58], [43, 58], [17, 60, 43, 58, 61, 62, 62], [63, 16, 12], [64], [], [26], [65, 66, 55, 67], [68, 69, 62], [35, 28], [70, 69, 62], [16, 30, 12], [17, 31, 23], [28], [65, 56], [72, 71], [27, 11], [], [47, 73, 74, 75, 24], [39, 18, 18, 49, 48], [48], [76, 58], [59, 59, 77], [43, 43, 78, 43, 43, 42, 78], [41, 13], [], [35, 16], [], [79], [80], [81, 82], [54, 55, 83], [], [], [84, 85], [], [], [77, 86, 87, 88, 86, 88, 86], [], [57], [89], [], [54, 54, 90, 83], [91], [], [92, 94, 93], [54], [], [95, 44, 58, 61], [68, 57], [96], [97, 54, 55], [98], [98, 99, 99, 94, 93, 67], [35, 100, 101, 101], [86], [], [77, 86], [], [], [103, 102], [56, 56], [67], [104, 104], [105], [], [], [], [59, 58], [84, 84, 54, 84, 85], [106, 95], [107, 108], [109, 54, 109, 110, 110, 104, 112, 111, 105], [54, 54, 109, 109, 110, 112, 112, 111], [], [114, 115, 113], [], [99, 99, 116, 117], [], [118, 63], [35, 49, 119, 120, 121, 122, 123], [124, 125, 126, 127, 128, 129, 130, 131, 102, 102], [132, 133], [], [], [134, 134], [136, 135], [137], [112, 138, 138], [], [138, 138], [], [], [139, 139], [140, 140], [141], [], [65], [142, 118, 97, 52], [56], [79], [], [143, 144], [], [145, 145], [146, 147], [148, 148, 148, 149], [], [], [], [], [], [], [], [], [], [], [], [], [], [], [150], [], [151], [], [103], [], [149], [152, 152, 152], [], [153, 153, 153], [], [], [], [], [], [], [], [], [], [], [], [], [], [], [], [], [], [], []]
def rankT : List Nat := [1, 1, 2, 0, 0, 0, 0, 0, 0, 0, 0, 1, 0, 1, 0, 4, 2, 2, 1, 1, 4, 3, 3, 5, 0, 5, 1, 2, 5, 6, 6, 6, 0, 7, 6, 2, 5, 3, 1, 0, 0, 2, 3, 2, 4, 3, 1, 3, 1, 2, 2, 0, 4, 1, 1, 3, 1, 1, 2, 1, 2, 4, 1, 4, 4, 1, 4, 2, 1, 5, 2, 4, 4, 4, 4, 7, 2, 1, 2, 1, 1, 0, 2, 3, 2, 2, 1, 1, 1, 3, 3, 3, 3, 3, 3, 1, 3, 1, 3, 1, 5, 6, 0, 2, 1, 1, 2, 2, 2, 2, 1, 2, 1, 1, 2, 2, 2, 1, 2, 5, 2, 2, 1, 4, 1, 2, 4, 4, 1, 1, 1, 1, 1, 1, 1, 1, 1, 1, 1, 1, 1, 1, 2, 1, 3, 1, 3, 1, 3, 2, 1, 2, 1, 1, 1, 1, 1, 1, 1, 1, 1, 1, 1, 1, 1, 1, 1, 1, 1, 1, 1]
set_option maxRecDepth 1000000 in
theorem leads_ok : Try.prog.funcs.toList.map Try.prog.leadsTo = leadsT := by kernel_rfl
set_option maxRecDepth 1000000 in
theorem rank_ok : okRk leadsT rankT = true := by kernel_rfl
end Go.Proofs.Ytbpbkmngbhgpfaa
