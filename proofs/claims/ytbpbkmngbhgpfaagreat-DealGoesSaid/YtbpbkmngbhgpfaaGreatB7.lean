import Derived.Test.YtbpbkmngbhgpfaaGreatB6
import Derived.Test.YtbpbkmngbhgpfaaGreatRows
import Derived.JoinedOf
namespace Go.Proofs.YtbpbkmngbhgpfaaGreat
open Go Go.Vc Go.RowKit
def szOf (z : Int) : zmi := (z / 18446744073709551616, z % 18446744073709551616, ())
def w128 (z : Int) : zad := (IntKind.i64.wrap (z / 18446744073709551616), z % 18446744073709551616, ())
theorem w128_in (z : Int) (h : In128 z) : w128 z = wide z := by
 unfold In128 at h; unfold w128 wide; rw [IntWalk.i64_in _ (by omega)]
def absI (z : Int) : Int := if z < 0 then -z else z
theorem zow (w : zad) : zbi w = some (decide (w.1 < 0)) := rfl
theorem r_size (x : zad) (hx : wOk x) : zcu x = some (szOf (absI (wv x))) := by
 unfold wOk at hx
 show zef stdW x = _
 unfold zef
 rw [zaa (zow _)]
 by_cases h : x.1 < 0
 ·rw [cnd_n (by simp [h]), zaa (zvo (by omega) (by omega) (by omega) (by omega) (by omega)), zaa (zvo (by omega) (by rw [IntKind.wrap_u64]; omega) (by rw [IntKind.wrap_u64]; omega) (by dsimp only; split <;> omega) (by dsimp only; split <;> omega))]
  unfold szOf absI wv
  refine congrArg some (Prod.ext ?_ (Prod.ext ?_ rfl))
  ·dsimp only; rw [IntKind.wrap_u64]; split <;> split <;> omega
  ·dsimp only; split <;> omega
 ·rw [cnd_y (by simp [h])]
  unfold szOf absI wv
  refine congrArg some (Prod.ext ?_ (Prod.ext ?_ rfl))
  ·dsimp only; rw [IntKind.wrap_u64]; split <;> omega
  ·dsimp only; split <;> omega
theorem lo_fits (z : Int) (hz : 0 ≤ z ∧ z < 340282366920938463463374607431768211456) (h : z / 18446744073709551616 = 9223372036854775808) : ((z % 18446744073709551616) == 0) = decide (In128 (-z)) := by
 by_cases h0 : z % 18446744073709551616 = 0
 ·have : In128 (-z) := by unfold In128; omega
  rw [decide_eq_true this]; simp [h0]
 ·have : ¬ In128 (-z) := by unfold In128; omega
  rw [decide_eq_false this]; simp [h0]
theorem signed_raw (hi lo : Int) (m : Bool) : zaz (hi, lo, ()) m = (
  stdW.cnd (!m) (some (((IntKind.i64.wrap hi), lo, ()), ((decide (hi < 9223372036854775808)), ())))
  (stdW.call (sub64 0 lo 0) fun v1 => stdW.call (sub64 0 hi v1.2.1) fun v2 =>
  stdW.cnd (decide (hi < 9223372036854775808)) (some (((IntKind.i64.wrap v2.1), (v1.1, ())), (true, ())))
   (
   stdW.cnd (hi == 9223372036854775808) (some (((IntKind.i64.wrap v2.1), (v1.1, ())), ((lo == 0), ())))
   (some (((IntKind.i64.wrap v2.1), (v1.1, ())), (false, ())))))) := rfl
theorem r_signed (z : Int) (m : Bool) (hz : 0 ≤ z ∧ z < 340282366920938463463374607431768211456) : zaz (szOf z) m = some (w128 (if m = true then -z else z), decide (In128 (if m = true then -z else z)), ()) := by
 unfold szOf
 rw [signed_raw]
 cases m
 ·rw [cnd_y (by rfl)]
  simp only [Bool.false_eq_true, if_false]
  unfold w128
  congr 3
  unfold In128; apply decide_eq_decide.2; omega
 ·rw [cnd_n (by rfl), zaa (zvo (by omega) (by omega) (by omega) (by omega) (by omega)), zaa (zvo (by omega) (by omega) (by omega) (by dsimp only; split <;> omega) (by dsimp only; split <;> omega))]
  have e : ((IntKind.i64.wrap ((0 - z / 18446744073709551616 - (if 0 < z % 18446744073709551616 + 0 then 1 else 0)) % 18446744073709551616), ((0 - z % 18446744073709551616 - 0) % 18446744073709551616, ())) : zad) = w128 (-z) := by
   rw [zsi]; unfold w128
   refine Prod.ext ?_ (Prod.ext ?_ rfl)
   ·dsimp only; congr 1; split <;> omega
   ·dsimp only; omega
  show _ = some (w128 (-z), decide (In128 (-z)), ())
  rw [← e]
  by_cases h1 : z / 18446744073709551616 < 9223372036854775808
  ·rw [cnd_y (decide_eq_true h1)]
   have : In128 (-z) := by unfold In128; omega
   rw [decide_eq_true this]
  ·rw [cnd_n (decide_eq_false h1)]
   by_cases h2 : z / 18446744073709551616 = 9223372036854775808
   ·rw [cnd_y (by simp [h2]), lo_fits z hz h2]
   ·rw [cnd_n (by simp [h2])]
    have : ¬ In128 (-z) := by unfold In128; omega
    rw [decide_eq_false this]
theorem and32 (a : Int) (h : 0 ≤ a ∧ a < 18446744073709551616) : bits .and .u64 a 4294967295 = a % 4294967296 := by
 obtain ⟨n, rfl⟩ := Int.eq_ofNat_of_zero_le h.1
 show IntKind.u64.wrap (((BitVec.ofInt 64 ((n : Nat) : Int) &&& BitVec.ofInt 64 4294967295).toNat : Nat) : Int) = _
 rw [BitVec.toNat_and, BitVec.toNat_ofInt, BitVec.toNat_ofInt]
 have e1 : (((n : Nat) : Int) % ((2 ^ 64 : Nat) : Int)).toNat = n := by
  have : ((2 ^ 64 : Nat) : Int) = 18446744073709551616 := by decide
  omega
 have e2 : ((4294967295 : Int) % ((2 ^ 64 : Nat) : Int)).toNat = 2 ^ 32 - 1 := by decide
 rw [e1, e2, Nat.and_two_pow_sub_one_eq_mod, IntKind.wrap_u64]
 have : (2 : Nat) ^ 32 = 4294967296 := by decide
 rw [this]; omega
theorem fdiv32 (a : Int) (h : 0 ≤ a) : Int.fdiv a (2 ^ (Min.min (Int.toNat 32) (IntKind.bits .u64))) = a / 4294967296 := by
 have e : (2 : Int) ^ (Min.min (Int.toNat 32) (IntKind.bits .u64)) = 4294967296 := by decide +kernel
 rw [e, Int.fdiv_eq_ediv_of_nonneg _ (by omega)]
theorem mul_bd {a b : Int} (ha : 0 ≤ a ∧ a < 4294967296) (hb : 0 ≤ b ∧ b < 4294967296) : 0 ≤ a * b ∧ a * b ≤ 18446744065119617025 := by
 refine ⟨Int.mul_nonneg ha.1 hb.1, ?_⟩
 have h1 : a * b ≤ 4294967295 * b := Int.mul_le_mul_of_nonneg_right (by omega) hb.1
 omega
theorem r_mul64 {x y : Int} (hx : 0 ≤ x ∧ x < 18446744073709551616) (hy : 0 ≤ y ∧ y < 18446744073709551616) : zca x y = some (x * y / 18446744073709551616, x * y % 18446744073709551616, ()) := by
 show zdn stdW x y = _
 unfold zdn
 rw [nn_w (by omega), nn_w (by omega), nn_w (by omega), nn_w (by omega), nn_w (by omega)]
 simp only [fdiv32 x hx.1, fdiv32 y hy.1, and32 x hx, and32 y hy]
 have hx1 : 0 ≤ x / 4294967296 ∧ x / 4294967296 < 4294967296 := by omega
 have hx0 : 0 ≤ x % 4294967296 ∧ x % 4294967296 < 4294967296 := by omega
 have hy1 : 0 ≤ y / 4294967296 ∧ y / 4294967296 < 4294967296 := by omega
 have hy0 : 0 ≤ y % 4294967296 ∧ y % 4294967296 < 4294967296 := by omega
 have ex : x = x / 4294967296 * 4294967296 + x % 4294967296 := by omega
 have ey : y = y / 4294967296 * 4294967296 + y % 4294967296 := by omega
 have exy : x * y = (x / 4294967296) * (y / 4294967296) * 18446744073709551616 + ((x / 4294967296) * (y % 4294967296) + (x % 4294967296) * (y / 4294967296)) * 4294967296 + (x % 4294967296) * (y % 4294967296) := by
  generalize x / 4294967296 = x1 at *
  generalize x % 4294967296 = x0 at *
  generalize y / 4294967296 = y1 at *
  generalize y % 4294967296 = y0 at *
  rw [ex, ey, Int.add_mul, Int.mul_add, Int.mul_add]
  have a1 : x1 * 4294967296 * (y1 * 4294967296) = x1 * y1 * 18446744073709551616 := by
   rw [Int.mul_assoc, Int.mul_left_comm 4294967296, ← Int.mul_assoc]; rfl
  have a2 : x1 * 4294967296 * y0 = x1 * y0 * 4294967296 := by rw [Int.mul_assoc, Int.mul_comm 4294967296, ← Int.mul_assoc]
  have a3 : x0 * (y1 * 4294967296) = x0 * y1 * 4294967296 := by rw [← Int.mul_assoc]
  rw [a1, a2, a3, Int.add_mul]; omega
 have hD := mul_bd hx1 hy1
 have hB := mul_bd hx1 hy0
 have hC := mul_bd hx0 hy1
 have hA := mul_bd hx0 hy0
 rw [exy]
 generalize (x / 4294967296) * (y / 4294967296) = D at *
 generalize (x / 4294967296) * (y % 4294967296) = B at *
 generalize (x % 4294967296) * (y / 4294967296) = C at *
 generalize (x % 4294967296) * (y % 4294967296) = A at *
 have w1 : IntKind.u64.wrap A = A := by rw [IntKind.wrap_u64]; omega
 have w2 : IntKind.u64.wrap B = B := by rw [IntKind.wrap_u64]; omega
 have w3 : IntKind.u64.wrap C = C := by rw [IntKind.wrap_u64]; omega
 have w4 : IntKind.u64.wrap D = D := by rw [IntKind.wrap_u64]; omega
 rw [w1, w2, w3, w4, fdiv32 A (by omega)]
 have w5 : IntKind.u64.wrap (B + A / 4294967296) = B + A / 4294967296 := by rw [IntKind.wrap_u64]; omega
 rw [w5, fdiv32 _ (by omega), and32 _ (by omega)]
 have w6 : IntKind.u64.wrap ((B + A / 4294967296) % 4294967296 + C) = (B + A / 4294967296) % 4294967296 + C := by rw [IntKind.wrap_u64]; omega
 rw [w6, fdiv32 _ (by omega)]
 have w7 : IntKind.u64.wrap (D + (B + A / 4294967296) / 4294967296) = D + (B + A / 4294967296) / 4294967296 := by rw [IntKind.wrap_u64]; omega
 rw [w7, IntKind.wrap_u64, IntKind.wrap_u64]
 congr 1
 refine Prod.ext ?_ (Prod.ext ?_ rfl)
 ·show (D + (B + A / 4294967296) / 4294967296 + ((B + A / 4294967296) % 4294967296 + C) / 4294967296) % 18446744073709551616 = _; omega
 ·first | rfl | (show _ % 18446744073709551616 = _; omega)
end Go.Proofs.YtbpbkmngbhgpfaaGreat

namespace Go.Proofs.YtbpbkmngbhgpfaaGreat
open Go Go.Vc Go.RowKit
theorem zsf (a b : Int) : (if (decide (a < 0) != decide (b < 0)) = true then -(absI a * absI b) else absI a * absI b) = a * b := by
 unfold absI
 by_cases ha : a < 0 <;> by_cases hb : b < 0 <;> simp [ha, hb, Int.neg_mul, Int.mul_neg]
theorem abs_bd {a : Int} (h : I64 a) : 0 ≤ absI a ∧ absI a ≤ 9223372036854775808 := by unfold I64 at h; unfold absI; split <;> omega
theorem prod_bd {a b A B : Int} (ha : 0 ≤ a ∧ a ≤ A) (hb : 0 ≤ b ∧ b ≤ B) : 0 ≤ a * b ∧ a * b ≤ A * B :=
 ⟨Int.mul_nonneg ha.1 hb.1, Int.mul_le_mul ha.2 hb.2 hb.1 (by omega)⟩
theorem wide_lt0 (z : Int) : decide ((wide z).1 < 0) = decide (z < 0) := by
 refine decide_eq_decide.2 ?_
 show z / 18446744073709551616 < 0 ↔ _; omega
theorem both_of {β : Type} {a b r : Option β} (ha : a = r) (hb : b = r) : stdW.both a b = r := by rw [ha, hb]; exact both_w r
theorem r_wMul {a b : Int} (ha : I64 a) (hb : I64 b) : zvi a b = some (wide (a * b)) := by
 show zpp stdW a b = _
 unfold zpp
 have xa := abs_bd ha
 have xb := abs_bd hb
 have s1 := r_size (wide a) (zkx a (zpd ha))
 have s2 := r_size (wide b) (zkx b (zpd hb))
 rw [zku] at s1 s2
 have hp := prod_bd xa xb
 have m1 : zca (szOf (absI a)).2.1 (szOf (absI b)).2.1 = some (szOf (absI a * absI b)) := by
  show zca (absI a % 18446744073709551616) (absI b % 18446744073709551616) = _
  rw [Int.emod_eq_of_lt xa.1 (by omega), Int.emod_eq_of_lt xb.1 (by omega), r_mul64 (by omega) (by omega)]; rfl
 rw [zaa (r_wOf a ha), zaa (r_wOf b hb), zaa s1, zaa s2, zaa m1]
 have hz : 0 ≤ absI a * absI b ∧ absI a * absI b < 340282366920938463463374607431768211456 := by
  have : (9223372036854775808 : Int) * 9223372036854775808 = 85070591730234615865843651857942052864 := by decide
  omega
 have g : (stdW.call (zaz (szOf (absI a * absI b)) (notIf true (decide ((wide a).1 < 0) == decide ((wide b).1 < 0)))) fun v8 => some v8.1) = some (wide (a * b)) := by
  have e1 : notIf true (decide (a < 0) == decide (b < 0)) = (decide (a < 0) != decide (b < 0)) := by rw [nif_t]; rfl
  rw [wide_lt0, wide_lt0, e1, zaa (r_signed _ _ hz), zsf]
  show some (w128 (a * b)) = _
  rw [w128_in]
  have := zsf a b
  have h2 : (9223372036854775808 : Int) * 9223372036854775808 = 85070591730234615865843651857942052864 := by decide
  unfold In128
  split at this <;> omega
 refine both_of ?_ ?_
 ·rw [zaa (zow _)]
  refine both_of ?_ ?_
  ·rw [zaa (zow _), both_w]; exact g
  ·rw [zaa (zow _)]; exact g
 ·rw [zaa (zow _), zaa (zow _)]; exact g
theorem r_wTimes {v n : Int} (hv : I64 v) (hn : I64 n) : zsk (wide v) n = some (wide (v * n), 0, ()) := by
 show ziw stdW (wide v) n = _
 unfold ziw
 have xa := abs_bd hv
 have xb := abs_bd hn
 have s1 := r_size (wide v) (zkx v (zpd hv))
 have s2 := r_size (wide n) (zkx n (zpd hn))
 rw [zku] at s1 s2
 have hp := prod_bd xa xb
 have hc : (9223372036854775808 : Int) * 9223372036854775808 = 85070591730234615865843651857942052864 := by decide
 have e0 : (szOf (absI v)).1 = 0 := by show absI v / 18446744073709551616 = 0; omega
 have e1 : (szOf (absI v)).2.1 = absI v := by show absI v % 18446744073709551616 = _; omega
 have e2 : (szOf (absI n)).2.1 = absI n := by show absI n % 18446744073709551616 = _; omega
 rw [zaa s1, zaa (r_wOf n hn), zaa s2, e0, e1, e2, zaa (r_mul64 (x := 0) (by omega) (by omega)), zaa (r_mul64 (x := absI v) (by omega) (by omega)), Int.zero_mul]
 have a1 : add64 (0 % 18446744073709551616 : Int) (absI v * absI n / 18446744073709551616) 0 = some (absI v * absI n / 18446744073709551616, 0, ()) := by
  rw [add64_is (by omega) (by omega) (by omega) (by omega)]
  congr 1
  refine Prod.ext ?_ (Prod.ext ?_ rfl)
  ·show ((0 : Int) % 18446744073709551616 + absI v * absI n / 18446744073709551616 + 0) % 18446744073709551616 = absI v * absI n / 18446744073709551616; omega
  ·show ((0 : Int) % 18446744073709551616 + absI v * absI n / 18446744073709551616 + 0) / 18446744073709551616 = 0; omega
 show stdW.call (add64 (0 % 18446744073709551616 : Int) (absI v * absI n / 18446744073709551616) 0) _ = _
 rw [zaa a1, zaa (zow _), wide_lt0]
 have e3 : notIf true (decide (v < 0) == decide (n < 0)) = (decide (v < 0) != decide (n < 0)) := by rw [nif_t]; rfl
 show stdW.call (zaz (szOf (absI v * absI n)) (notIf true (decide (v < 0) == decide (n < 0)))) _ = _
 have hI : In128 (v * n) := by
  have := zsf v n
  unfold In128
  split at this <;> omega
 rw [e3, zaa (r_signed _ _ (by omega)), zsf]
 show stdW.cnd (decide (In128 (v * n))) (stdW.cnd ((0 / 18446744073709551616 : Int) == 0) (stdW.call (zdr (w128 (v * n)) ((0 : Int) == 0)) fun v9 => some v9) _) _ = _
 rw [cnd_y (decide_eq_true hI), cnd_y (by decide), zaa (r_ranged _ _), w128_in _ hI]
 rfl
theorem nilq_w {β : Type} (e : Bool) (f : Bool → Option β) : stdW.nilq e f = nilF e f := rfl
end Go.Proofs.YtbpbkmngbhgpfaaGreat

namespace Go.Proofs.YtbpbkmngbhgpfaaGreat
open Go Go.Vc Go.RowKit
theorem loop_P {X β : Type} {f : X → (X → Option β) → Option β} (Q : Option β → Prop) (μ : X → Nat) (R : X → Prop) {z : X} (hz : R z) (hm : μ z < 18446744073709551616)
  (h : ∀ z, R z → ∀ again : X → Option β, (∀ z', R z' → μ z' < μ z → Q (again z')) → Q (f z again)) : Q (stdW.loop f z) := by
 have key : ∀ n z, R z → μ z < n → Q (loopF n f z) := by
  intro n
  induction n with
  | zero => intro z _ h; omega
  | succ n ih => intro z hz hm; exact h z hz _ fun z' hz' hm' => ih z' hz' (by omega)
 exact key FU z hz (by rw [FU_eq]; exact hm)
theorem loop_ai {X β : Type} {N : Nat} (hN : N < 9223372036854775808) {f : X → (X → Option β) → Option β} (st : Nat → X) (Inv : Nat → Prop) (r : Option β) {z0 : X} (hz : z0 = st 0) (h0 : Inv 0)
  (hend : Inv N → ∀ again : X → Option β, f (st N) again = r) (hstep : ∀ i, i < N → Inv i → ∀ again : X → Option β, (Inv (i + 1) → again (st (i + 1)) = r) → f (st i) again = r) : stdW.loop f z0 = r := by
 subst hz
 have key : ∀ n i, i ≤ N → N - i < n → Inv i → loopF n f (st i) = r := by
  intro n
  induction n with
  | zero => intro i _ h; omega
  | succ n ih =>
   intro i hi hn hv
   show f (st i) (loopF n f) = r
   by_cases h : i < N
   ·exact hstep i h hv _ fun hv' => ih (i + 1) (by omega) (by omega) hv'
   ·have : i = N := by omega
    subst this; exact hend hv _
 show loopF FU f (st 0) = r
 exact key FU 0 (Nat.zero_le _) (by rw [FU_eq]; omega) h0
theorem join_gP {X β : Type} {Q : Option β → Prop} {k0 : X → Option β} {f : (X → Option β) → Option β} (h : ∀ k, k = k0 → Q (f k)) : Q (stdW.join k0 f) := h k0 rfl
theorem r_price (p : Int) : zjh p = some (decide (0 ≤ p ∧ p < 2147483648)) := by
 show zhb stdW p = _
 unfold zhb
 by_cases h : 0 ≤ p
 ·rw [cnd_y (decide_eq_true h)]; congr 1; exact decide_eq_decide.2 (by omega)
 ·rw [cnd_n (decide_eq_false h), decide_eq_false (by omega)]
end Go.Proofs.YtbpbkmngbhgpfaaGreat

namespace Go.Proofs.YtbpbkmngbhgpfaaGreat
open Go Go.Vc Go.RowKit
abbrev Leg := AUnit'
def VInv (l : List Leg) : Prop := (∀ x ∈ l, (1 ≤ x.1 ∧ x.1 ≤ 8) ∧ x.2.1 ≠ 0) ∧ (l.map (·.1)).Pairwise (· < ·)
instance (l : List Leg) : Decidable (VInv l) := by unfold VInv; infer_instance
def isV (l : List Leg) : Bool := decide (VInv l)
theorem ztp {l : List Leg} {i : Nat} (hi : i < l.length) (h : ¬ ((1 ≤ l[i].1 ∧ l[i].1 ≤ 8) ∧ l[i].2.1 ≠ 0)) : isV l = false :=
 decide_eq_false fun hp => h (hp.1 _ (List.getElem_mem hi))
theorem isV_bad1 {l : List Leg} {i : Nat} (hi : i < l.length) (h0 : 0 < i) (h : ¬ (l[i - 1]'(by omega)).1 < l[i].1) : isV l = false :=
 decide_eq_false fun hp => h (by
  have := List.pairwise_iff_getElem.1 hp.2 (i - 1) i (by simp; omega) (by simpa using hi) (by omega)
  simpa using this)
theorem isV_next {l : List Leg} {i : Nat} (hi : i < l.length) (inv : VInv (l.take i)) (h1 : (1 ≤ l[i].1 ∧ l[i].1 ≤ 8) ∧ l[i].2.1 ≠ 0) (h2 : ∀ h0 : 0 < i, (l[i - 1]'(by omega)).1 < l[i].1) : VInv (l.take (i + 1)) := by
 rw [List.take_succ_eq_append_getElem hi]
 refine ⟨fun x hx => ?_, ?_⟩
 ·rcases List.mem_append.1 hx with hx | hx
  ·exact inv.1 x hx
  ·simp only [List.mem_singleton] at hx; rw [hx]; exact h1
 ·show ((l.take i ++ [l[i]]).map (·.1)).Pairwise (· < ·)
  rw [List.map_append]
  refine List.pairwise_append.2 ⟨inv.2, by simp, fun a ha b hb => ?_⟩
  simp only [List.map_cons, List.map_nil, List.mem_singleton] at hb
  subst hb
  obtain ⟨k, hk, hka⟩ := List.mem_iff_getElem.1 ha
  have hk' : k < i := by simp at hk; omega
  have h3 := h2 (by omega)
  by_cases hki : k = i - 1
  ·subst hki; rw [← hka]; simpa using h3
  ·have h4 := List.pairwise_iff_getElem.1 inv.2 k (i - 1) (by simpa using hk) (by simp; omega) (by omega)
   rw [hka] at h4
   refine Int.lt_trans h4 ?_
   simpa using h3
theorem isV_end {l : List Leg} (h : VInv (l.take l.length)) : isV l = true := by rw [List.take_length] at h; exact decide_eq_true h
def lastV (l : List Leg) (i : Nat) : Int := if h : 0 < i ∧ i ≤ l.length then (l[i - 1]'(by omega)).1 else 0
theorem lastV_s {l : List Leg} {i : Nat} (h : i < l.length) : lastV l (i + 1) = l[i].1 := by
 unfold lastV; rw [dif_pos ⟨by omega, by omega⟩]; rfl
theorem r_isV {l : List Leg} (hl : l.length ≤ 1000000) : vec_Is l = some (isV l) := by
 show vec_IsW stdW l = _
 unfold vec_IsW
 refine loop_ai (N := l.length) (by omega) (fun i => (lastV l i, ((i : Int), ()))) (fun i => VInv (l.take i)) (some (isV l)) (by unfold lastV; simp) (by simp [VInv]) ?_ ?_
 ·intro h again
  show stdW.cnd (decide ((l.length : Int) < (l.length : Int))) _ _ = _
  rw [zbg, isV_end h]
 ·intro i hi inv again ha
  show stdW.cnd (decide ((i : Int) < (l.length : Int))) (stdW.idx l (i : Int) _) _ = _
  rw [cnd_lt hi, idx_w hi]
  refine join_g fun k hk => ?_
  have kt : k (true, ()) = some false := by subst hk; rfl
  have kf : k (false, ()) = again (lastV l (i + 1), (((i + 1 : Nat) : Int), ())) := by rw [← i64_s i (by omega), lastV_s hi]; subst hk; rfl
  clear hk
  show stdW.cnd (decide (l[i].1 ≤ lastV l i)) _ _ = _
  by_cases h1 : l[i].1 ≤ lastV l i
  ·rw [cnd_y (decide_eq_true h1), kt]
   unfold lastV at h1
   by_cases h0 : 0 < i
   ·rw [dif_pos ⟨h0, by omega⟩] at h1
    rw [isV_bad1 hi h0 (by omega)]
   ·rw [dif_neg (by omega)] at h1
    rw [ztp hi (by omega)]
  ·rw [cnd_n (decide_eq_false h1)]
   by_cases h2 : 8 < l[i].1
   ·rw [cnd_y (decide_eq_true h2), kt, ztp hi (by omega)]
   ·rw [cnd_n (decide_eq_false h2)]
    by_cases h3 : l[i].2.1 = 0
    ·rw [show (l[i].2.1 == 0) = true by simpa using h3, kt, ztp hi (by simp [h3])]
    ·rw [show (l[i].2.1 == 0) = false by simpa using h3, kf]
     have hpos : 1 ≤ l[i].1 := by
      unfold lastV at h1
      by_cases h0 : 0 < i
      ·rw [dif_pos ⟨h0, by omega⟩] at h1
       have := (inv.1 (l[i - 1]'(by omega)) (List.mem_iff_getElem.2 ⟨i - 1, by simp; omega, by simp⟩)).1.1
       omega
      ·rw [dif_neg (by omega)] at h1; omega
     refine ha (isV_next hi inv ⟨⟨hpos, by omega⟩, h3⟩ fun h0 => ?_)
     unfold lastV at h1
     rw [dif_pos ⟨h0, by omega⟩] at h1; omega
theorem r_isV11 {l : List Leg} (hl : l.length ≤ 1000000) : zqv l = some (isV l) := by
 show zqu stdW l = _
 unfold zqu
 refine loop_n (N := l.length) (by omega) (fun i _ => VInv (l.take i)) (some (isV l)) (by simp [VInv]) ?_ ?_
 ·rintro _ again h
  rw [zbg, isV_end h]
 ·rintro i hi _ inv again ha
  rw [cnd_lt hi]
  refine join_g fun k hk => ?_
  have kt : k (true, ()) = some false := by subst hk; rfl
  have kf : k (false, ()) = again (((i + 1 : Nat) : Int), ()) := by rw [← i64_s i (by omega)]; subst hk; rfl
  clear hk
  rw [idx_w hi]
  by_cases h1 : l[i].1 < 1
  ·rw [cnd_y (decide_eq_true h1), kt, ztp hi (by omega)]
  rw [cnd_n (decide_eq_false h1), idx_w hi]
  by_cases h2 : 8 < l[i].1
  ·rw [cnd_y (decide_eq_true h2), kt, ztp hi (by omega)]
  rw [cnd_n (decide_eq_false h2), idx_w hi]
  by_cases h3 : l[i].2.1 = 0
  ·rw [cnd_y (by simpa using h3), kt, ztp hi (by simp [h3])]
  rw [cnd_n (by simpa using h3)]
  by_cases h0 : 0 < i
  ·rw [cnd_y (decide_eq_true (by omega)), zhm i h0 (by rw [zam]; omega), idx_w (by omega), idx_w hi]
   by_cases h4 : l[i].1 ≤ (l[i - 1]'(by omega)).1
   ·rw [decide_eq_true h4, kt, isV_bad1 hi h0 (by omega)]
   ·rw [decide_eq_false h4, kf]
    exact ha _ (isV_next hi inv ⟨by omega, h3⟩ fun _ => by omega)
  ·rw [cnd_n (decide_eq_false (by omega)), kf]
   exact ha _ (isV_next hi inv ⟨by omega, h3⟩ fun h => absurd h h0)
theorem mul_abs {a b A B : Int} (ha : -A ≤ a ∧ a ≤ A) (hb : -B ≤ b ∧ b ≤ B) : -(A * B) ≤ a * b ∧ a * b ≤ A * B := by
 have h1 : a.natAbs ≤ A.toNat := by omega
 have h2 : b.natAbs ≤ B.toNat := by omega
 have h3 : (a * b).natAbs ≤ A.toNat * B.toNat := by rw [Int.natAbs_mul]; exact Nat.mul_le_mul h1 h2
 have h4 : ((A.toNat * B.toNat : Nat) : Int) = A * B := by
  rw [Int.natCast_mul, Int.toNat_of_nonneg (by omega), Int.toNat_of_nonneg (by omega)]
 omega
def okL (l : List Leg) : Prop := ∀ x ∈ l, I64 x.2.1
end Go.Proofs.YtbpbkmngbhgpfaaGreat

namespace Go.Proofs.YtbpbkmngbhgpfaaGreat
open Go Go.Vc Go.RowKit
def BInv (l : List APos') : Prop := (∀ p ∈ l, p.2.1 ≠ [] ∧ VInv p.2.1) ∧ SrtA (l.map (·.1))
instance (l : List APos') : Decidable (BInv l) := by unfold BInv SrtA; infer_instance
def isB (l : List APos') : Bool := decide (BInv l)
theorem zwf {l : List APos'} {i : Nat} (hi : i < l.length) (h : ¬ (l[i].2.1 ≠ [] ∧ VInv l[i].2.1)) : isB l = false :=
 decide_eq_false fun hp => h (hp.1 _ (List.getElem_mem hi))
theorem isB_bad1 {l : List APos'} {i : Nat} (hi : i < l.length) (h0 : 0 < i) (h : ¬ ltA (l[i - 1]'(by omega)).1 l[i].1) : isB l = false :=
 decide_eq_false fun hp => h (by
  have := List.pairwise_iff_getElem.1 hp.2 (i - 1) i (by simp; omega) (by simpa using hi) (by omega)
  simpa using this)
theorem zwe {l : List APos'} {i : Nat} (hi : i < l.length) (inv : BInv (l.take i)) (h1 : l[i].2.1 ≠ [] ∧ VInv l[i].2.1) (h2 : ∀ h0 : 0 < i, ltA (l[i - 1]'(by omega)).1 l[i].1) : BInv (l.take (i + 1)) := by
 rw [List.take_succ_eq_append_getElem hi]
 refine ⟨fun x hx => ?_, ?_⟩
 ·rcases List.mem_append.1 hx with hx | hx
  ·exact inv.1 x hx
  ·simp only [List.mem_singleton] at hx; rw [hx]; exact h1
 ·show SrtA ((l.take i ++ [l[i]]).map (·.1))
  rw [List.map_append]
  refine List.pairwise_append.2 ⟨inv.2, by simp, fun a ha b hb => ?_⟩
  simp only [List.map_cons, List.map_nil, List.mem_singleton] at hb
  subst hb
  obtain ⟨k, hk, hka⟩ := List.mem_iff_getElem.1 ha
  have hk' : k < i := by simp at hk; omega
  have h3 := h2 (by omega)
  by_cases hki : k = i - 1
  ·subst hki; rw [← hka]; simpa using h3
  ·have h4 := List.pairwise_iff_getElem.1 inv.2 k (i - 1) (by simpa using hk) (by simp; omega) (by omega)
   rw [hka] at h4
   refine ltA_tr h4 ?_
   simpa using h3
theorem isB_end {l : List APos'} (h : BInv (l.take l.length)) : isB l = true := by rw [List.take_length] at h; exact decide_eq_true h
def okB (l : List APos') : Prop := (∀ p ∈ l, okL p.2.1 ∧ p.2.1.length ≤ 100) ∧ l.length ≤ 100
theorem r_isB {l : List APos'} (hb : okB l) : book_Is l = some (isB l) := by
 have hl := hb.2
 show zww stdW l = _
 unfold zww
 refine loop_n (N := l.length) (by omega) (fun i _ => BInv (l.take i)) (some (isB l)) (by simp [BInv]) ?_ ?_
 ·rintro _ again h
  rw [zbg, isB_end h]
 ·rintro i hi _ inv again ha
  rw [cnd_lt hi, idx_w hi]
  refine join_g fun k hk => ?_
  have kt : k (true, ()) = some false := by subst hk; rfl
  have kf : k (false, ()) = again (((i + 1 : Nat) : Int), ()) := by rw [← i64_s i (by omega)]; subst hk; rfl
  clear hk
  have hli := (hb.1 _ (List.getElem_mem hi)).2
  by_cases h1 : l[i].2.1 = []
  ·rw [cnd_y (by simp [h1]), both_w, kt, zwf hi (by simp [h1])]
  rw [cnd_n (by simpa using h1), zaa (r_isV (by omega))]
  by_cases hv : VInv l[i].2.1
  ·rw [show isV l[i].2.1 = true from decide_eq_true hv, cnd_n (by decide)]
   by_cases h0 : 0 < i
   ·rw [cnd_y (decide_eq_true (by omega)), zhm i h0 (by rw [zam]; omega), idx_w (by omega), zaa (r_lessA _ _), both_w]
    by_cases h2 : ltA (l[i - 1]'(by omega)).1 l[i].1
    ·rw [decide_eq_true h2]
     exact kf.trans (ha _ (zwe hi inv ⟨h1, hv⟩ fun _ => h2))
    ·rw [decide_eq_false h2, isB_bad1 hi h0 h2]; exact kt
   ·rw [cnd_n (decide_eq_false (by omega)), both_w]
    exact kf.trans (ha _ (zwe hi inv ⟨h1, hv⟩ fun h => absurd h h0))
  ·rw [show isV l[i].2.1 = false from decide_eq_false hv, cnd_y (by decide), both_w, kt, zwf hi fun h => hv h.2]
theorem r_isB19 {l : List APos'} (hb : okB l) : zql l = some (isB l) := by
 have hl := hb.2
 show zqk stdW l = _
 unfold zqk
 refine loop_n (N := l.length) (by omega) (fun i _ => BInv (l.take i)) (some (isB l)) (by simp [BInv]) ?_ ?_
 ·rintro _ again h
  rw [zbg, isB_end h]
 ·rintro i hi _ inv again ha
  rw [cnd_lt hi]
  refine join_g fun k hk => ?_
  have kt : k (true, ()) = some false := by subst hk; rfl
  have kf : k (false, ()) = again (((i + 1 : Nat) : Int), ()) := by rw [← i64_s i (by omega)]; subst hk; rfl
  clear hk
  have hli := (hb.1 _ (List.getElem_mem hi)).2
  rw [idx_w hi]
  by_cases h1 : l[i].2.1 = []
  ·rw [cnd_y (by simp [h1]), both_w, kt, zwf hi (by simp [h1])]
  rw [cnd_n (by simpa using h1), idx_w hi, zaa (r_isV11 (by omega))]
  by_cases hv : VInv l[i].2.1
  ·rw [show isV l[i].2.1 = true from decide_eq_true hv, cnd_n (by decide)]
   by_cases h0 : 0 < i
   ·rw [cnd_y (decide_eq_true (by omega)), zhm i h0 (by rw [zam]; omega), idx_w (by omega), idx_w hi, zaa (zvv _ _), both_w]
    by_cases h2 : ltA (l[i - 1]'(by omega)).1 l[i].1
    ·rw [decide_eq_true h2]
     exact kf.trans (ha _ (zwe hi inv ⟨h1, hv⟩ fun _ => h2))
    ·rw [decide_eq_false h2, isB_bad1 hi h0 h2]; exact kt
   ·rw [cnd_n (decide_eq_false (by omega)), both_w]
    exact kf.trans (ha _ (zwe hi inv ⟨h1, hv⟩ fun h => absurd h h0))
  ·rw [show isV l[i].2.1 = false from decide_eq_false hv, cnd_y (by decide), both_w, kt, zwf hi fun h => hv h.2]
theorem r_few11 (l : List Leg) (hl : l.length ≤ 9223372036854775807) : zzc l = some (l.take 12) := by
 show zns stdW l = _
 unfold zns
 by_cases h : 12 < l.length
 ·rw [cnd_y (decide_eq_true (by omega)), bnd_w (by omega) (by omega)]; rfl
 ·rw [cnd_n (decide_eq_false (by omega)), List.take_of_length_le (by omega)]
def fewPos (p : APos') : APos' := (p.1, (p.2.1.take 12, ()))
def few19 (l : List APos') : List APos' := (l.take 12).map fewPos
theorem few19_ok {l : List APos'} (h : ∀ p ∈ l, okL p.2.1) : okB (few19 l) := by
 unfold few19
 refine ⟨fun p hp => ?_, by rw [List.length_map, List.length_take]; omega⟩
 obtain ⟨x, hx, rfl⟩ := List.mem_map.1 hp
 have hx := h x (List.mem_of_mem_take hx)
 exact ⟨fun y hy => hx y (List.mem_of_mem_take hy), by show (x.2.1.take 12).length ≤ 100; rw [List.length_take]; omega⟩
theorem r_few19 (l : List APos') (hl : l.length ≤ 9223372036854775807) (hm : ∀ p ∈ l, p.2.1.length ≤ 9223372036854775807) : zyy l = some (few19 l) := by
 show znq stdW l = _
 unfold znq
 rw [join_w]
 refine zpa (N := min l.length 12) (by omega) (fun i => ((i : Int), ((l.take i).map fewPos, ()))) _ rfl ?_ ?_
 ·intro again
  have e : (l.take (min l.length 12)).map fewPos = few19 l := by
   unfold few19; rw [Nat.min_comm, ← List.take_take, List.take_length]
  have g : (some ((l.take (min l.length 12)).map fewPos) : Option (List APos')) = some (few19 l) := by rw [e]
  show stdW.cnd (decide (((min l.length 12 : Nat) : Int) < (l.length : Int))) (stdW.cnd (decide (((min l.length 12 : Nat) : Int) < 12)) _ (some ((l.take (min l.length 12)).map fewPos))) (some ((l.take (min l.length 12)).map fewPos)) = _
  by_cases h : (min l.length 12 : Nat) < l.length
  ·rw [cnd_lt h, cnd_n (decide_eq_false (by omega))]; exact g
  ·rw [cnd_n (decide_eq_false (by omega))]; exact g
 ·intro i hi again ha
  have hi1 : i < l.length := by omega
  show stdW.cnd (decide ((i : Int) < (l.length : Int))) (stdW.cnd (decide ((i : Int) < 12)) (stdW.idx l (i : Int) _) _) _ = _
  rw [cnd_lt hi1, cnd_y (decide_eq_true (by omega)), idx_w hi1, idx_w hi1, zaa (r_few11 _ (hm _ (List.getElem_mem hi1)))]
  show stdW.room (((l.take i).map fewPos).length + 1) 40 (again (IntKind.i64.wrap ((i : Int) + 1), ((l.take i).map fewPos ++ [fewPos l[i]], ()))) = _
  have : ((l.take i).map fewPos).length ≤ 12 := by rw [List.length_map, List.length_take]; omega
  rw [room_w (by omega) (by omega), i64_s i (by omega)]
  rw [List.take_succ_eq_append_getElem hi1, List.map_append] at ha
  exact ha
end Go.Proofs.YtbpbkmngbhgpfaaGreat

namespace Go.Proofs.YtbpbkmngbhgpfaaGreat
open Go Go.Vc Go.RowKit
end Go.Proofs.YtbpbkmngbhgpfaaGreat

namespace Go.Proofs.YtbpbkmngbhgpfaaGreat
open Go Go.Vc Go.RowKit
theorem okD_flows {l : DT.den (.slc tAFlow)} (h : DT.okD (.slc tAFlow) l) : okF l ∧ l.length ≤ 9223372036854775807 := by
 refine ⟨fun x hx => wf_i64 (h.1 x hx).2.1, ?_⟩
 have := h.2
 rwa [zam] at this
end Go.Proofs.YtbpbkmngbhgpfaaGreat

namespace Go.Proofs.YtbpbkmngbhgpfaaGreat
open Go Go.Vc Go.RowKit
theorem okD_legs {l : DT.den (.slc tAUnit)} (h : DT.okD (.slc tAUnit) l) : okL l ∧ l.length ≤ 9223372036854775807 := by
 refine ⟨fun x hx => wf_i64 (h.1 x hx).2.1, ?_⟩
 have := h.2
 rwa [zam] at this
theorem okD_book {l : DT.den (.slc tAPos)} (h : DT.okD (.slc tAPos) l) : (∀ p ∈ l, okL p.2.1 ∧ p.2.1.length ≤ 9223372036854775807) ∧ l.length ≤ 9223372036854775807 := by
 refine ⟨fun x hx => okD_legs (h.1 x hx).2.1, ?_⟩
 have := h.2
 rwa [zam] at this
end Go.Proofs.YtbpbkmngbhgpfaaGreat

namespace Go.Proofs.YtbpbkmngbhgpfaaGreat
open Go Go.Vc Go.RowKit
def getV : List Leg → Int → Int
 | [], _ => 0
 | x :: l, k => if x.1 = k then x.2.1 else getV l k
theorem r_vget {l : List Leg} {k : Int} (hl : l.length ≤ 1000000) : vec_Get l k = some (getV l k) := by
 show zvm stdW l k = _
 unfold zvm
 refine zcz (l := l) (by omega) (s0 := ()) (fun _ _ => True) (fun l' _ => some (getV l' k)) trivial ?_ ?_
 ·rintro _ again _
  rw [zbg]; rfl
 ·rintro i hi _ _ again ha
  rw [cnd_lt hi, idx_w hi]
  show _ = some (getV (l[i] :: l.drop (i + 1)) k)
  rw [getV]
  by_cases h : l[i].1 = k
  ·rw [cnd_y (by simpa using h), if_pos h]
  ·rw [cnd_n (by simpa using h), if_neg h]
   show again (IntKind.i64.wrap ((i : Int) + 1), ()) = _
   rw [i64_s i (by omega)]
   exact ha _ trivial
theorem zzi {l : List Leg} (h : okL l) (k : Int) : I64 (getV l k) := by
 induction l with
 | nil => show I64 0; unfold I64; omega
 | cons x l ih =>
  rw [getV]
  split
  ·exact h x (by simp)
  ·exact ih fun y hy => h y (by simp [hy])
def opnZ (l : List APos') (k : Int) : Int := sumBy (fun p => getV p.2.1 k) l
def ks : List Int := [1, 2, 3, 4, 5, 6, 7, 8]
theorem ks_mem (k : Int) : k ∈ ks ↔ 1 ≤ k ∧ k ≤ 8 := by unfold ks; simp; omega
end Go.Proofs.YtbpbkmngbhgpfaaGreat

namespace Go.Proofs.YtbpbkmngbhgpfaaGreat
open Go Go.Vc Go.RowKit
theorem not_i (a : Int) (h : -9223372036854775808 ≤ a ∧ a ≤ 9223372036854775807) : bits .xor .i64 (-1) a = -1 - a := by
 have e1 : BitVec.ofInt 64 (-1) = BitVec.allOnes 64 := by decide
 show IntKind.i64.wrap (((BitVec.ofInt 64 (-1) ^^^ BitVec.ofInt 64 a).toNat : Nat) : Int) = _
 rw [e1, BitVec.allOnes_xor, BitVec.toNat_not, BitVec.toNat_ofInt, IntKind.wrap_i64]
 have : (2 : Int) ^ 64 = 18446744073709551616 := by decide
 omega
theorem not_u (a : Int) (h : 0 ≤ a ∧ a < 18446744073709551616) : bits .xor .u64 18446744073709551615 a = 18446744073709551615 - a := by
 have e1 : BitVec.ofInt 64 18446744073709551615 = BitVec.allOnes 64 := by decide
 show IntKind.u64.wrap (((BitVec.ofInt 64 18446744073709551615 ^^^ BitVec.ofInt 64 a).toNat : Nat) : Int) = _
 rw [e1, BitVec.allOnes_xor, BitVec.toNat_not, BitVec.toNat_ofInt, IntKind.wrap_u64]
 have : (2 : Int) ^ 64 = 18446744073709551616 := by decide
 omega
theorem r_wSub {a b : Int} (ha : In128 a) (hb : In128 b) : wide_Sub (wide a) (wide b) = some (fit (a - b)) := by
 show zpo stdW (wide a) (wide b) = _
 unfold zpo
 have ha' := ha
 have hb' := hb
 unfold In128 at ha' hb'
 have t0 : InTot 0 := by unfold InTot; omega
 have t1 : InTot a := by unfold InTot; omega
 have t2 : InTot (a + (-b - 1)) := by unfold InTot; omega
 have t3 : InTot (a - b) := by unfold InTot; omega
 have s1 : zbp (wide a) 0 0 0 = some ((), totT a) := by
  have := r_tadd 0 (wide a) t0 (zkx a ha)
  rw [zku, Int.zero_add] at this
  exact this
 rw [zaa s1]
 have ec : (bits .xor .i64 (if true = true then (-1) else (if true = true then ((2 ^ ((IntKind.bits .i64) - 1)) - 1) else ((2 ^ (IntKind.bits .i64)) - 1))) (wide b).1, bits .xor .u64 (if false = true then (-1) else (if false = true then ((2 ^ ((IntKind.bits .u64) - 1)) - 1) else ((2 ^ (IntKind.bits .u64)) - 1))) (wide b).2.1, ()) = wide (-b - 1) := by
  have c1 : (if false = true then (-1 : Int) else (if false = true then ((2 ^ ((IntKind.bits .u64) - 1)) - 1) else ((2 ^ (IntKind.bits .u64)) - 1))) = 18446744073709551615 := by decide
  rw [c1, if_pos rfl]
  unfold wide
  show (bits .xor .i64 (-1) (b / 18446744073709551616), bits .xor .u64 18446744073709551615 (b % 18446744073709551616), ()) = _
  rw [not_i _ (by omega), not_u _ (by omega)]
  refine Prod.ext ?_ (Prod.ext ?_ rfl)
  ·show -1 - b / 18446744073709551616 = (-b - 1) / 18446744073709551616; omega
  ·show 18446744073709551615 - b % 18446744073709551616 = (-b - 1) % 18446744073709551616; omega
 have s2 := r_tadd a (wide (-b - 1)) t1 (zkx _ (by unfold In128; omega))
 rw [zku] at s2
 show stdW.call (zbp _ (totT a).1 (totT a).2.1 (totT a).2.2.1) _ = _
 rw [ec, zaa s2, zaa (r_wOf 1 (by unfold I64; omega))]
 have s3 := r_tadd (a + (-b - 1)) (wide 1) t2 (zkx _ (by unfold In128; omega))
 rw [zku, show a + (-b - 1) + 1 = a - b by omega] at s3
 show stdW.call (zbp (wide 1) (totT (a + (-b - 1))).1 (totT (a + (-b - 1))).2.1 (totT (a + (-b - 1))).2.2.1) _ = _
 rw [zaa s3]
 show stdW.call (zcv (totT (a - b)).1 (totT (a - b)).2.1 (totT (a - b)).2.2.1) _ = _
 rw [zaa (r_tdone _ t3)]
theorem r_fSub {a b : Int} (ha : I64 a) (hb : I64 b) : zzr a b = some (fits64 (a - b)) := by
 show zwm stdW a b = _
 unfold zwm
 have hd : In128 (a - b) := by unfold I64 at ha hb; unfold In128; omega
 have e : fit (a - b) = (wide (a - b), 0, ()) := if_pos hd
 rw [zaa (r_wOf a ha), zaa (r_wOf b hb), zaa (r_wSub (zpd ha) (zpd hb)), e]
 show stdW.call (zik (wide (a - b)) 0) _ = _
 rw [zaa (r_narrow0 hd)]
def moveP (l : List AFlow') (f t : AUnit') (n : Int) : List AFlow' × Int × Unit :=
 if I64 (-n) then payP l [(f, (-n, ())), (t, (n, ()))] else if isP l = true then ([], (7, ())) else ([], (3, ()))
theorem r_move {l : List AFlow'} {f t : AUnit'} {n : Int} (h : okF l) (hn : I64 n) (hl : l.length ≤ 1000) : znf l f t n = some (moveP l f t n) := by
 show zju stdW l f t n = _
 unfold zju moveP
 have e := r_fSub (a := 0) (b := n) (by unfold I64; omega) hn
 rw [Int.zero_sub] at e
 unfold fits64 at e
 by_cases hI : I64 (-n)
 ·rw [if_pos hI] at e
  rw [if_pos hI, zaa e]
  refine join_g fun k hk => ?_
  show stdW.cnd ((0 : Int) != 0) _ _ = _
  rw [cnd_n (by decide)]
  subst hk
  show stdW.cnd false _ (stdW.call (zlq l [(f, (-n, ())), (t, (n, ()))]) _) = _
  rw [cnd_n rfl, zaa (r_pay h (by
   intro x hx
   simp only [List.mem_cons, List.not_mem_nil, or_false] at hx
   rcases hx with rfl | rfl
   ·exact hI
   ·exact hn) (by simp; omega))]
 ·rw [if_neg hI] at e
  rw [if_neg hI, zaa e]
  refine join_g fun k hk => ?_
  show stdW.cnd ((7 : Int) != 0) _ _ = _
  rw [cnd_y (by decide), zaa (r_is (by omega))]
  subst hk
  by_cases hp : isP l = true
  ·rw [hp, if_pos rfl]; rfl
  ·have hp : isP l = false := by simpa using hp
   rw [hp, if_neg (by simp)]
   show stdW.cnd false _ (stdW.call (zlq l _) _) = _
   unfold I64 at hI hn
   have hn2 : n = -9223372036854775808 := by omega
   rw [cnd_n rfl, zaa (r_pay h (by
    intro x hx
    simp only [List.mem_cons, List.not_mem_nil, or_false] at hx
    rcases hx with rfl | rfl
    ·show I64 0; unfold I64; omega
    ·show I64 n; unfold I64; omega) (by simp; omega))]
   unfold payP
   rw [hp, if_neg (by simp)]
theorem unit_ext {l : List AFlow'} {us : List AUnit'} (hs : SrtA us) (h : ∀ u, u ∈ us ↔ ∃ x ∈ l, x.1 = u) : zbm l = us :=
 srt_ext (zia l) hs fun u => by rw [zpu, h u]
end Go.Proofs.YtbpbkmngbhgpfaaGreat

namespace Go.Proofs.YtbpbkmngbhgpfaaGreat
open Go Go.Vc Go.RowKit
theorem nz_w {β : Type} {b : Int} (h : b ≠ 0) (K : Option β) : stdW.nz b K = K := nz_eq h K
theorem valB_drop (xs : List Int) (i : Nat) (h : i < xs.length) : valB (xs.drop i) = xs[i].toNat + 2 * valB (xs.drop (i + 1)) := by
 rw [List.drop_eq_getElem_cons h]; rfl
theorem zmk (xs : List Int) (i : Nat) (h : ¬ i < xs.length) : xs.drop i = [] := List.drop_eq_nil_of_le (by omega)
theorem bitL_app {a b : List Int} (ha : bitL a) (hb : bitL b) : bitL (a ++ b) := fun x hx => (List.mem_append.1 hx).elim (ha x) (hb x)
theorem bit_nat {xs : List Int} (h : bitL xs) (i : Nat) (hi : i < xs.length) : ∃ u : Nat, u ≤ 1 ∧ xs[i] = (u : Int) := by
 rcases h _ (List.getElem_mem hi) with e | e
 ·exact ⟨0, by omega, by rw [e]; rfl⟩
 ·exact ⟨1, by omega, by rw [e]; rfl⟩
theorem plus_gen {xs ys : List Int} (hx : bitL xs) (hy : bitL ys) (lx : xs.length ≤ 1000) (ly : ys.length ≤ 1000) :
  ∃ r, zeb xs ys = some r ∧ bitL r ∧ valB r = valB xs + valB ys ∧ r.length ≤ max xs.length ys.length + 1 := by
 show ∃ r, zjn stdW xs ys = some r ∧ _
 unfold zjn
 refine loop_P (fun o => ∃ r, o = some r ∧ bitL r ∧ valB r = valB xs + valB ys ∧ r.length ≤ max xs.length ys.length + 1) (fun z => 2001 - z.2.1.toNat)
  (fun z => ∃ (i c : Nat) (s : List Int), z = ((c : Int), ((i : Int), (s, ()))) ∧ c ≤ 1 ∧ bitL s ∧ s.length = i ∧ i ≤ max xs.length ys.length ∧ valB s + 2 ^ i * (valB (xs.drop i) + valB (ys.drop i) + c) = valB xs + valB ys)
  ⟨0, 0, [], rfl, by omega, (by intro x hx; cases hx), rfl, by omega, by simp [valB]⟩ (by show 2001 - (0 : Int).toNat < _; omega) ?_
 rintro _ ⟨i, c, s, rfl, hc, hs, hsl, hi, hv⟩ again ha
 generalize hQ : (fun o : Option (List Int) => ∃ r, o = some r ∧ bitL r ∧ valB r = valB xs + valB ys ∧ r.length ≤ max xs.length ys.length + 1) = Q
 have ha' : ∀ z', (∃ (i c : Nat) (s : List Int), z' = ((c : Int), ((i : Int), (s, ()))) ∧ c ≤ 1 ∧ bitL s ∧ s.length = i ∧ i ≤ max xs.length ys.length ∧ valB s + 2 ^ i * (valB (xs.drop i) + valB (ys.drop i) + c) = valB xs + valB ys) → 2001 - z'.2.1.toNat < 2001 - (i : Int).toNat → Q (again z') := by
  intro z' h1 h2; rw [← hQ]; exact ha z' h1 h2
 have hfin : ∀ r, bitL r → valB r = valB xs + valB ys → r.length ≤ max xs.length ys.length + 1 → Q (some r) := by
  intro r h1 h2 h3; rw [← hQ]; exact ⟨r, rfl, h1, h2, h3⟩
 refine (congrFun hQ _).mpr ?_
 clear ha hQ
 have go : ∀ (u v : Nat), u ≤ 1 → v ≤ 1 → (i < xs.length ∨ i < ys.length) → valB (xs.drop i) = u + 2 * valB (xs.drop (i + 1)) → valB (ys.drop i) = v + 2 * valB (ys.drop (i + 1)) →
   Q (stdW.nz 2 (stdW.room (s.length + [Int.tmod ((c + u + v : Nat) : Int) 2].length) 1 (stdW.nz 2 (again (IntKind.u8.wrap (Int.tdiv ((c + u + v : Nat) : Int) 2), (IntKind.i64.wrap ((i : Int) + 1), (s ++ [Int.tmod ((c + u + v : Nat) : Int) 2], ()))))))) := by
  intro u v hu hv' hlt ex ey
  rw [nz_w (by omega), room_w (by simp; omega) (by simp; omega), nz_w (by omega), u8_half _ (by omega), zwa, zwg i (by omega)]
  refine ha' _ ⟨i + 1, (c + u + v) / 2, s ++ [(((c + u + v) % 2 : Nat) : Int)], rfl, by omega, bitL_app hs fun x hx => ?_, by simp [hsl], by omega, ?_⟩ (by show 2001 - ((i + 1 : Nat) : Int).toNat < 2001 - ((i : Nat) : Int).toNat; omega)
  ·simp only [List.mem_singleton] at hx; subst hx; omega
  ·rw [← hv, zml, hsl, ex, ey, Nat.pow_succ]
   have e1 : valB [(((c + u + v) % 2 : Nat) : Int)] = (c + u + v) % 2 := by simp only [valB]; omega
   rw [e1, Nat.add_assoc, Nat.mul_assoc, ← Nat.mul_add]
   congr 2; omega
 refine join_gP (Q := Q) fun k10 hk10 => ?_
 have step10 : (i < xs.length ∨ i < ys.length) → Q (k10 (s, ())) := by
  intro hlt
  subst hk10
  refine join_gP (Q := Q) fun k8 hk8 => ?_
  have step8 : ∀ u : Nat, u ≤ 1 → valB (xs.drop i) = u + 2 * valB (xs.drop (i + 1)) → Q (k8 (((c + u : Nat) : Int), (s, ()))) := by
   intro u hu ex
   subst hk8
   refine join_gP (Q := Q) fun k6 hk6 => ?_
   have step6 : ∀ v : Nat, v ≤ 1 → valB (ys.drop i) = v + 2 * valB (ys.drop (i + 1)) → Q (k6 (((c + u + v : Nat) : Int), (s, ()))) := by
    intro v hv' ey
    subst hk6
    exact go u v hu hv' hlt ex ey
   clear hk6
   show Q (stdW.cnd (decide ((i : Int) < (ys.length : Int))) (stdW.idx ys (i : Int) fun x7 => k6 (IntKind.u8.wrap (((c + u : Nat) : Int) + x7), (s, ()))) (k6 (((c + u : Nat) : Int), (s, ()))))
   by_cases h2 : i < ys.length
   ·obtain ⟨v, hv', ev⟩ := bit_nat hy i h2
    have ey := valB_drop ys i h2
    rw [ev, Int.toNat_natCast] at ey
    rw [cnd_lt h2, idx_w h2, ev, u8_add _ _ (by omega)]
    exact step6 v hv' ey
   ·rw [cnd_n (decide_eq_false (by omega))]
    exact step6 0 (by omega) (by rw [zmk ys i h2, zmk ys (i + 1) (by omega)]; rfl)
  clear hk8
  show Q (stdW.cnd (decide ((i : Int) < (xs.length : Int))) (stdW.idx xs (i : Int) fun x9 => k8 (IntKind.u8.wrap ((c : Int) + x9), (s, ()))) (k8 ((c : Int), (s, ()))))
  by_cases h1 : i < xs.length
  ·obtain ⟨u, hu, eu⟩ := bit_nat hx i h1
   have ex := valB_drop xs i h1
   rw [eu, Int.toNat_natCast] at ex
   rw [cnd_lt h1, idx_w h1, eu, u8_add _ _ (by omega)]
   exact step8 u hu ex
  ·rw [cnd_n (decide_eq_false (by omega))]
   exact step8 0 (by omega) (by rw [zmk xs i h1, zmk xs (i + 1) (by omega)]; rfl)
 clear hk10
 show Q (stdW.cnd (decide ((i : Int) < (xs.length : Int))) (k10 (s, ())) (stdW.cnd (decide ((i : Int) < (ys.length : Int))) (k10 (s, ())) (stdW.join (fun (z11 : List (Int) × Unit) => some z11.1) fun k12 => stdW.cnd (decide (0 < (c : Int))) (stdW.room (s.length + ((c : Int) :: []).length) 1 ((k12 ((s ++ ((c : Int) :: [])), ())))) (k12 (s, ())))))
 by_cases h1 : i < xs.length
 ·rw [cnd_lt h1]; exact step10 (.inl h1)
 rw [cnd_n (decide_eq_false (by omega))]
 by_cases h2 : i < ys.length
 ·rw [cnd_lt h2]; exact step10 (.inr h2)
 rw [cnd_n (decide_eq_false (by omega)), join_w]
 rw [zmk xs i h1, zmk ys i h2] at hv
 by_cases h3 : c = 0
 ·subst h3
  rw [cnd_n (by decide)]
  exact hfin s hs (by rw [← hv]; simp [valB]) (by omega)
 ·have : c = 1 := by omega
  subst this
  rw [cnd_y (by decide), room_w (by simp; omega) (by simp; omega)]
  refine hfin _ (bitL_app hs (by intro x hx; simp only [List.mem_singleton] at hx; subst hx; exact .inr rfl)) ?_ (by simp; omega)
  rw [← hv, zml, hsl]; simp [valB]
theorem valB_zeros (n : Nat) (a : List Int) : valB (List.replicate n (0 : Int) ++ a) = 2 ^ n * valB a := by
 have : ∀ n : Nat, valB (List.replicate n (0 : Int)) = 0 := by
  intro n; induction n with
  | zero => rfl
  | succ n ih => rw [List.replicate_succ, valB, ih]; rfl
 rw [zml, this, List.length_replicate, Nat.zero_add]
theorem bit_eq {xs : List Int} (h : bitL xs) (i : Nat) (hi : i < xs.length) : (xs[i] = 1 ∧ xs[i].toNat = 1) ∨ (xs[i] = 0 ∧ xs[i].toNat = 0) := by
 rcases h _ (List.getElem_mem hi) with e | e
 ·exact .inr ⟨e, by rw [e]; rfl⟩
 ·exact .inl ⟨e, by rw [e]; rfl⟩
theorem r_mul {x y : BigT} (hx : bitL x.2.1) (hy : bitL y.2.1) (lx : x.2.1.length ≤ 300) (ly : y.2.1.length ≤ 300) : zgo x y = some (bigS (x.1 != y.1) (valB x.2.1 * valB y.2.1)) := by
 show zmy stdW x y = _
 unfold zmy
 rw [room_w (by omega) (by omega)]
 refine (zdd (fun z => y.2.1.length + 1 - z.2.2.1.toNat) (fun z => ∃ (i : Nat) (s : List Int), z = (s, (List.replicate i (0 : Int) ++ x.2.1, ((i : Int), ()))) ∧ i ≤ y.2.1.length ∧ bitL s ∧ s.length ≤ x.2.1.length + i ∧ valB s = valB x.2.1 * valB (y.2.1.take i))
  (fun _ => some (bigS (x.1 != y.1) (valB x.2.1 * valB y.2.1))) ⟨0, [], rfl, by omega, (by intro x hx; cases hx), by simp, by simp [valB]⟩ (by show y.2.1.length + 1 - (0 : Int).toNat < _; omega) ?_)
 rintro _ ⟨i, s, rfl, hi, hs, hsl, hv⟩ again ha
 have hz : bitL (List.replicate i (0 : Int) ++ x.2.1) := bitL_app (fun x hx => .inl (List.mem_replicate.1 hx).2) hx
 have hzl : (List.replicate i (0 : Int) ++ x.2.1).length = i + x.2.1.length := by simp
 by_cases h : i < y.2.1.length
 ·show stdW.cnd (decide ((i : Int) < (y.2.1.length : Int))) (stdW.join (fun (z3 : List (Int) × Unit) => stdW.room [(0 : Int)].length 1 (stdW.room ([(0 : Int)].length + (List.replicate i (0 : Int) ++ x.2.1).length) 1 (again (z3.1, ([(0 : Int)] ++ (List.replicate i (0 : Int) ++ x.2.1), (IntKind.i64.wrap ((i : Int) + 1), ())))))) _) _ = _
  rw [cnd_lt h]
  refine join_g fun k hk => ?_
  have kk : ∀ v : List Int, bitL v → v.length ≤ x.2.1.length + (i + 1) → valB v = valB x.2.1 * valB (y.2.1.take (i + 1)) → k (v, ()) = some (bigS (x.1 != y.1) (valB x.2.1 * valB y.2.1)) := by
   intro v h1 h2 h3
   subst hk
   show stdW.room [(0 : Int)].length 1 (stdW.room ([(0 : Int)].length + (List.replicate i (0 : Int) ++ x.2.1).length) 1 (again (v, ([(0 : Int)] ++ (List.replicate i (0 : Int) ++ x.2.1), (IntKind.i64.wrap ((i : Int) + 1), ()))))) = _
   rw [room_w (by simp) (by simp), room_w (by rw [hzl]; simp; omega) (by rw [hzl]; simp; omega), i64_s i (by omega)]
   exact ha _ ⟨i + 1, v, rfl, by omega, h1, h2, h3⟩ (by show y.2.1.length + 1 - ((i + 1 : Nat) : Int).toNat < y.2.1.length + 1 - ((i : Nat) : Int).toNat; omega)
  clear hk ha
  show stdW.idx y.2.1 (i : Int) _ = _
  rw [idx_w h]
  rw [zew y.2.1 i h] at kk
  rcases bit_eq hy i h with ⟨e1, e2⟩ | ⟨e1, e2⟩
  ·rw [cnd_y (by rw [e1]; rfl)]
   obtain ⟨r, hr, r1, r2, r3⟩ := plus_gen hs hz (by omega) (by rw [hzl]; omega)
   show stdW.call (zeb s (List.replicate i (0 : Int) ++ x.2.1)) _ = _
   rw [zaa hr]
   refine kk r r1 (by rw [hzl] at r3; omega) ?_
   rw [r2, hv, valB_zeros, e2, Nat.mul_add, Nat.mul_one, Nat.mul_comm (valB x.2.1) (2 ^ i)]
  ·rw [cnd_n (by rw [e1]; rfl)]
   exact kk s hs (by omega) (by rw [hv, e2]; simp)
 ·have : i = y.2.1.length := by omega
  subst this
  show stdW.cnd (decide ((y.2.1.length : Int) < (y.2.1.length : Int))) _ (stdW.call (zea (notIf true (x.1 == y.1)) s) fun v7 => some (v7.1, (v7.2.1, ()))) = _
  rw [zbg, zaa (r_trim hs (by omega)), hv, List.take_length, nif_t]
  rfl
theorem len_of {z : Int} (h : sml z) : (big z).2.1.length ≤ 300 := Nat.le_trans (zfa h) (by decide)
theorem r_mulB {x y : Int} (hx : sml x) (hy : sml y) : zgo (big x) (big y) = some (big (x * y)) := by
 rw [r_mul (zmg _) (zmg _) (len_of hx) (len_of hy)]
 have e : ∀ z : Int, valB (big z).2.1 = z.natAbs := fun z => zfd _
 rw [e, e, bigS_is]
 have := zsf x y
 have e2 : ∀ z : Int, ((z.natAbs : Nat) : Int) = absI z := by intro z; unfold absI; split <;> omega
 rw [Int.natCast_mul, e2, e2]
 show some (big (if (decide (x < 0) != decide (y < 0)) = true then _ else _)) = _
 rw [this]
theorem r_subB {a b : Int} (ha : sml a) (hb : sml b) : zif (big a) (big b) = some (big (a - b)) := by
 unfold sml at *
 have := r_sub (nb_big a) (nb_big b) (Nat.le_trans (zfa ha) (by decide)) (Nat.le_trans (zfa hb) (by decide))
 rwa [bv_big, bv_big] at this
end Go.Proofs.YtbpbkmngbhgpfaaGreat

namespace Go.Proofs.YtbpbkmngbhgpfaaGreat
open Go Go.Vc Go.RowKit
theorem r_none {l : List Leg} (hl : l.length ≤ 1000000) : zvk l = some (!isV l) := by
 show zpt stdW l = _
 unfold zpt
 rw [zaa (r_isV hl)]
theorem r_ix {s : List (List Leg)} (hs : s.length ≤ 1000000) (hl : ∀ l ∈ s, l.length ≤ 1000000) : ∃ i : Int, zat s = some (i, ()) ∧ decide (0 ≤ i) = !(s.all isV) := by
 show ∃ i, zak stdW s = _ ∧ _
 unfold zak
 refine loop_P (fun o => ∃ i : Int, o = some (i, ()) ∧ decide (0 ≤ i) = !(s.all isV)) (fun z => s.length + 1 - z.1.toNat) (fun z => ∃ j : Nat, j ≤ s.length ∧ z = ((j : Int), ()) ∧ (s.take j).all isV = true) ⟨0, Nat.zero_le _, rfl, by simp⟩ (by show _ - (0 : Int).toNat < _; omega) ?_
 rintro _ ⟨j, hj, rfl, hp⟩ again ha
 show ∃ i, stdW.cnd (decide ((j : Int) < (s.length : Int))) _ _ = _ ∧ _
 by_cases h : j < s.length
 ·rw [cnd_lt h]
  show ∃ i, stdW.idx s (j : Int) _ = _ ∧ _
  rw [idx_w h, zaa (r_none (hl _ (List.getElem_mem h)))]
  by_cases hv : isV s[j] = true
  ·rw [hv, cnd_n (by decide)]
   show ∃ i, again (IntKind.i64.wrap ((j : Int) + 1), ()) = _ ∧ _
   rw [i64_s j (by omega)]
   refine ha _ ⟨j + 1, by omega, rfl, ?_⟩ (by show _ - ((j + 1 : Nat) : Int).toNat < _ - ((j : Nat) : Int).toNat; omega)
   rw [List.take_succ_eq_append_getElem h, List.all_append, hp]; simp [hv]
  ·have hv : isV s[j] = false := by simpa using hv
   rw [hv, cnd_y (by decide)]
   refine ⟨(j : Int), rfl, ?_⟩
   have : s.all isV = false := by
    rw [List.all_eq_false]
    exact ⟨s[j], List.getElem_mem h, by simp [hv]⟩
   rw [this, decide_eq_true (by omega)]; rfl
 ·have : j = s.length := by omega
  subst this
  rw [zbg]
  rw [List.take_length] at hp
  exact ⟨-1, rfl, by rw [hp]; rfl⟩
theorem r_cf {s : List (List Leg)} (hs : s.length ≤ 1000000) (hl : ∀ l ∈ s, l.length ≤ 1000000) : zar s = some (!(s.all isV), ()) := by
 show zai stdW s = _
 unfold zai
 obtain ⟨i, e, h⟩ := r_ix hs hl
 rw [zaa e]
 show some (decide (0 ≤ i), ()) = _
 rw [h]
def sumV (l : List (List Leg)) (k : Int) : Int := (l.map fun v => getV v k).sum
def addGo (l : List (List Leg)) : List Int → List Leg → List Leg × Int × Unit
 | [], acc => (acc, 0, ())
 | k :: ks, acc => if I64 (sumV l k) then (if sumV l k = 0 then addGo l ks acc else addGo l ks (acc ++ [(k, sumV l k, ())])) else ([], 7, ())
def addV (l : List (List Leg)) : List Leg × Int × Unit := if l.all isV = true then addGo l ks [] else ([], 3, ())
theorem ks_drop {j : Nat} (h : j < 8) : ks.drop j = ((j : Int) + 1) :: ks.drop (j + 1) := by
 have : j = 0 ∨ j = 1 ∨ j = 2 ∨ j = 3 ∨ j = 4 ∨ j = 5 ∨ j = 6 ∨ j = 7 := by omega
 rcases this with rfl | rfl | rfl | rfl | rfl | rfl | rfl | rfl <;> rfl
theorem r_vadd {l : List (List Leg)} (hs : l.length ≤ 1000) (hl : ∀ v ∈ l, v.length ≤ 1000) (ho : ∀ v ∈ l, okL v) : vec_Add l = some (addV l) := by
 show zvn stdW l = _
 unfold zvn addV
 rw [zaa (r_cf (by omega) fun v hv => by have := hl v hv; omega)]
 by_cases hv : l.all isV = true
 ·rw [hv, cnd_n (by decide), if_pos rfl]
  refine (zdd (fun z => 10 - z.1.toNat) (fun z => ∃ (j : Nat) (acc : List Leg), j ≤ 8 ∧ acc.length ≤ j ∧ z = ((j : Int) + 1, (acc, ()))) (fun z => some (addGo l (ks.drop (z.1.toNat - 1)) z.2.1)) ⟨0, [], by omega, Nat.le_refl _, rfl⟩ (by show 10 - (1 : Int).toNat < _; omega) ?_)
  rintro _ ⟨j, acc, hj, hacc, rfl⟩ again ha
  have ej : (((j : Int) + 1).toNat - 1) = j := by omega
  show stdW.cnd (decide ((j : Int) + 1 ≤ 8)) _ _ = some (addGo l (ks.drop ((((j : Int) + 1)).toNat - 1)) acc)
  rw [ej]
  by_cases h8 : j < 8
  ·rw [cnd_y (decide_eq_true (by omega)), ks_drop h8]
   refine join_g fun k5 hk => ?_
   have kk : ∀ v : List Leg, v.length ≤ j + 1 → k5 (v, ()) = some (addGo l (ks.drop (j + 1)) v) := by
    intro v hv
    subst hk
    show again (IntKind.i64.wrap ((j : Int) + 1 + 1), (v, ())) = _
    have e1 : IntKind.i64.wrap ((j : Int) + 1 + 1) = ((j + 1 : Nat) : Int) + 1 := by rw [IntWalk.i64_in _ (by omega)]; omega
    rw [e1, ha _ ⟨j + 1, v, by omega, hv, rfl⟩ (by show 10 - (((j + 1 : Nat) : Int) + 1).toNat < 10 - ((j : Int) + 1).toNat; omega)]
    show some (addGo l (ks.drop ((((j + 1 : Nat) : Int) + 1).toNat - 1)) v) = _
    rw [show (((j + 1 : Nat) : Int) + 1).toNat - 1 = j + 1 by omega]
   clear hk ha
   rw [addGo]
   have hall : ∀ x ∈ l.map (fun v => getV v ((j : Int) + 1)), I64 x := by
    intro x hx
    obtain ⟨v, hv, rfl⟩ := List.mem_map.1 hx
    exact zzi (ho v hv) _
   refine zpa (N := l.length) (by omega) (fun i => ((i : Int), (acc, ((l.take i).map (fun v => getV v ((j : Int) + 1)), ())))) _ rfl ?_ ?_
   ·intro again2
    show stdW.cnd (decide ((l.length : Int) < (l.length : Int))) _ (stdW.call (ztv ((l.take l.length).map fun v => getV v ((j : Int) + 1))) _) = _
    rw [zbg, List.take_length, zaa (r_fSum hall (by rw [List.length_map]; omega))]
    show stdW.cnd ((fits64 (sumV l ((j : Int) + 1))).2.1 != 0) (some ([], (fits64 (sumV l ((j : Int) + 1))).2)) (stdW.cnd ((fits64 (sumV l ((j : Int) + 1))).1 != 0) (stdW.room (acc.length + 1) 16 (k5 (acc ++ [((j : Int) + 1, ((fits64 (sumV l ((j : Int) + 1))).1, ()))], ()))) (k5 (acc, ()))) = _
    unfold fits64
    by_cases hI : I64 (sumV l ((j : Int) + 1))
    ·rw [if_pos hI, if_pos hI]
     show stdW.cnd ((0 : Int) != 0) _ (stdW.cnd (sumV l ((j : Int) + 1) != 0) (stdW.room (acc.length + 1) 16 (k5 (acc ++ [((j : Int) + 1, (sumV l ((j : Int) + 1), ()))], ()))) (k5 (acc, ()))) = _
     rw [cnd_n (by decide)]
     by_cases h0 : sumV l ((j : Int) + 1) = 0
     ·rw [cnd_n (by simp [h0]), if_pos h0]; exact kk acc (by omega)
     ·rw [cnd_y (by simp [h0]), if_neg h0, room_w (by omega) (by omega)]
      exact kk _ (by simp; omega)
    ·rw [if_neg hI, if_neg hI]
     show stdW.cnd ((7 : Int) != 0) _ _ = _
     rw [cnd_y (by decide)]
   ·intro i hi again2 ha2
    show stdW.cnd (decide ((i : Int) < (l.length : Int))) (stdW.idx l (i : Int) fun x8 => stdW.call (vec_Get x8 ((j : Int) + 1)) fun v9 => stdW.room (((l.take i).map fun v => getV v ((j : Int) + 1)).length + 1) 8 (again2 (IntKind.i64.wrap ((i : Int) + 1), (acc, (((l.take i).map fun v => getV v ((j : Int) + 1)) ++ [v9], ()))))) _ = _
    have h2 := hl _ (List.getElem_mem hi)
    rw [cnd_lt hi, idx_w hi, zaa (r_vget (by omega))]
    have : ((l.take i).map fun v => getV v ((j : Int) + 1)).length ≤ 1000 := by rw [List.length_map, List.length_take]; omega
    rw [room_w (by omega) (by omega), i64_s i (by omega)]
    rw [List.take_succ_eq_append_getElem hi, List.map_append] at ha2
    exact ha2
  ·have : j = 8 := by omega
   subst this
   rw [cnd_n (decide_eq_false (by omega))]
   rfl
 ·have hv : l.all isV = false := by simpa using hv
  rw [hv, cnd_y (by decide), if_neg (by simp)]
theorem addGo_ok (l : List (List Leg)) : ∀ (us : List Int) (acc : List Leg), (addGo l us acc).2.1 = 0 →
  (addGo l us acc).1 = acc ++ (us.filter fun u => decide (sumV l u ≠ 0)).map (fun u => ((u, (sumV l u, ())) : Leg)) ∧ ∀ u ∈ us, I64 (sumV l u)
 | [], acc, _ => by simp [addGo]
 | u :: us, acc, h => by
  unfold addGo at h ⊢
  by_cases hI : I64 (sumV l u)
  ·rw [if_pos hI] at h ⊢
   by_cases h0 : sumV l u = 0
   ·rw [if_pos h0] at h ⊢
    obtain ⟨h1, h2⟩ := addGo_ok l us _ h
    refine ⟨?_, fun x hx => ?_⟩
    ·rw [h1, List.filter_cons, if_neg (by simp [h0])]
    ·rcases List.mem_cons.1 hx with rfl | hx
     ·exact hI
     ·exact h2 x hx
   ·rw [if_neg h0] at h ⊢
    obtain ⟨h1, h2⟩ := addGo_ok l us _ h
    refine ⟨?_, fun x hx => ?_⟩
    ·rw [h1, List.filter_cons, if_pos (by simp [h0])]; simp
    ·rcases List.mem_cons.1 hx with rfl | hx
     ·exact hI
     ·exact h2 x hx
  ·rw [if_neg hI] at h; simp at h
def resV (f : Int → Int) : List Leg := (ks.filter fun u => decide (f u ≠ 0)).map fun u => ((u, (f u, ())) : Leg)
theorem resV_len (f : Int → Int) : (resV f).length ≤ 8 := by
 unfold resV; rw [List.length_map]; exact Nat.le_trans (List.length_filter_le _ _) (by decide)
theorem ks_sorted : ks.Pairwise (· < ·) := by decide
theorem resV_V (f : Int → Int) : VInv (resV f) := by
 refine ⟨fun x hx => ?_, ?_⟩
 ·obtain ⟨u, hu, rfl⟩ := List.mem_map.1 hx
  obtain ⟨h1, h2⟩ := List.mem_filter.1 hu
  simp only [decide_eq_true_eq] at h2
  exact ⟨(ks_mem u).1 h1, h2⟩
 ·unfold resV
  rw [List.map_map]
  have : ((fun x : Leg => x.1) ∘ fun u => ((u, (f u, ())) : Leg)) = id := rfl
  rw [this, List.map_id]
  exact ks_sorted.filter _
theorem getV_none {l : List Leg} {k : Int} (h : ∀ x ∈ l, x.1 ≠ k) : getV l k = 0 := by
 induction l with
 | nil => rfl
 | cons x l ih => rw [getV, if_neg (h x (by simp)), ih fun y hy => h y (by simp [hy])]
theorem getV_out {l : List Leg} (h : VInv l) {k : Int} (hk : k ∉ ks) : getV l k = 0 := by
 refine getV_none fun x hx e => hk ?_
 rw [← e, ks_mem]; exact (h.1 x hx).1
theorem getV_map (f : Int → Int) (us : List Int) (k : Int) : getV (us.map fun u => ((u, (f u, ())) : Leg)) k = if k ∈ us then f k else 0 := by
 induction us with
 | nil => rfl
 | cons u us ih =>
  rw [List.map_cons, getV, ih]
  by_cases h : u = k
  ·subst h; simp
  ·rw [if_neg h]
   by_cases hm : k ∈ us
   ·rw [if_pos hm, if_pos (by simp [hm])]
   ·rw [if_neg hm, if_neg (by simp [hm, Ne.symm h])]
theorem resV_get (f : Int → Int) (k : Int) (hf : k ∉ ks → f k = 0) : getV (resV f) k = f k := by
 unfold resV
 rw [getV_map]
 by_cases h : k ∈ ks
 ·by_cases h0 : f k = 0
  ·rw [if_neg (by simp [h0]), h0]
  ·rw [if_pos (by simp [h, h0])]
 ·rw [if_neg (by simp [h]), hf h]
theorem addV_ok {l : List (List Leg)} (h : (addV l).2.1 = 0) : l.all isV = true ∧ (addV l).1 = resV (sumV l) ∧ (∀ k ∈ ks, I64 (sumV l k)) ∧ ∀ k, getV (addV l).1 k = sumV l k := by
 unfold addV at h ⊢
 by_cases hv : l.all isV = true
 ·rw [if_pos hv] at h ⊢
  obtain ⟨h1, h2⟩ := addGo_ok l ks [] h
  rw [List.nil_append] at h1
  refine ⟨hv, h1, h2, fun k => ?_⟩
  rw [h1]
  refine resV_get _ k fun hk => ?_
  unfold sumV
  have : ∀ x ∈ l.map (fun v => getV v k), x = 0 := by
   intro x hx
   obtain ⟨v, hv', rfl⟩ := List.mem_map.1 hx
   exact getV_out (of_decide_eq_true (List.all_eq_true.1 hv v hv')) hk
  clear h h1 h2
  generalize l.map (fun v => getV v k) = m at this
  induction m with
  | nil => rfl
  | cons x m ih => rw [List.sum_cons, this x (by simp), ih fun y hy => this y (by simp [hy])]; rfl
 ·rw [if_neg hv] at h; simp at h
theorem r_neg1 {k q : Int} (hk : 1 ≤ k ∧ k ≤ 8) (hq : q ≠ 0) (hI : I64 q) (hI2 : I64 (-q)) : vec_Neg [(k, (q, ()))] = some ([(k, (-q, ()))], (0, ())) := by
 show zvl stdW [(k, (q, ()))] = _
 unfold zvl
 have hv : isV [((k, (q, ())) : Leg)] = true := decide_eq_true ⟨by intro x hx; simp only [List.mem_singleton] at hx; subst hx; exact ⟨hk, hq⟩, by simp⟩
 rw [zaa (r_none (by simp)), hv, cnd_n (by decide)]
 refine zpa (N := 1) (by omega) (fun i => ((i : Int), ((([((k, (-q, ())) : Leg)]).take i), ()))) _ rfl ?_ ?_
 ·intro again
  show stdW.cnd (decide ((1 : Int) < (1 : Int))) _ _ = _
  rw [cnd_n (by decide)]; rfl
 ·intro i hi again ha
  have : i = 0 := by omega
  subst this
  have e := r_fSub (a := 0) (b := q) (by unfold I64; omega) hI
  rw [show (0 : Int) - q = -q by omega] at e
  show stdW.cnd (decide ((0 : Int) < (1 : Int))) (stdW.call (zzr 0 q) _) _ = _
  rw [cnd_y (by decide), zaa e]
  unfold fits64
  rw [if_pos hI2]
  show stdW.cnd ((0 : Int) != 0) _ (stdW.room 1 16 (again (IntKind.i64.wrap (0 + 1), ([(k, (-q, ()))], ())))) = _
  rw [cnd_n (by decide), room_w (by omega) (by omega)]
  exact ha
end Go.Proofs.YtbpbkmngbhgpfaaGreat

namespace Go.Proofs.YtbpbkmngbhgpfaaGreat
open Go Go.Vc Go.RowKit
def ofB : List APos' → AUnit' → List Leg
 | [], _ => []
 | p :: l, u => if p.1 = u then p.2.1 else ofB l u
theorem r_cloneL {s : List Leg} (h : s.length ≤ 1000000) : zaw s = some s := by
 show zbf stdW s = _
 unfold zbf
 rw [nilq_w]
 refine nilF_eq ?_ fun he => ?_
 ·show stdW.cnd (notIf false false) _ _ = _
  rw [cnd_n (by decide), room_w (by omega) (by omega)]; rfl
 ·have : s = [] := by simpa using he
  subst this; rfl
theorem r_bof {l : List APos'} {u : AUnit'} (hb : okB l) : book_Of l u = some (ofB l u) := by
 have hl := hb.2
 show zwv stdW l u = _
 unfold zwv
 refine zcz (l := l) (by omega) (s0 := ()) (fun _ _ => True) (fun l' _ => some (ofB l' u)) trivial ?_ ?_
 ·rintro _ again _
  rw [zbg]; rfl
 ·rintro i hi _ _ again ha
  have h2 := (hb.1 _ (List.getElem_mem hi)).2
  rw [cnd_lt hi, idx_w hi, nif_f, eqA]
  show _ = some (ofB (l[i] :: l.drop (i + 1)) u)
  rw [ofB]
  by_cases h : l[i].1 = u
  ·rw [cnd_y (decide_eq_true h), if_pos h, zaa (r_cloneL (by omega))]
  ·rw [cnd_n (decide_eq_false h), if_neg h]
   show again (IntKind.i64.wrap ((i : Int) + 1), ()) = _
   rw [i64_s i (by omega)]
   exact ha _ trivial
theorem r_copied {l : List APos'} (hb : okB l) : zpk l = some l := by
 have hl := hb.2
 show zhq stdW l = _
 unfold zhq
 refine zpa (N := l.length) (by omega) (fun i => ((i : Int), (l.take i, ()))) _ rfl ?_ ?_
 ·intro again
  show stdW.cnd (decide ((l.length : Int) < (l.length : Int))) _ (some (l.take l.length)) = _
  rw [zbg, List.take_length]
 ·intro i hi again ha
  have h2 := (hb.1 _ (List.getElem_mem hi)).2
  show stdW.cnd (decide ((i : Int) < (l.length : Int))) (stdW.idx l (i : Int) fun x3 => stdW.call (zaw x3.2.1) fun v4 => stdW.room ((l.take i).length + 1) 40 (again (IntKind.i64.wrap ((i : Int) + 1), (l.take i ++ [(x3.1, (v4, ()))], ())))) _ = _
  have : (l.take i).length ≤ 100 := by rw [List.length_take]; omega
  rw [cnd_lt hi, idx_w hi, zaa (r_cloneL (by omega)), room_w (by omega) (by omega), i64_s i (by omega)]
  rw [List.take_succ_eq_append_getElem hi] at ha
  exact ha
def lowB (u : AUnit') (l : List APos') : List APos' := l.filter fun p => decide (ltA p.1 u)
def midB (u : AUnit') (l : List APos') : List APos' := l.filter fun p => decide (p.1 = u)
def highB (u : AUnit') (l : List APos') : List APos' := l.filter fun p => decide (ltA u p.1)
theorem zhn {α : Type} {f : α → Bool} {l : List α} (h : ∀ x ∈ l, f x = false) : l.filter f = [] := List.filter_eq_nil_iff.2 fun x hx => by simp [h x hx]
theorem fil_all {α : Type} {f : α → Bool} {l : List α} (h : ∀ x ∈ l, f x = true) : l.filter f = l := List.filter_eq_self.2 h
theorem cutB (u : AUnit') : ∀ {l : List APos'}, SrtA (l.map (·.1)) → l = lowB u l ++ (midB u l ++ highB u l)
 | [], _ => rfl
 | p :: l, h => by
  obtain ⟨h1, h2⟩ := List.pairwise_cons.1 h
  have h1 : ∀ x ∈ l, ltA p.1 x.1 := fun x hx => h1 _ (List.mem_map_of_mem hx)
  have ih := cutB u (l := l) h2
  unfold lowB midB highB at ih ⊢
  rw [List.filter_cons, List.filter_cons, List.filter_cons]
  by_cases hp : ltA p.1 u
  ·have e1 : ¬ p.1 = u := fun e => zdu u (by rw [e] at hp; exact hp)
   have e2 : ¬ ltA u p.1 := fun e => ltA_as hp e
   rw [if_pos (by simpa using hp), if_neg (by simpa using e1), if_neg (by simpa using e2), List.cons_append, ← ih]
  ·by_cases hu : p.1 = u
   ·have e2 : ¬ ltA u p.1 := by rw [hu]; exact zdu u
    have a1 : ∀ x ∈ l, decide (ltA x.1 u) = false := fun x hx => decide_eq_false fun e => ltA_as e (by rw [← hu]; exact h1 x hx)
    have a2 : ∀ x ∈ l, decide (x.1 = u) = false := fun x hx => decide_eq_false fun e => zdu u (by have := h1 x hx; rw [hu, e] at this; exact this)
    have a3 : ∀ x ∈ l, decide (ltA u x.1) = true := fun x hx => decide_eq_true (by rw [← hu]; exact h1 x hx)
    rw [if_neg (by simpa using hp), if_pos (by simpa using hu), if_neg (by simpa using e2), zhn a1, zhn a2, fil_all a3]; rfl
   ·have e2 : ltA u p.1 := Classical.byContradiction fun hn => hu (ltA_tot hp hn)
    have a1 : ∀ x ∈ l, decide (ltA x.1 u) = false := fun x hx => decide_eq_false fun e => ltA_as (ltA_tr e2 (h1 x hx)) e
    have a2 : ∀ x ∈ l, decide (x.1 = u) = false := fun x hx => decide_eq_false fun e => zdu u (by have := ltA_tr e2 (h1 x hx); rw [e] at this; exact this)
    have a3 : ∀ x ∈ l, decide (ltA u x.1) = true := fun x hx => decide_eq_true (ltA_tr e2 (h1 x hx))
    rw [if_neg (by simpa using hp), if_neg (by simpa using hu), if_pos (by simpa using e2), zhn a1, zhn a2, fil_all a3]; rfl
theorem B_nd {l : List APos'} (h : SrtA (l.map (·.1))) : (l.map (·.1)).Nodup := srt_nd h
theorem ofB_mem {l : List APos'} (h : (l.map (·.1)).Nodup) {p : APos'} (hp : p ∈ l) : ofB l p.1 = p.2.1 := by
 induction l with
 | nil => cases hp
 | cons x l ih =>
  obtain ⟨h1, h2⟩ := List.nodup_cons.1 h
  rw [ofB]
  rcases List.mem_cons.1 hp with rfl | hp
  ·rw [if_pos rfl]
  ·rw [if_neg fun e => h1 (by show x.1 ∈ _; rw [e]; exact List.mem_map_of_mem hp), ih h2 hp]
theorem zvz {l : List APos'} {u : AUnit'} (h : ∀ p ∈ l, p.1 ≠ u) : ofB l u = [] := by
 induction l with
 | nil => rfl
 | cons x l ih => rw [ofB, if_neg (h x (by simp)), ih fun y hy => h y (by simp [hy])]
theorem mid_cases {l : List APos'} (h : SrtA (l.map (·.1))) (u : AUnit') : (midB u l = [] ∧ (∀ p ∈ l, p.1 ≠ u) ∧ ofB l u = []) ∨ (midB u l = [(u, (ofB l u, ()))] ∧ (u, (ofB l u, ())) ∈ l) := by
 by_cases hex : ∃ p ∈ l, p.1 = u
 ·right
  obtain ⟨p, hp, rfl⟩ := hex
  have e := ofB_mem (B_nd h) hp
  have ep : ((p.1, (ofB l p.1, ())) : APos') = p := by rw [e]
  rw [ep]
  refine ⟨?_, hp⟩
  have hn := B_nd h
  clear h e ep
  induction l with
  | nil => cases hp
  | cons x l ih =>
   obtain ⟨h1, h2⟩ := List.nodup_cons.1 hn
   unfold midB at ih ⊢
   rw [List.filter_cons]
   rcases List.mem_cons.1 hp with rfl | hp
   ·rw [if_pos (by simp), zhn fun y hy => decide_eq_false fun e => h1 (by show p.1 ∈ _; rw [← e]; exact List.mem_map_of_mem hy)]
   ·rw [if_neg (by simpa using fun e => h1 (by show x.1 ∈ _; rw [e]; exact List.mem_map_of_mem hp)), ih hp h2]
 ·left
  have hne : ∀ p ∈ l, p.1 ≠ u := fun p hp e => hex ⟨p, hp, e⟩
  exact ⟨zhn fun p hp => decide_eq_false (hne p hp), hne, zvz hne⟩
def hasU (l : List APos') (u : AUnit') : Bool := !(midB u l).isEmpty
theorem r_place {l : List APos'} {u : AUnit'} (hb : okB l) (h : SrtA (l.map (·.1))) : ztz l u = some (((lowB u l).length : Int), (hasU l u, ())) := by
 have hl := hb.2
 have hc := cutB u h
 show zko stdW l u = _
 unfold zko
 have hlow : ∀ p ∈ lowB u l, ltA p.1 u := fun p hp => by simpa using (List.mem_filter.1 hp).2
 have hrest : ∀ p ∈ midB u l ++ highB u l, ¬ ltA p.1 u := fun p hp => by
  rcases List.mem_append.1 hp with hp | hp
  ·have : p.1 = u := by simpa using (List.mem_filter.1 hp).2
   rw [this]; exact zdu u
  ·have : ltA u p.1 := by simpa using (List.mem_filter.1 hp).2
   exact fun e => ltA_as this e
 have hll : (lowB u l).length + (midB u l ++ highB u l).length = l.length := by rw [← List.length_append, ← hc]
 have hget1 : ∀ i (hi : i < l.length), i < (lowB u l).length → ltA l[i].1 u := fun i hi hlt => by
  refine hlow _ ?_
  have : l[i]? = (lowB u l ++ (midB u l ++ highB u l))[i]? := by rw [← hc]
  rw [List.getElem?_append_left hlt, List.getElem?_eq_getElem hi, List.getElem?_eq_getElem hlt] at this
  rw [Option.some.inj this]; exact List.getElem_mem hlt
 have hget2 : ∀ (hi : (lowB u l).length < l.length), (midB u l ++ highB u l)[0]? = some l[(lowB u l).length] := fun hi => by
  have : l[(lowB u l).length]? = (lowB u l ++ (midB u l ++ highB u l))[(lowB u l).length]? := by rw [← hc]
  rw [List.getElem?_append_right (Nat.le_refl _), Nat.sub_self, List.getElem?_eq_getElem hi] at this
  exact this.symm
 refine (zdd (fun z => l.length + 1 - z.1.toNat) (fun z => ∃ i : Nat, i ≤ (lowB u l).length ∧ z = ((i : Int), ())) (fun _ => some (((lowB u l).length : Int), (hasU l u, ()))) ⟨0, Nat.zero_le _, rfl⟩ (by show _ - (0 : Int).toNat < _; omega) ?_)
 rintro _ ⟨i, hi, rfl⟩ again ha
 show stdW.cnd (decide ((i : Int) < (l.length : Int))) (stdW.idx l (i : Int) _) (some ((l.length : Int), (false, ()))) = _
 by_cases hlt : i < (lowB u l).length
 ·have hil : i < l.length := by omega
  rw [cnd_lt hil, idx_w hil, zaa (r_lessA _ _), decide_eq_true (hget1 i hil hlt), cnd_n (by decide)]
  show again (IntKind.i64.wrap ((i : Int) + 1), ()) = _
  rw [i64_s i (by omega)]
  exact ha _ ⟨i + 1, by omega, rfl⟩ (by show _ - ((i + 1 : Nat) : Int).toNat < _ - ((i : Nat) : Int).toNat; omega)
 ·have hie : i = (lowB u l).length := by omega
  by_cases hil : i < l.length
  ·subst hie
   have h0 := hget2 hil
   have hm := hrest l[(lowB u l).length] (List.mem_of_getElem? h0)
   rw [cnd_lt hil, idx_w hil, zaa (r_lessA _ _), decide_eq_false hm, cnd_y (by decide), nif_f, eqA]
   congr 3
   unfold hasU
   cases hmid : midB u l with
   | nil =>
    rw [hmid, List.nil_append] at h0
    have := List.mem_of_getElem? h0
    have : ltA u l[(lowB u l).length].1 := by simpa using (List.mem_filter.1 this).2
    rw [decide_eq_false fun e => zdu u (by rw [e] at this; exact this)]; rfl
   | cons p m =>
    rw [hmid] at h0
    have e : p = l[(lowB u l).length] := by simpa using h0
    have hp : p ∈ midB u l := by rw [hmid]; simp
    have : p.1 = u := by simpa using (List.mem_filter.1 hp).2
    rw [← e, decide_eq_true this]; rfl
  ·have hil' : i = l.length := by omega
   have : midB u l ++ highB u l = [] := List.eq_nil_of_length_eq_zero (by omega)
   have hm : midB u l = [] := (List.append_eq_nil_iff.1 this).1
   rw [cnd_n (decide_eq_false (by omega))]
   unfold hasU
   rw [hm, ← hie, hil']; rfl
def putB (l : List APos') (u : AUnit') (now : List Leg) : List APos' := lowB u l ++ ((if now = [] then [] else [(u, (now, ()))]) ++ highB u l)
theorem putB_len {l : List APos'} (h : SrtA (l.map (·.1))) (u : AUnit') (now : List Leg) : (putB l u now).length ≤ l.length + 1 := by
 have hc := congrArg List.length (cutB u h)
 unfold putB
 rw [List.length_append, List.length_append] at hc
 rw [List.length_append, List.length_append]
 split <;> simp <;> omega
theorem znd {l : List APos'} {u : AUnit'} {now : List Leg} {p : APos'} : p ∈ putB l u now ↔ (p ∈ l ∧ p.1 ≠ u) ∨ (now ≠ [] ∧ p = (u, (now, ()))) := by
 unfold putB lowB highB
 rw [List.mem_append, List.mem_append, List.mem_filter, List.mem_filter]
 constructor
 ·rintro (⟨h1, h2⟩ | h | ⟨h1, h2⟩)
  ·exact .inl ⟨h1, fun e => zdu u (by simp only [decide_eq_true_eq] at h2; rw [e] at h2; exact h2)⟩
  ·split at h
   ·cases h
   ·rename_i hn; exact .inr ⟨hn, by simpa using h⟩
  ·exact .inl ⟨h1, fun e => zdu u (by simp only [decide_eq_true_eq] at h2; rw [e] at h2; exact h2)⟩
 ·rintro (⟨h1, h2⟩ | ⟨hn, rfl⟩)
  ·by_cases hlt : ltA p.1 u
   ·exact .inl ⟨h1, by simpa using hlt⟩
   ·by_cases hgt : ltA u p.1
    ·exact .inr (.inr ⟨h1, by simpa using hgt⟩)
    ·exact absurd (ltA_tot hlt hgt) h2
  ·rw [if_neg hn]; exact .inr (.inl (by simp))
theorem putB_srt {l : List APos'} (h : SrtA (l.map (·.1))) (u : AUnit') (now : List Leg) : SrtA ((putB l u now).map (·.1)) := by
 unfold putB
 rw [List.map_append, List.map_append]
 have hlow : ∀ x ∈ (lowB u l).map (·.1), ltA x u := fun x hx => by
  obtain ⟨p, hp, rfl⟩ := List.mem_map.1 hx
  simpa using (List.mem_filter.1 hp).2
 have hhigh : ∀ x ∈ (highB u l).map (·.1), ltA u x := fun x hx => by
  obtain ⟨p, hp, rfl⟩ := List.mem_map.1 hx
  simpa using (List.mem_filter.1 hp).2
 have s1 : SrtA ((lowB u l).map (·.1)) := List.Pairwise.sublist ((List.filter_sublist).map _) h
 have s2 : SrtA ((highB u l).map (·.1)) := List.Pairwise.sublist ((List.filter_sublist).map _) h
 have hmid : ∀ x ∈ (if now = [] then ([] : List APos') else [(u, (now, ()))]).map (·.1), x = u := fun x hx => by
  split at hx
  ·cases hx
  ·simpa using hx
 refine List.pairwise_append.2 ⟨s1, List.pairwise_append.2 ⟨?_, s2, fun a ha b hb => ?_⟩, fun a ha b hb => ?_⟩
 ·split <;> simp
 ·rw [hmid a ha]; exact hhigh b hb
 ·rcases List.mem_append.1 hb with hb | hb
  ·rw [hmid b hb]; exact hlow a ha
  ·exact ltA_tr (hlow a ha) (hhigh b hb)
theorem putB_B {l : List APos'} (h : BInv l) (u : AUnit') {now : List Leg} (hv : VInv now) : BInv (putB l u now) :=
 ⟨fun p hp => by
  rcases znd.1 hp with ⟨h1, _⟩ | ⟨hn, rfl⟩
  ·exact h.1 p h1
  ·exact ⟨hn, hv⟩, putB_srt h.2 u now⟩
theorem putB_of {l : List APos'} (h : SrtA (l.map (·.1))) (u : AUnit') (now : List Leg) (x : AUnit') : ofB (putB l u now) x = if x = u then now else ofB l x := by
 have hn := B_nd (putB_srt h u now)
 by_cases hx : x = u
 ·subst hx
  rw [if_pos rfl]
  by_cases h0 : now = []
  ·rw [h0]
   refine zvz fun p hp => ?_
   rcases znd.1 hp with ⟨_, h2⟩ | ⟨h2, _⟩
   ·exact h2
   ·exact absurd rfl h2
  ·exact ofB_mem hn (p := (x, (now, ()))) (znd.2 (.inr ⟨h0, rfl⟩))
 ·rw [if_neg hx]
  by_cases hex : ∃ p ∈ l, p.1 = x
  ·obtain ⟨p, hp, rfl⟩ := hex
   rw [ofB_mem (B_nd h) hp, ofB_mem hn (znd.2 (.inl ⟨hp, hx⟩))]
  ·have hne : ∀ p ∈ l, p.1 ≠ x := fun p hp e => hex ⟨p, hp, e⟩
   rw [zvz hne]
   refine zvz fun p hp => ?_
   rcases znd.1 hp with ⟨h1, _⟩ | ⟨_, rfl⟩
   ·exact hne p h1
   ·exact Ne.symm hx
theorem opn_put {l : List APos'} (h : SrtA (l.map (·.1))) (u : AUnit') (now : List Leg) (k : Int) : opnZ (putB l u now) k = opnZ l k - getV (ofB l u) k + getV now k := by
 have e : opnZ l k = opnZ (lowB u l) k + (opnZ (midB u l) k + opnZ (highB u l) k) := by
  have := congrArg (fun m => opnZ m k) (cutB u h)
  unfold opnZ at this ⊢
  rw [zlb, zlb] at this
  exact this
 have e2 : opnZ (midB u l) k = getV (ofB l u) k := by
  rcases mid_cases h u with ⟨h1, _, h3⟩ | ⟨h1, _⟩
  ·rw [h1, h3]; rfl
  ·rw [h1]; show getV (ofB l u) k + 0 = _; omega
 have e3 : opnZ (putB l u now) k = opnZ (lowB u l) k + (getV now k + opnZ (highB u l) k) := by
  unfold putB opnZ
  rw [zlb, zlb]
  by_cases h0 : now = []
  ·rw [if_pos h0, h0]; rfl
  ·rw [if_neg h0]
   show _ + ((getV now k + 0) + _) = _; omega
 rw [e3, e, e2]; omega
def shiftP (l : List APos') (u : AUnit') (legs : List Leg) : List APos' × Int × Unit :=
 if isB l = true then (if (addV [ofB l u, legs]).2.1 = 0 then (putB l u (addV [ofB l u, legs]).1, (0, ())) else ([], (addV [ofB l u, legs]).2)) else ([], (3, ()))
theorem ofB_ok {l : List APos'} (hb : okB l) (u : AUnit') : okL (ofB l u) ∧ (ofB l u).length ≤ 100 := by
 have : ∀ l : List APos', (∀ p ∈ l, okL p.2.1 ∧ p.2.1.length ≤ 100) → okL (ofB l u) ∧ (ofB l u).length ≤ 100 := by
  intro l
  induction l with
  | nil => intro _; exact ⟨(fun x hx => by cases hx), by simp [ofB]⟩
  | cons p l ih =>
   intro h
   rw [ofB]
   split
   ·exact h p (by simp)
   ·exact ih fun q hq => h q (by simp [hq])
 exact this l hb.1
theorem r_shift {l : List APos'} {u : AUnit'} {legs : List Leg} (hb : okB l) (hl : l.length ≤ 90) (ho : okL legs) (hg : legs.length ≤ 100) : zir l u legs = some (shiftP l u legs) := by
 show zkp stdW l u legs = _
 unfold zkp shiftP
 rw [zaa (r_isB hb)]
 by_cases hp : isB l = true
 ·have hB : BInv l := of_decide_eq_true hp
  obtain ⟨h1, h2⟩ := ofB_ok hb u
  rw [hp, cnd_n (by decide), if_pos rfl, zaa (r_bof hb), zaa (r_vadd (l := [ofB l u, legs]) (by simp) (fun v hv => by
   simp only [List.mem_cons, List.not_mem_nil, or_false] at hv
   rcases hv with rfl | rfl <;> omega) (fun v hv => by
   simp only [List.mem_cons, List.not_mem_nil, or_false] at hv
   rcases hv with rfl | rfl
   ·exact h1
   ·exact ho))]
  by_cases he : (addV [ofB l u, legs]).2.1 = 0
  ·have hnow := (addV_ok he).2.1
   have hnl := resV_len (sumV [ofB l u, legs])
   rw [← hnow] at hnl
   rw [cnd_n (by simp [he]), if_pos he, zaa (r_place hb hB.2), zaa (r_copied hb)]
   have hc := cutB u hB.2
   have hcl := congrArg List.length hc
   rw [List.length_append, List.length_append] at hcl
   refine join_g fun k10 hk => ?_
   have kk : ∀ o : List APos', o = lowB u l ++ highB u l → k10 ((addV [ofB l u, legs]).1, (o, ())) = some (putB l u (addV [ofB l u, legs]).1, (0, ())) := by
    intro o ho'
    subst hk
    refine join_g fun k8 hk8 => ?_
    have k8' : ∀ o', k8 (o', ()) = some (o', (0, ())) := by intro o'; subst hk8; rfl
    clear hk8
    show stdW.cnd (decide ((0 : Int) < ((addV [ofB l u, legs]).1.length : Int))) (stdW.call (insO o ((lowB u l).length : Int) [(u, ((addV [ofB l u, legs]).1, ()))]) fun v9 => k8 (v9.1, ())) (k8 (o, ())) = _
    unfold putB
    by_cases h0 : (addV [ofB l u, legs]).1 = []
    ·rw [cnd_n (decide_eq_false (by rw [h0]; simp)), k8', if_pos h0, ho']; rfl
    ·have hpos : 0 < (addV [ofB l u, legs]).1.length := List.length_pos_iff.2 h0
     have e : insO o ((lowB u l).length : Int) [(u, ((addV [ofB l u, legs]).1, ()))] = some (lowB u l ++ (u, ((addV [ofB l u, legs]).1, ())) :: highB u l, ()) := by
      unfold insO
      rw [ho', if_pos ⟨by omega, by rw [List.length_append]; omega, by rw [List.length_append]; omega⟩]
      show some ((lowB u l ++ highB u l).take ((lowB u l).length : Int).toNat ++ _ :: (lowB u l ++ highB u l).drop ((lowB u l).length : Int).toNat, ()) = _
      rw [Int.toNat_natCast, List.take_left, List.drop_left]
     rw [cnd_y (decide_eq_true (by omega)), zaa e, if_neg h0]
     exact k8' _
   clear hk
   show stdW.cnd (hasU l u) (stdW.call (delO l ((lowB u l).length : Int) (IntKind.i64.wrap (((lowB u l).length : Int) + 1))) fun v11 => k10 ((addV [ofB l u, legs]).1, (v11.1, ()))) (k10 ((addV [ofB l u, legs]).1, (l, ()))) = _
   rcases mid_cases hB.2 u with ⟨h3, _, _⟩ | ⟨h3, _⟩
   ·rw [cnd_n (by unfold hasU; rw [h3]; rfl)]
    rw [h3, List.nil_append] at hc
    exact kk l hc
   ·rw [h3] at hc hcl
    rw [cnd_y (by unfold hasU; rw [h3]; rfl), i64_s _ (by simp at hcl; omega)]
    have e : delO l ((lowB u l).length : Int) (((lowB u l).length + 1 : Nat) : Int) = some (lowB u l ++ highB u l, ()) := by
     unfold delO
     rw [if_pos ⟨by omega, by omega, by simp at hcl; omega⟩, Int.toNat_natCast, Int.toNat_natCast]
     congr 2
     have e1 : l.take (lowB u l).length = lowB u l := by
      have := congrArg (List.take (lowB u l).length) hc
      rwa [List.take_left] at this
     have e2 : l.drop ((lowB u l).length + 1) = highB u l := by
      have := congrArg (List.drop ((lowB u l).length + 1)) hc
      rw [List.drop_append, List.drop_eq_nil_of_le (Nat.le_succ _), Nat.add_sub_cancel_left] at this
      exact this
     rw [e1, e2]
    rw [zaa e]
    exact kk _ rfl
  ·rw [cnd_y (by simp [he]), if_neg he]
 ·have hp : isB l = false := by simpa using hp
  rw [hp, cnd_y (by decide), if_neg (by simp)]
end Go.Proofs.YtbpbkmngbhgpfaaGreat

namespace Go.Proofs.YtbpbkmngbhgpfaaGreat
open Go Go.Vc Go.RowKit
end Go.Proofs.YtbpbkmngbhgpfaaGreat

namespace Go.Proofs.YtbpbkmngbhgpfaaGreat
open Go Go.Vc Go.RowKit
theorem znc (p : Int) : zdw p = some (decide (0 ≤ p ∧ p ≤ 2147483647)) := by
 show zhl stdW p = _
 unfold zhl
 by_cases h : 0 ≤ p
 ·rw [cnd_y (decide_eq_true h)]; congr 1; exact decide_eq_decide.2 (by omega)
 ·rw [cnd_n (decide_eq_false h), decide_eq_false (by omega)]
def farI (m : Int) : Bool := decide (m < -2147483647) || decide (2147483647 < m)
theorem r_far (m : Int) : inst_far m = some (farI m) := by
 show zro stdW m = _
 unfold zro farI
 by_cases h : m < -2147483647
 ·rw [cnd_y (decide_eq_true h), decide_eq_true h]; rfl
 ·rw [cnd_n (decide_eq_false h), decide_eq_false h]; rfl
theorem r_ixf {s : List Int} (hs : s.length ≤ 1000000) : ∃ i : Int, zbc s = some (i, ()) ∧ decide (0 ≤ i) = s.any farI := by
 show ∃ i, zaq stdW s = _ ∧ _
 unfold zaq
 refine loop_P (fun o => ∃ i : Int, o = some (i, ()) ∧ decide (0 ≤ i) = s.any farI) (fun z => s.length + 1 - z.1.toNat) (fun z => ∃ j : Nat, j ≤ s.length ∧ z = ((j : Int), ()) ∧ (s.take j).any farI = false) ⟨0, Nat.zero_le _, rfl, by simp⟩ (by show _ - (0 : Int).toNat < _; omega) ?_
 rintro _ ⟨j, hj, rfl, hp⟩ again ha
 show ∃ i, stdW.cnd (decide ((j : Int) < (s.length : Int))) _ _ = _ ∧ _
 by_cases h : j < s.length
 ·rw [cnd_lt h]
  show ∃ i, stdW.idx s (j : Int) _ = _ ∧ _
  rw [idx_w h, zaa (r_far _)]
  cases hv : farI s[j] with
  | false =>
   rw [cnd_n rfl]
   show ∃ i, again (IntKind.i64.wrap ((j : Int) + 1), ()) = _ ∧ _
   rw [i64_s j (by omega)]
   refine ha _ ⟨j + 1, by omega, rfl, ?_⟩ (by show _ - ((j + 1 : Nat) : Int).toNat < _ - ((j : Nat) : Int).toNat; omega)
   rw [List.take_succ_eq_append_getElem h, List.any_append, hp]; simp [hv]
  | true =>
   rw [cnd_y rfl]
   refine ⟨(j : Int), rfl, ?_⟩
   have : s.any farI = true := List.any_eq_true.2 ⟨s[j], List.getElem_mem h, hv⟩
   rw [this, decide_eq_true (by omega)]
 ·have : j = s.length := by omega
  subst this
  rw [zbg]
  rw [List.take_length] at hp
  exact ⟨-1, rfl, by rw [hp]; rfl⟩
theorem r_cff {s : List Int} (hs : s.length ≤ 1000000) : zav s = some (s.any farI, ()) := by
 show zan stdW s = _
 unfold zan
 obtain ⟨i, e, h⟩ := r_ixf hs
 rw [zaa e]
 show some (decide (0 ≤ i), ()) = _
 rw [h]
def okC (i : AInst') : Prop := (1 ≤ i.1 ∧ i.1 ≤ 8) ∧ (1 ≤ i.2.1 ∧ i.2.1 ≤ 65536) ∧ (0 ≤ i.2.2.1 ∧ i.2.2.1 ≤ 2147483647) ∧ (0 ≤ i.2.2.2.1 ∧ i.2.2.2.1 ≤ 2147483647) ∧ i.2.2.2.2.1.length ≤ 8 ∧ i.2.2.2.2.1.any farI = false
instance (i : AInst') : Decidable (okC i) := by unfold okC; infer_instance
theorem r_check {i : AInst'} (hm : i.2.2.2.2.1.length ≤ 1000000) : zet i = some (if okC i then 0 else 2) := by
 show zkb stdW i = _
 unfold zkb
 refine join_g fun k7 hk7 => ?_
 have bad : ¬ okC i → (2 : Int) = if okC i then 0 else 2 := fun h => (if_neg h).symm
 have k7f : ¬ okC i → k7 (false, ()) = some (if okC i then 0 else 2) := by
  intro h
  rw [← bad h]
  subst hk7
  refine join_g fun k3 hk3 => ?_
  have k3t : k3 (true, ()) = some 2 := by subst hk3; rfl
  clear hk3
  show stdW.cnd true (k3 (true, ())) _ = _
  rw [cnd_y rfl, k3t]
 have k7t : (1 ≤ i.1 ∧ i.1 ≤ 8) → (1 ≤ i.2.1 ∧ i.2.1 ≤ 65536) → k7 (true, ()) = some (if okC i then 0 else 2) := by
  intro c1 c2
  subst hk7
  refine join_g fun k3 hk3 => ?_
  have k3t : k3 (true, ()) = some 2 := by subst hk3; rfl
  have k3f : k3 (false, ()) = some 0 := by subst hk3; rfl
  clear hk3
  show stdW.cnd false _ (stdW.call (zdw i.2.2.1) _) = _
  rw [cnd_n rfl, zaa (znc _)]
  by_cases h3 : 0 ≤ i.2.2.1 ∧ i.2.2.1 ≤ 2147483647
  ·rw [decide_eq_true h3, cnd_n (by decide), zaa (znc _)]
   by_cases h4 : 0 ≤ i.2.2.2.1 ∧ i.2.2.2.1 ≤ 2147483647
   ·rw [decide_eq_true h4, cnd_n (by decide)]
    by_cases h5 : i.2.2.2.2.1.length ≤ 8
    ·rw [cnd_n (decide_eq_false (by omega)), zaa (r_cff hm)]
     cases h6 : i.2.2.2.2.1.any farI with
     | true => rw [← bad fun h => by rw [h.2.2.2.2.2] at h6; cases h6]; exact k3t
     | false => rw [if_pos ⟨c1, c2, h3, h4, h5, h6⟩]; exact k3f
    ·rw [cnd_y (decide_eq_true (by omega)), k3t, ← bad fun h => h5 h.2.2.2.2.1]
   ·rw [decide_eq_false h4, cnd_y (by decide), k3t, ← bad fun h => h4 h.2.2.2.1]
  ·rw [decide_eq_false h3, cnd_y (by decide), k3t, ← bad fun h => h3 h.2.2.1]
 clear hk7
 by_cases h1 : 1 ≤ i.1
 ·rw [cnd_y (decide_eq_true h1)]
  by_cases h2 : i.1 ≤ 8
  ·rw [cnd_y (decide_eq_true h2)]
   by_cases h3 : 1 ≤ i.2.1
   ·rw [cnd_y (decide_eq_true h3)]
    by_cases h4 : i.2.1 ≤ 65536
    ·rw [decide_eq_true h4]; exact k7t ⟨h1, h2⟩ ⟨h3, h4⟩
    ·rw [decide_eq_false h4]; exact k7f fun h => h4 h.2.1.2
   ·rw [cnd_n (decide_eq_false h3)]; exact k7f fun h => h3 h.2.1.1
  ·rw [cnd_n (decide_eq_false h2)]; exact k7f fun h => h2 h.1.2
 ·rw [cnd_n (decide_eq_false h1)]; exact k7f fun h => h1 h.1.1
def rightD (i : AInst') (q p : Int) : Prop := okC i ∧ (0 ≤ p ∧ p ≤ 2147483647) ∧ q ≠ 0 ∧ -1099511627776 ≤ q ∧ q ≤ 1099511627776
instance (i : AInst') (q p : Int) : Decidable (rightD i q p) := by unfold rightD; infer_instance
theorem r_right {i : AInst'} {q p : Int} (hm : i.2.2.2.2.1.length ≤ 1000000) : zoa i q p = some (decide (rightD i q p)) := by
 show zkf stdW i q p = _
 unfold zkf
 have e : zet (i.1, (i.2.1, (i.2.2.1, (i.2.2.2.1, (i.2.2.2.2.1, ()))))) = some (if okC i then 0 else 2) := r_check hm
 rw [zaa e]
 by_cases h0 : okC i
 ·rw [if_pos h0, cnd_y (by decide)]
  by_cases h1 : 0 ≤ p
  ·rw [cnd_y (decide_eq_true h1)]
   by_cases h2 : p ≤ 2147483647
   ·rw [cnd_y (decide_eq_true h2)]
    by_cases h3 : q = 0
    ·rw [cnd_n (by simp [h3]), decide_eq_false fun h => h.2.2.1 h3]
    ·rw [cnd_y (by simp [h3])]
     by_cases h4 : -1099511627776 ≤ q
     ·rw [cnd_y (decide_eq_true h4)]
      congr 1
      exact decide_eq_decide.2 ⟨fun h => ⟨h0, ⟨h1, h2⟩, h3, h4, h⟩, fun h => h.2.2.2.2⟩
     ·rw [cnd_n (decide_eq_false h4), decide_eq_false fun h => h4 h.2.2.2.1]
   ·rw [cnd_n (decide_eq_false h2), decide_eq_false fun h => h2 h.2.1.2]
  ·rw [cnd_n (decide_eq_false h1), decide_eq_false fun h => h1 h.2.1.1]
 ·rw [if_neg h0, cnd_n (by decide), decide_eq_false fun h => h0 h.1]
def gZ (i : AInst') (q a b : Int) : Int := (b - a) * i.2.1 * q
theorem gZ_bd {i : AInst'} (h : okC i) {q a b : Int} (hq : I64 q) (ha : 0 ≤ a ∧ a ≤ 2147483647) (hb : 0 ≤ b ∧ b ≤ 2147483647) : -1298074214633706907132624082305024 ≤ gZ i q a b ∧ gZ i q a b ≤ 1298074214633706907132624082305024 := by
 unfold I64 at hq
 obtain ⟨_, h2, _⟩ := h
 have h1 : -140737488355328 ≤ (b - a) * i.2.1 ∧ (b - a) * i.2.1 ≤ 140737488355328 := mul_abs (A := 2147483648) (B := 65536) (by omega) (by omega)
 exact mul_abs (A := 140737488355328) (B := 9223372036854775808) h1 (by omega)
theorem r_igain {i : AInst'} {q a b : Int} (hm : i.2.2.2.2.1.length ≤ 1000000) (h : okC i) (hq : I64 q) (ha : 0 ≤ a ∧ a ≤ 2147483647) (hb : 0 ≤ b ∧ b ≤ 2147483647) : zdi i q a b = some (fits64 (gZ i q a b)) := by
 show zge stdW i q a b = _
 unfold zge
 have e : zet (i.1, (i.2.1, (i.2.2.1, (i.2.2.2.1, (i.2.2.2.2.1, ()))))) = some (if okC i then 0 else 2) := r_check hm
 have hbd := gZ_bd h hq ha hb
 have h2 := h.2.1
 have h1 : -140737488355328 ≤ (b - a) * i.2.1 ∧ (b - a) * i.2.1 ≤ 140737488355328 := mul_abs (A := 2147483648) (B := 65536) (by omega) (by omega)
 refine join_g fun k5 hk => ?_
 have kf : k5 (false, ()) = some (fits64 (gZ i q a b)) := by
  subst hk
  show stdW.cnd false _ (stdW.call (zvi (IntKind.i64.wrap (b - a)) i.2.1) _) = _
  rw [cnd_n rfl, IntWalk.i64_in _ (by omega), zaa (r_wMul (by unfold I64; omega) (by unfold I64; omega)), zaa (r_wTimes (by unfold I64; omega) hq)]
  show stdW.cnd ((0 : Int) != 0) _ (stdW.call (zpr (wide (gZ i q a b))) _) = _
  rw [cnd_n (by decide), zaa (r_wInt (by unfold In128; omega))]
 clear hk
 rw [zaa e, if_pos h, cnd_n (by decide), zaa (znc _), decide_eq_true ha, cnd_n (by decide), zaa (znc _), decide_eq_true hb]
 exact kf
structure ShOk (l l' : List APos') (u : AUnit') (legs : List Leg) : Prop where
 inv : BInv l
 inv' : BInv l'
 other : ∀ x, x ≠ u → ofB l' x = ofB l x
 own : ∀ j, getV (ofB l' u) j = getV (ofB l u) j + getV legs j
 opn : ∀ j, opnZ l' j = opnZ l j + getV legs j
 len : l'.length ≤ l.length + 1
 ok : okB l → l.length ≤ 99 → okB l'
theorem sumV2 (a b : List Leg) (k : Int) : sumV [a, b] k = getV a k + getV b k := by
 show getV a k + (getV b k + 0) = _; omega
theorem zvp {l : List APos'} {u : AUnit'} {legs : List Leg} (h : (shiftP l u legs).2.1 = 0) : ShOk l (shiftP l u legs).1 u legs := by
 unfold shiftP at h ⊢
 by_cases hp : isB l = true
 ·have hB : BInv l := of_decide_eq_true hp
  rw [if_pos hp] at h ⊢
  by_cases he : (addV [ofB l u, legs]).2.1 = 0
  ·rw [if_pos he] at h ⊢
   obtain ⟨h1, h2, h3, h4⟩ := addV_ok he
   have hV : VInv (addV [ofB l u, legs]).1 := by rw [h2]; exact resV_V _
   refine ⟨hB, putB_B hB u hV, fun x hx => by rw [putB_of hB.2, if_neg hx], fun j => by rw [putB_of hB.2, if_pos rfl, h4, sumV2], fun j => by rw [opn_put hB.2, h4, sumV2]; omega, putB_len hB.2 u _, fun hb hl => ⟨fun p hp => ?_, by show (putB l u (addV [ofB l u, legs]).1).length ≤ 100; have := putB_len hB.2 u (addV [ofB l u, legs]).1; omega⟩⟩
   rcases znd.1 hp with ⟨h5, _⟩ | ⟨_, rfl⟩
   ·exact hb.1 p h5
   ·refine ⟨fun x hx => ?_, ?_⟩
    ·show I64 x.2.1
     have hx : x ∈ (addV [ofB l u, legs]).1 := hx
     rw [h2] at hx
     obtain ⟨v, hv, rfl⟩ := List.mem_map.1 hx
     exact h3 v (List.mem_filter.1 hv).1
    ·show (addV [ofB l u, legs]).1.length ≤ 100
     rw [h2]; exact Nat.le_trans (resV_len _) (by decide)
  ·rw [if_neg he] at h; exact absurd h he
 ·rw [if_neg hp] at h; simp at h
def moveB (l : List APos') (f t : AUnit') (k q : Int) : List APos' × Int × Unit :=
 if isB l = true then (if (shiftP l f [(k, (-q, ()))]).2.1 = 0 then shiftP (shiftP l f [(k, (-q, ()))]).1 t [(k, (q, ()))] else ([], (shiftP l f [(k, (-q, ()))]).2)) else ([], (3, ()))
theorem okL1 {k q : Int} (h : I64 q) : okL [((k, (q, ())) : Leg)] := fun x hx => by
 simp only [List.mem_singleton] at hx; subst hx; exact h
theorem r_bmove {l : List APos'} {f t : AUnit'} {k q : Int} (hb : okB l) (hl : l.length ≤ 80) (hk : 1 ≤ k ∧ k ≤ 8) (hq : q ≠ 0) (hI : I64 q) (hI2 : I64 (-q)) : zsb l f t [(k, (q, ()))] = some (moveB l f t k q) := by
 show zoc stdW l f t [(k, (q, ()))] = _
 unfold zoc moveB
 rw [zaa (r_isB hb)]
 by_cases hp : isB l = true
 ·rw [hp, cnd_n (by decide), if_pos rfl, zaa (r_neg1 hk hq hI hI2)]
  show stdW.cnd ((0 : Int) != 0) _ (stdW.call (zir l f [(k, (-q, ()))]) _) = _
  rw [cnd_n (by decide), zaa (r_shift hb (by omega) (okL1 hI2) (by simp))]
  by_cases he : (shiftP l f [(k, (-q, ()))]).2.1 = 0
  ·have S := zvp he
   have hlen := S.len
   rw [cnd_n (by simp [he]), if_pos he, zaa (r_shift (S.ok hb (by omega)) (by omega) (okL1 hI) (by simp))]
  ·rw [cnd_y (by simp [he]), if_neg he]
 ·have hp : isB l = false := by simpa using hp
  rw [hp, cnd_y (by decide), if_neg (by simp)]
structure MvOk (l l' : List APos') (f t : AUnit') (k q : Int) : Prop where
 inv : BInv l
 inv' : BInv l'
 of : ∀ x j, getV (ofB l' x) j = getV (ofB l x) j + (if x = f then getV [((k, (-q, ())) : Leg)] j else 0) + (if x = t then getV [((k, (q, ())) : Leg)] j else 0)
 other : ∀ x, x ≠ f → x ≠ t → ofB l' x = ofB l x
 opn : ∀ j, opnZ l' j = opnZ l j
 len : l'.length ≤ l.length + 2
 ok : okB l → l.length ≤ 90 → okB l'
theorem move_ok {l : List APos'} {f t : AUnit'} {k q : Int} (h : (moveB l f t k q).2.1 = 0) : MvOk l (moveB l f t k q).1 f t k q := by
 unfold moveB at h ⊢
 by_cases hp : isB l = true
 ·rw [if_pos hp] at h ⊢
  by_cases he : (shiftP l f [(k, (-q, ()))]).2.1 = 0
  ·rw [if_pos he] at h ⊢
   have S := zvp he
   have T := zvp h
   refine ⟨S.inv, T.inv', fun x j => ?_, fun x h1 h2 => by rw [T.other x h2, S.other x h1], fun j => ?_, by have := S.len; have := T.len; omega, fun hb hl => T.ok (S.ok hb (by omega)) (by have := S.len; omega)⟩
   ·by_cases ht : x = t
    ·subst ht
     rw [T.own, if_pos rfl]
     by_cases hf : x = f
     ·subst hf; rw [S.own, if_pos rfl]
     ·rw [S.other x hf, if_neg hf]; omega
    ·rw [T.other x ht, if_neg ht]
     by_cases hf : x = f
     ·subst hf; rw [S.own, if_pos rfl]; omega
     ·rw [S.other x hf, if_neg hf]; omega
   ·rw [T.opn, S.opn]
    have : getV [((k, (-q, ())) : Leg)] j + getV [((k, (q, ())) : Leg)] j = 0 := by
     simp only [getV]
     split <;> omega
    omega
  ·rw [if_neg he] at h; exact absurd h he
 ·rw [if_neg hp] at h; simp at h
def noD : zag := ([], ([], ()))
def atP (d : zag) (i : AInst') (f t : AUnit') (q p : Int) : zag × Int × Unit :=
 if isB d.1 = true ∧ isP d.2.1 = true then (
  if rightD i q p then (
   if f = t then (noD, (24, ())) else (
    if I64 (gZ i q p i.2.2.1) then (
     if (moveB d.1 f t i.1 q).2.1 = 0 then (
      if (moveP d.2.1 f t (gZ i q p i.2.2.1)).2.1 = 0 then (((moveB d.1 f t i.1 q).1, ((moveP d.2.1 f t (gZ i q p i.2.2.1)).1, ())), (0, ()))
      else (noD, (moveP d.2.1 f t (gZ i q p i.2.2.1)).2))
     else (noD, (moveB d.1 f t i.1 q).2))
    else (noD, (7, ()))))
  else (noD, (2, ())))
 else (noD, (3, ()))
def okDk (d : zag) (n : Nat) : Prop := (okB d.1 ∧ d.1.length ≤ n) ∧ (okF d.2.1 ∧ d.2.1.length ≤ n)
theorem r_dealIs {d : zag} (hd : okDk d 100) : zmc d = some (isB d.1 && isP d.2.1) := by
 show zwq stdW d = _
 unfold zwq
 rw [zaa (r_isB hd.1.1)]
 cases isB d.1 with
 | true => rw [cnd_y rfl, zaa (r_is (by have := hd.2.2; omega))]; rfl
 | false => rw [cnd_n rfl]; rfl
theorem r_at {d : zag} {i : AInst'} {f t : AUnit'} {q p : Int} (hd : okDk d 70) (hm : i.2.2.2.2.1.length ≤ 1000000) (hq : I64 q) : zeu d i f t q p = some (atP d i f t q p) := by
 show zwr stdW d i f t q p = _
 unfold zwr atP
 obtain ⟨⟨hb, hbl⟩, hf, hfl⟩ := hd
 have e1 : zmc (d.1, (d.2.1, ())) = some (isB d.1 && isP d.2.1) := r_dealIs (d := d) ⟨⟨hb, by omega⟩, hf, by omega⟩
 have e2 : zoa (i.1, (i.2.1, (i.2.2.1, (i.2.2.2.1, (i.2.2.2.2.1, ()))))) q p = some (decide (rightD i q p)) := r_right hm
 rw [zaa e1]
 by_cases h1 : isB d.1 = true ∧ isP d.2.1 = true
 ·rw [if_pos h1, h1.1, h1.2, cnd_n (by decide), zaa e2]
  by_cases h2 : rightD i q p
  ·rw [if_pos h2, decide_eq_true h2, cnd_n (by decide), nif_f, eqA]
   by_cases h3 : f = t
   ·rw [if_pos h3, cnd_y (decide_eq_true h3)]; rfl
   ·have e3 : zdi (i.1, (i.2.1, (i.2.2.1, (i.2.2.2.1, (i.2.2.2.2.1, ()))))) q p i.2.2.1 = some (fits64 (gZ i q p i.2.2.1)) := r_igain hm h2.1 hq h2.2.1 h2.1.2.2.1
    rw [if_neg h3, cnd_n (decide_eq_false h3), zaa e3]
    unfold fits64
    by_cases h4 : I64 (gZ i q p i.2.2.1)
    ·rw [if_pos h4, if_pos h4]
     show stdW.cnd ((0 : Int) != 0) _ (stdW.call (zsb d.1 f t [(i.1, (q, ()))]) fun v4 => stdW.cnd (v4.2.1 != 0) (some (noD, v4.2)) (stdW.call (znf d.2.1 f t (gZ i q p i.2.2.1)) fun v5 => stdW.cnd (v5.2.1 != 0) (some (noD, v5.2)) (some ((v4.1, (v5.1, ())), (0, ()))))) = _
     rw [cnd_n (by decide), zaa (r_bmove hb (by omega) h2.1.1 h2.2.2.1 hq (by have := h2.2.2.2; unfold I64; omega))]
     by_cases h5 : (moveB d.1 f t i.1 q).2.1 = 0
     ·rw [if_pos h5, cnd_n (by simp [h5]), zaa (r_move hf h4 (by omega))]
      by_cases h6 : (moveP d.2.1 f t (gZ i q p i.2.2.1)).2.1 = 0
      ·rw [if_pos h6, cnd_n (by simp [h6])]
      ·rw [if_neg h6, cnd_y (by simp [h6])]
     ·rw [if_neg h5, cnd_y (by simp [h5])]
    ·rw [if_neg h4, if_neg h4]
     show stdW.cnd ((7 : Int) != 0) (some (noD, (7, ()))) _ = _
     rw [cnd_y (by decide)]
  ·rw [if_neg h2, decide_eq_false h2, cnd_y (by decide)]; rfl
 ·have e : (isB d.1 && isP d.2.1) = false := by
   cases hb' : isB d.1 <;> cases hp' : isP d.2.1 <;> simp_all
  rw [if_neg h1, e, cnd_y (by decide)]; rfl
theorem at_bad {d : zag} {i : AInst'} {f t : AUnit'} {q p : Int} (h : (atP d i f t q p).2.1 ≠ 0) : (atP d i f t q p).1 = noD := by
 unfold atP at h ⊢
 split
 ·split
  ·split
   ·rfl
   ·split
    ·split
     ·split
      ·rename_i h1 h2 h3 h4 h5 h6
       rw [if_pos h1, if_pos h2, if_neg h3, if_pos h4, if_pos h5, if_pos h6] at h
       exact absurd rfl h
      ·rfl
     ·rfl
    ·rfl
  ·rfl
 ·rfl
structure AtOk (d d' : zag) (i : AInst') (f t : AUnit') (q p : Int) : Prop where
 right : rightD i q p
 ne : f ≠ t
 fit : I64 (gZ i q p i.2.2.1)
 bk : MvOk d.1 d'.1 f t i.1 q
 ip : isP d.2.1 = true
 ip' : isP d'.2.1 = true
 get : ∀ x, getP d'.2.1 x = getP d.2.1 x + (if x = f then -(gZ i q p i.2.2.1) else 0) + (if x = t then gZ i q p i.2.2.1 else 0)
 tot : sumBy amt d'.2.1 = sumBy amt d.2.1
 okf : okF d'.2.1
 len : d'.2.1.length ≤ d.2.1.length + 2
theorem at_ok {d : zag} {i : AInst'} {f t : AUnit'} {q p : Int} (h : (atP d i f t q p).2.1 = 0) : AtOk d (atP d i f t q p).1 i f t q p := by
 unfold atP at h ⊢
 by_cases h1 : isB d.1 = true ∧ isP d.2.1 = true
 ·rw [if_pos h1] at h ⊢
  by_cases h2 : rightD i q p
  ·rw [if_pos h2] at h ⊢
   by_cases h3 : f = t
   ·rw [if_pos h3] at h; simp at h
   ·rw [if_neg h3] at h ⊢
    by_cases h4 : I64 (gZ i q p i.2.2.1)
    ·rw [if_pos h4] at h ⊢
     by_cases h5 : (moveB d.1 f t i.1 q).2.1 = 0
     ·rw [if_pos h5] at h ⊢
      by_cases h6 : (moveP d.2.1 f t (gZ i q p i.2.2.1)).2.1 = 0
      ·rw [if_pos h6] at h ⊢
       have hz : ∃ g, g = gZ i q p i.2.2.1 := ⟨_, rfl⟩
       obtain ⟨g, hz⟩ := hz
       rw [← hz] at h4 h6 ⊢
       have hmv : moveP d.2.1 f t g = payP d.2.1 [(f, (-g, ())), (t, (g, ()))] := by
        unfold moveP at h6 ⊢
        by_cases hI : I64 (-g)
        ·rw [if_pos hI]
        ·rw [if_neg hI] at h6; split at h6 <;> simp at h6
       rw [hmv] at h6 ⊢
       obtain ⟨h7, h8, h9⟩ := payP_ok h6
       have hlen : (payP d.2.1 [(f, (-g, ())), (t, (g, ()))]).1.length ≤ d.2.1.length + 2 := payP_len _ _
       refine ⟨h2, h3, hz ▸ h4, move_ok h5, h1.2, ?_, fun x => ?_, ?_, ?_, hlen⟩
       ·show isP (payP d.2.1 _).1 = true
        rw [h8]; exact resP_is (zia _)
       ·show getP (payP d.2.1 _).1 x = _
        rw [h8, resP_get, sumU_app, zgj, zgj, getP_sum (isP_nd h7), ← hz]
        show _ + ((if f = x then -g else 0) + ((if t = x then g else 0) + 0)) = _
        have e1 : (if f = x then -g else 0) = if x = f then -g else 0 := by
         by_cases e : f = x
         ·rw [if_pos e, if_pos e.symm]
         ·rw [if_neg e, if_neg (Ne.symm e)]
        have e2 : (if t = x then g else 0) = if x = t then g else 0 := by
         by_cases e : t = x
         ·rw [if_pos e, if_pos e.symm]
         ·rw [if_neg e, if_neg (Ne.symm e)]
        rw [e1, e2]; omega
       ·show sumBy amt (payP d.2.1 _).1 = _
        rw [h8, resP_sum, zlb, zcm, zcm, sumBy_nil]
        show sumBy amt d.2.1 + (-g + (g + 0)) = sumBy amt d.2.1; omega
       ·show okF (payP d.2.1 _).1
        rw [h8]; exact resP_ok h9
      ·rw [if_neg h6] at h; exact absurd h h6
     ·rw [if_neg h5] at h; exact absurd h h5
    ·rw [if_neg h4] at h; simp at h
  ·rw [if_neg h2] at h; simp at h
 ·rw [if_neg h1] at h; simp at h
theorem at_okD {d : zag} {i : AInst'} {f t : AUnit'} {q p : Int} {n : Nat} (h : (atP d i f t q p).2.1 = 0) (hd : okDk d n) (hn : n ≤ 90) : okDk (atP d i f t q p).1 (n + 2) := by
 have A := at_ok h
 obtain ⟨⟨hb, hbl⟩, hf, hfl⟩ := hd
 exact ⟨⟨A.bk.ok hb (by omega), by have := A.bk.len; omega⟩, A.okf, by have := A.len; omega⟩
end Go.Proofs.YtbpbkmngbhgpfaaGreat

namespace Go.Proofs.YtbpbkmngbhgpfaaGreat
open Go Go.Vc Go.RowKit
def oneI (i : AInst') : AInst' := (i.1, (i.2.1, (i.2.2.1, (i.2.2.2.1, (i.2.2.2.2.1.take 9, ())))))
theorem r_oneI {i : AInst'} (hm : i.2.2.2.2.1.length ≤ 9223372036854775807) : zda i = some (oneI i) := by
 show zno stdW i = _
 unfold zno
 refine join_g fun k hk => ?_
 have kk : ∀ x : AInst', k x = some x := by intro x; subst hk; rfl
 clear hk
 by_cases h : 9 < i.2.2.2.2.1.length
 ·rw [cnd_y (decide_eq_true (by omega)), bnd_w (by omega) (by omega)]
  exact kk (oneI i)
 ·rw [cnd_n (decide_eq_false (by omega))]
  have e : oneI i = i := by unfold oneI; rw [List.take_of_length_le (by omega)]
  rw [e]; exact kk i
def fewD (l : List APos') (p : List AFlow') : zag := (few19 l, (p.take 20, ()))
theorem r_fewD {l : List APos'} {p : List AFlow'} (hl : l.length ≤ 9223372036854775807) (hm : ∀ x ∈ l, x.2.1.length ≤ 9223372036854775807) (hp : p.length ≤ 9223372036854775807) : zgr l p = some (fewD l p) := by
 show znp stdW l p = _
 unfold znp
 rw [zaa (r_few19 l hl hm), zaa (r_few17 p hp)]; rfl
theorem r_same11 {a : List Leg} (hl : a.length ≤ 1000000) : zie a a = some true := by
 show zjk stdW a a = _
 unfold zjk
 rw [cnd_n (by simp)]
 refine zcz (l := a) (by omega) (s0 := ()) (fun _ _ => True) (fun _ _ => some true) trivial ?_ ?_
 ·rintro _ again _
  rw [zbg]
 ·rintro i hi _ _ again ha
  rw [cnd_lt hi, idx_w hi, idx_w hi, nif_t, cnd_n (by simp)]
  show again (IntKind.i64.wrap ((i : Int) + 1), ()) = _
  rw [i64_s i (by omega)]
  exact ha _ trivial
theorem r_same19 {a : List APos'} (hb : okB a) : zsy a a = some true := by
 have hl := hb.2
 show zjd stdW a a = _
 unfold zjd
 rw [cnd_n (by simp)]
 refine zcz (l := a) (by omega) (s0 := ()) (fun _ _ => True) (fun _ _ => some true) trivial ?_ ?_
 ·rintro _ again _
  rw [zbg]
 ·rintro i hi _ _ again ha
  have h2 := (hb.1 _ (List.getElem_mem hi)).2
  rw [cnd_lt hi]
  refine join_g fun k hk => ?_
  have kf : k (false, ()) = some true := by
   subst hk
   show stdW.cnd false _ (again (IntKind.i64.wrap ((i : Int) + 1), ())) = _
   rw [cnd_n rfl, i64_s i (by omega)]
   exact ha _ trivial
  clear hk
  show stdW.idx a (i : Int) _ = _
  rw [idx_w hi, idx_w hi, nif_t, cnd_n (by simp), idx_w hi, idx_w hi, zaa (r_same11 (by omega))]
  exact kf
theorem r_same21 {d : zag} (hd : okDk d 100) : zmo d d = some true := by
 show zjc stdW d d = _
 unfold zjc
 rw [zaa (r_same19 hd.1.1), cnd_y rfl, zaa (r_same (by have := hd.2.2; omega))]
theorem okDk.mono {d : zag} {n m : Nat} (h : okDk d n) (hm : n ≤ m) : okDk d m := ⟨⟨h.1.1, by have := h.1.2; omega⟩, h.2.1, by have := h.2.2; omega⟩
theorem okD_no (n : Nat) : okDk noD n := ⟨⟨⟨(fun p hp => by cases hp), by simp [noD]⟩, by simp [noD]⟩, fun x hx => (by cases hx), by simp [noD]⟩
theorem r_lives21 : zdv = some true := by
 show zhk stdW = _
 unfold zhk
 have hu : zbm ([] ++ [(((1, (0, ())) : AUnit'), ((-60 : Int), ())), (((2, (0, ())) : AUnit'), ((60 : Int), ()))]) = [(1, (0, ())), (2, (0, ()))] := by
  refine unit_ext ?_ fun u => ?_
  ·simp [SrtA, ltA]
  ·simp only [List.nil_append, List.mem_cons, List.not_mem_nil, or_false, exists_eq_or_imp, exists_eq_left]
   constructor <;> rintro (h | h) <;> simp [h]
 have hm : moveP [] (1, (0, ())) (2, (0, ())) 60 = ([((1, (0, ())), (-60, ())), ((2, (0, ())), (60, ()))], (0, ())) := by
  unfold moveP payP
  rw [hu]
  decide +kernel
 have hb : moveB [] (1, (0, ())) (2, (0, ())) 1 3 = ([((1, (0, ())), ([(1, (-3, ()))], ())), ((2, (0, ())), ([(1, (3, ()))], ()))], (0, ())) := by decide +kernel
 have hat : atP noD (1, (10, (7, (0, ([], ()))))) (1, (0, ())) (2, (0, ())) 3 5 = (([((1, (0, ())), ([(1, (-3, ()))], ())), ((2, (0, ())), ([(1, (3, ()))], ()))], ([((1, (0, ())), (-60, ())), ((2, (0, ())), (60, ()))], ())), (0, ())) := by
  have hg : gZ (1, (10, (7, (0, ([], ()))))) 3 5 ((1, (10, (7, (0, ([], ()))))) : AInst').2.2.1 = 60 := by decide
  have hb' : moveB noD.1 (1, (0, ())) (2, (0, ())) ((1, (10, (7, (0, ([], ()))))) : AInst').1 3 = _ := hb
  have hm' : moveP noD.2.1 (1, (0, ())) (2, (0, ())) 60 = _ := hm
  unfold atP
  rw [if_pos ⟨by decide, by decide⟩, if_pos (by decide), if_neg (by decide), hg, hb', hm', if_pos (by unfold I64; omega), if_pos rfl, if_pos rfl]
 have e := r_at (d := noD) (i := (1, (10, (7, (0, ([], ())))))) (f := (1, (0, ()))) (t := (2, (0, ()))) (q := 3) (p := 5) (okD_no 70) (by simp) (by unfold I64; omega)
 rw [hat] at e
 have e' : zeu ([], ([], ())) (1, (10, (7, (0, ([], ()))))) (1, (0, ())) (2, (0, ())) 3 5 = _ := e
 rw [zaa e']
 show stdW.cnd ((0 : Int) == 0) (stdW.call (zig [((1, (0, ())), (-60, ())), ((2, (0, ())), (60, ()))] (2, (0, ()))) _) _ = _
 rw [cnd_y (by decide), zaa (r_get (by simp))]
 show stdW.cnd ((60 : Int) == 60) (stdW.call (zig [((1, (0, ())), (-60, ())), ((2, (0, ())), (60, ()))] (1, (0, ()))) _) _ = _
 rw [cnd_y (by decide), zaa (r_get (by simp))]
 show stdW.cnd ((-60 : Int) == -60) (stdW.call (book_Of [((1, (0, ())), ([(1, (-3, ()))], ())), ((2, (0, ())), ([(1, (3, ()))], ()))] (2, (0, ()))) _) _ = _
 rw [cnd_y (by decide), zaa (r_bof ⟨fun p hp => by
  simp only [List.mem_cons, List.not_mem_nil, or_false] at hp
  rcases hp with rfl | rfl
  ·exact ⟨okL1 (by unfold I64; omega), by simp⟩
  ·exact ⟨okL1 (by unfold I64; omega), by simp⟩, by simp⟩)]
 have e5 : zie (ofB [((1, (0, ())), ([(1, (-3, ()))], ())), ((2, (0, ())), ([(1, (3, ()))], ()))] (2, (0, ()))) [(1, (3, ()))] = some true := r_same11 (a := [(1, (3, ()))]) (by simp)
 rw [zaa e5]
theorem r_gain13g {i : AInst'} (hi : okC i) {q a b : Int} (hq : I64 q) (ha : 0 ≤ a ∧ a ≤ 2147483647) (hb : 0 ≤ b ∧ b ≤ 2147483647) : zdz i q a b = some (big (gZ i q a b)) := by
 show zjj stdW i q a b = _
 unfold zjj
 have h1 := hi.2.1
 have hq2 := hq
 unfold I64 at hq2
 have b1 : -9223372036854775808 * 65536 ≤ q * i.2.1 ∧ q * i.2.1 ≤ 9223372036854775808 * 65536 := by
  have := mul_abs (a := q) (b := i.2.1) (A := 9223372036854775808) (B := 65536) (by omega) (by omega)
  omega
 rw [zaa (r_of hq), zaa (r_of (by unfold I64; omega))]
 show stdW.call (zgo (big q) (big i.2.1)) _ = _
 rw [zaa (r_mulB (i64_sml hq) (by unfold sml; omega)), zaa (r_of (by unfold I64; omega)), zaa (r_of (by unfold I64; omega))]
 show stdW.call (zif (big b) (big a)) _ = _
 rw [zaa (r_subB (by unfold sml; omega) (by unfold sml; omega))]
 show stdW.call (zgo (big (q * i.2.1)) (big (b - a))) _ = _
 rw [zaa (r_mulB (by unfold sml; omega) (by unfold sml; omega))]
 have e : q * i.2.1 * (b - a) = gZ i q a b := by
  unfold gZ
  rw [Int.mul_comm (q * i.2.1), Int.mul_comm q, ← Int.mul_assoc]
 rw [e]
end Go.Proofs.YtbpbkmngbhgpfaaGreat

namespace Go.Proofs.YtbpbkmngbhgpfaaGreat
open Go Go.Vc Go.RowKit
theorem okD_inst {i : DT.den tAInst} (h : DT.okD tAInst i) : i.2.2.2.2.1.length ≤ 9223372036854775807 := by
 have := h.2.2.2.2.1.2
 rwa [zam] at this
end Go.Proofs.YtbpbkmngbhgpfaaGreat

namespace Go.Proofs.YtbpbkmngbhgpfaaGreat
open Go Go.Vc Go.RowKit
def goV (f : Int → Int) : List Int → List Leg → List Leg × Int × Unit
 | [], acc => (acc, 0, ())
 | k :: us, acc => if I64 (f k) then (if f k = 0 then goV f us acc else goV f us (acc ++ [(k, f k, ())])) else ([], 7, ())
theorem goV_add (l : List (List Leg)) : ∀ (us : List Int) (acc : List Leg), goV (sumV l) us acc = addGo l us acc
 | [], _ => rfl
 | k :: us, acc => by
  rw [goV, addGo, goV_add l us, goV_add l us]
theorem goV_zero {f : Int → Int} : ∀ (us : List Int) (acc : List Leg), (∀ u ∈ us, f u = 0) → goV f us acc = (acc, 0, ())
 | [], _, _ => rfl
 | k :: us, acc, h => by
  have h0 := h k (by simp)
  rw [goV, if_pos (by rw [h0]; unfold I64; omega), if_pos h0, goV_zero us acc fun u hu => h u (by simp [hu])]
theorem goV_skip {f : Int → Int} : ∀ (us vs : List Int) (acc : List Leg), (∀ u ∈ us, f u = 0) → goV f (us ++ vs) acc = goV f vs acc
 | [], _, _, _ => rfl
 | k :: us, vs, acc, h => by
  have h0 := h k (by simp)
  rw [List.cons_append, goV, if_pos (by rw [h0]; unfold I64; omega), if_pos h0, goV_skip us vs acc fun u hu => h u (by simp [hu])]
theorem ks_cut {k : Int} (hk : 1 ≤ k ∧ k ≤ 8) : ∃ us vs, ks = us ++ k :: vs ∧ k ∉ us ∧ k ∉ vs := by
 have : k = 1 ∨ k = 2 ∨ k = 3 ∨ k = 4 ∨ k = 5 ∨ k = 6 ∨ k = 7 ∨ k = 8 := by omega
 rcases this with rfl | rfl | rfl | rfl | rfl | rfl | rfl | rfl
 ·exact ⟨[], [2, 3, 4, 5, 6, 7, 8], rfl, by decide, by decide⟩
 ·exact ⟨[1], [3, 4, 5, 6, 7, 8], rfl, by decide, by decide⟩
 ·exact ⟨[1, 2], [4, 5, 6, 7, 8], rfl, by decide, by decide⟩
 ·exact ⟨[1, 2, 3], [5, 6, 7, 8], rfl, by decide, by decide⟩
 ·exact ⟨[1, 2, 3, 4], [6, 7, 8], rfl, by decide, by decide⟩
 ·exact ⟨[1, 2, 3, 4, 5], [7, 8], rfl, by decide, by decide⟩
 ·exact ⟨[1, 2, 3, 4, 5, 6], [8], rfl, by decide, by decide⟩
 ·exact ⟨[1, 2, 3, 4, 5, 6, 7], [], rfl, by decide, by decide⟩
theorem goV_neg1 {k q : Int} (hk : 1 ≤ k ∧ k ≤ 8) (hq : q ≠ 0) (hI : I64 (-q)) : goV (fun j => -(getV [((k, (q, ())) : Leg)] j)) ks [] = ([((k, (-q, ())) : Leg)], 0, ()) := by
 obtain ⟨us, vs, e, h1, h2⟩ := ks_cut hk
 have hz : ∀ u : Int, u ≠ k → -(getV [((k, (q, ())) : Leg)] u) = 0 := by
  intro u hu
  simp only [getV]
  rw [if_neg (Ne.symm hu)]; rfl
 have hz' : -(getV [((k, (q, ())) : Leg)] k) = -q := by simp [getV]
 rw [e, goV_skip us (k :: vs) [] fun u hu => hz u fun e => h1 (e ▸ hu), goV]
 show (if I64 (-(getV [((k, (q, ())) : Leg)] k)) then _ else _) = _
 rw [hz', if_pos hI, if_neg (by omega), goV_zero vs _ fun u hu => hz u fun e => h2 (e ▸ hu)]
 rfl
def shGo (u : AUnit') (now : List Leg) : List APos' → Bool → List APos' → List APos'
 | [], d, out => if d = true then out else out ++ [(u, (now, ()))]
 | p :: l, d, out =>
  if d = true ∨ ltA p.1 u then (if p.1 = u then shGo u now l d out else shGo u now l d (out ++ [p]))
  else (if p.1 = u then shGo u now l true (out ++ [(u, (now, ()))]) else shGo u now l true (out ++ [(u, (now, ()))] ++ [p]))
theorem shGo_t (u : AUnit') (now : List Leg) : ∀ (l out : List APos'), shGo u now l true out = out ++ l.filter fun p => decide (p.1 ≠ u)
 | [], out => by rw [shGo, if_pos rfl, List.filter_nil, List.append_nil]
 | p :: l, out => by
  rw [shGo, if_pos (.inl rfl), List.filter_cons]
  by_cases h : p.1 = u
  ·rw [if_pos h, shGo_t u now l, if_neg (by simpa using h)]
  ·rw [if_neg h, shGo_t u now l, if_pos (by simpa using h), List.append_assoc]; rfl
theorem ne_cut {u : AUnit'} {l : List APos'} (h : SrtA (l.map (·.1))) : (l.filter fun p => decide (p.1 ≠ u)) = lowB u l ++ highB u l := by
 have e := cutB u h
 have a1 : (lowB u l).filter (fun p => decide (p.1 ≠ u)) = lowB u l := fil_all fun x hx => decide_eq_true fun e => by
  have := (List.mem_filter.1 hx).2
  simp only [decide_eq_true_eq] at this
  rw [e] at this; exact zdu u this
 have a2 : (midB u l).filter (fun p => decide (p.1 ≠ u)) = [] := zhn fun x hx => decide_eq_false fun hn => by
  have := (List.mem_filter.1 hx).2
  simp only [decide_eq_true_eq] at this
  exact hn this
 have a3 : (highB u l).filter (fun p => decide (p.1 ≠ u)) = highB u l := fil_all fun x hx => decide_eq_true fun e => by
  have := (List.mem_filter.1 hx).2
  simp only [decide_eq_true_eq] at this
  rw [e] at this; exact zdu u this
 calc (l.filter fun p => decide (p.1 ≠ u)) = (lowB u l ++ (midB u l ++ highB u l)).filter (fun p => decide (p.1 ≠ u)) := by rw [← e]
  _ = lowB u l ++ highB u l := by rw [List.filter_append, List.filter_append, a1, a2, a3]; rfl
theorem shGo_f (u : AUnit') (now : List Leg) : ∀ (l out : List APos'), SrtA (l.map (·.1)) → shGo u now l false out = out ++ (lowB u l ++ ([(u, (now, ()))] ++ highB u l))
 | [], out, _ => by rw [shGo, if_neg (by simp)]; rfl
 | p :: l, out, h => by
  obtain ⟨h1, h2⟩ := List.pairwise_cons.1 h
  have h1 : ∀ x ∈ l, ltA p.1 x.1 := fun x hx => h1 _ (List.mem_map_of_mem hx)
  rw [shGo]
  by_cases hp : ltA p.1 u
  ·have hu : ¬ p.1 = u := fun e => zdu u (by rw [e] at hp; exact hp)
   rw [if_pos (.inr hp), if_neg hu, shGo_f u now l _ h2]
   have e1 : lowB u (p :: l) = p :: lowB u l := by unfold lowB; rw [List.filter_cons, if_pos (by simpa using hp)]
   have e2 : highB u (p :: l) = highB u l := by unfold highB; rw [List.filter_cons, if_neg (by simpa using fun e => ltA_as hp e)]
   rw [e1, e2, List.append_assoc]; rfl
  ·rw [if_neg (by simpa using hp)]
   have hge : ∀ x ∈ p :: l, ¬ ltA x.1 u := by
    intro x hx hxu
    rcases List.mem_cons.1 hx with rfl | hx
    ·exact hp hxu
    ·exact hp (ltA_tr (h1 x hx) hxu)
   have e1 : lowB u (p :: l) = [] := zhn fun x hx => decide_eq_false (hge x hx)
   have e2 := ne_cut (u := u) h
   rw [e1, List.nil_append] at e2
   rw [e1, ← e2, List.filter_cons]
   by_cases hu : p.1 = u
   ·rw [if_pos hu, if_neg (by simpa using hu), shGo_t, List.append_assoc]; rfl
   ·rw [if_neg hu, if_pos (by simpa using hu), shGo_t]
    simp only [List.append_assoc, List.nil_append, List.cons_append]
theorem shGo_put {l : List APos'} (h : SrtA (l.map (·.1))) (u : AUnit') (now : List Leg) : shGo u now l (decide (now = [])) [] = putB l u now := by
 unfold putB
 by_cases h0 : now = []
 ·rw [decide_eq_true h0, shGo_t, if_pos h0, ne_cut h]; rfl
 ·rw [decide_eq_false h0, shGo_f u now l [] h, if_neg h0]; rfl
end Go.Proofs.YtbpbkmngbhgpfaaGreat

namespace Go.Proofs.YtbpbkmngbhgpfaaGreat
open Go Go.Vc Go.RowKit
theorem r_is13x {i : AInst'} (hm : i.2.2.2.2.1.length ≤ 1000000) : zji i = some (decide (okC i)) := by
 show zqq stdW i = _
 unfold zqq
 refine join_g fun k hk => ?_
 have kt : k (true, ()) = some false := by subst hk; rfl
 have kf : k (false, ()) = some (!(i.2.2.2.2.1.any farI)) := by
  subst hk
  show stdW.cnd false (some false) (stdW.loop _ (0, ())) = _
  rw [cnd_n rfl]
  refine zcz (l := i.2.2.2.2.1) (by omega) (s0 := ()) (fun _ _ => True) (fun l' _ => some (!(l'.any farI))) trivial ?_ ?_
  ·rintro _ again _
   rw [zbg]; rfl
  ·rintro j hj _ _ again ha
   rw [cnd_lt hj, join_w]
   show stdW.idx i.2.2.2.2.1 (j : Int) _ = some (!((i.2.2.2.2.1[j] :: i.2.2.2.2.1.drop (j + 1)).any farI))
   rw [idx_w hj, List.any_cons]
   by_cases h1 : i.2.2.2.2.1[j] < -2147483647
   ·have e : farI i.2.2.2.2.1[j] = true := by unfold farI; simp [h1]
    rw [cnd_y (decide_eq_true h1), e]; rfl
   ·rw [cnd_n (decide_eq_false h1)]
    show stdW.idx i.2.2.2.2.1 (j : Int) _ = _
    rw [idx_w hj]
    show stdW.cnd (decide (2147483647 < i.2.2.2.2.1[j])) (some false) (again (IntKind.i64.wrap ((j : Int) + 1), ())) = _
    by_cases h2 : 2147483647 < i.2.2.2.2.1[j]
    ·have e : farI i.2.2.2.2.1[j] = true := by unfold farI; simp [h2]
     rw [cnd_y (decide_eq_true h2), e]; rfl
    ·have e : farI i.2.2.2.2.1[j] = false := by unfold farI; simp [h1, h2]
     rw [cnd_n (decide_eq_false h2), e, Bool.false_or, i64_s j (by omega)]
     exact ha _ trivial
 clear hk
 have bad : ¬ okC i → k (true, ()) = some (decide (okC i)) := fun h => by rw [kt, decide_eq_false h]
 by_cases h1 : i.1 < 1
 ·rw [cnd_y (decide_eq_true h1)]; exact bad fun h => by have := h.1; omega
 rw [cnd_n (decide_eq_false h1)]
 by_cases h2 : 8 < i.1
 ·rw [cnd_y (decide_eq_true h2)]; exact bad fun h => by have := h.1; omega
 rw [cnd_n (decide_eq_false h2)]
 by_cases h3 : i.2.1 < 1
 ·rw [cnd_y (decide_eq_true h3)]; exact bad fun h => by have := h.2.1; omega
 rw [cnd_n (decide_eq_false h3)]
 by_cases h4 : 65536 < i.2.1
 ·rw [cnd_y (decide_eq_true h4)]; exact bad fun h => by have := h.2.1; omega
 rw [cnd_n (decide_eq_false h4), zaa (r_price _)]
 by_cases h5 : 0 ≤ i.2.2.1 ∧ i.2.2.1 < 2147483648
 ·rw [decide_eq_true h5, cnd_n (by decide), zaa (r_price _)]
  by_cases h6 : 0 ≤ i.2.2.2.1 ∧ i.2.2.2.1 < 2147483648
  ·rw [decide_eq_true h6, cnd_n (by decide)]
   by_cases h7 : i.2.2.2.2.1.length ≤ 8
   ·rw [decide_eq_false (by omega)]
    refine kf.trans ?_
    cases h8 : i.2.2.2.2.1.any farI with
    | true => rw [decide_eq_false fun h => by rw [h.2.2.2.2.2] at h8; cases h8]; rfl
    | false => rw [decide_eq_true (show okC i from ⟨by omega, by omega, by omega, by omega, h7, h8⟩)]; rfl
   ·rw [decide_eq_true (by omega)]; exact bad fun h => h7 h.2.2.2.2.1
  ·rw [decide_eq_false h6, cnd_y (by decide)]; exact bad fun h => h6 (by have := h.2.2.2.1; omega)
 ·rw [decide_eq_false h5, cnd_y (by decide)]; exact bad fun h => h5 (by have := h.2.2.1; omega)
theorem r_igain_bad {i : AInst'} {q a b : Int} (hm : i.2.2.2.2.1.length ≤ 1000000) (h : ¬ (okC i ∧ (0 ≤ a ∧ a ≤ 2147483647) ∧ (0 ≤ b ∧ b ≤ 2147483647))) : zdi i q a b = some (0, (2, ())) := by
 show zge stdW i q a b = _
 unfold zge
 have e : zet (i.1, (i.2.1, (i.2.2.1, (i.2.2.2.1, (i.2.2.2.2.1, ()))))) = some (if okC i then 0 else 2) := r_check hm
 refine join_g fun k5 hk => ?_
 have kt : k5 (true, ()) = some (0, (2, ())) := by
  subst hk
  show stdW.cnd true _ _ = _
  rw [cnd_y rfl]
 clear hk
 rw [zaa e]
 by_cases h1 : okC i
 ·rw [if_pos h1, cnd_n (by decide), zaa (znc _)]
  by_cases h2 : 0 ≤ a ∧ a ≤ 2147483647
  ·rw [decide_eq_true h2, cnd_n (by decide), zaa (znc _), decide_eq_false fun h3 => h ⟨h1, h2, h3⟩]
   exact kt
  ·rw [decide_eq_false h2, cnd_y (by decide)]; exact kt
 ·rw [if_neg h1, cnd_y (by decide)]; exact kt
end Go.Proofs.YtbpbkmngbhgpfaaGreat

namespace Go.Proofs.YtbpbkmngbhgpfaaGreat
open Go Go.Vc Go.RowKit
def bigs (f : Int → Int) : List BigT := ks.map fun k => big (f k)
theorem zod (f : Int → Int) : (bigs f).length = 8 := by unfold bigs; rw [List.length_map]; rfl
theorem ks_at {j : Nat} (h : j < ks.length) : ks[j] = (j : Int) + 1 := by
 have h8 : j < 8 := h
 have : j = 0 ∨ j = 1 ∨ j = 2 ∨ j = 3 ∨ j = 4 ∨ j = 5 ∨ j = 6 ∨ j = 7 := by omega
 rcases this with rfl | rfl | rfl | rfl | rfl | rfl | rfl | rfl <;> rfl
theorem zub {f : Int → Int} {j : Nat} (h : j < (bigs f).length) : (bigs f)[j] = big (f ((j : Int) + 1)) := by
 have h' : j < (ks.map fun k => big (f k)).length := h
 have e : (ks.map fun k => big (f k))[j] = big (f ((j : Int) + 1)) := by
  rw [List.getElem_map, ks_at]
 exact e
def mix (f g : Int → Int) (j : Nat) (u : Int) : Int := if u ≤ (j : Int) then f u else g u
theorem bigs_set {f g : Int → Int} {j : Nat} (h : j < 8) : (bigs (mix f g j)).set j (big (f ((j : Int) + 1))) = bigs (mix f g (j + 1)) := by
 apply List.ext_getElem (by rw [List.length_set, zod, zod])
 intro n h1 h2
 rw [List.getElem_set]
 by_cases hn : j = n
 ·subst hn
  rw [if_pos rfl, zub, mix, if_pos (by omega)]
 ·rw [if_neg hn, zub, zub]
  congr 1
  unfold mix
  by_cases h3 : (n : Int) + 1 ≤ (j : Int)
  ·rw [if_pos h3, if_pos (by omega)]
  ·rw [if_neg h3, if_neg (by omega)]
theorem bigs_congr {f g : Int → Int} (h : ∀ u ∈ ks, f u = g u) : bigs f = bigs g := by
 unfold bigs; exact List.map_congr_left fun u hu => by rw [h u hu]
theorem bigs_0 (f g : Int → Int) : bigs (mix f g 0) = bigs g := bigs_congr fun u hu => by
 have := (ks_mem u).1 hu
 unfold mix; rw [if_neg (by omega)]
theorem bigs_8 (f g : Int → Int) : bigs (mix f g 8) = bigs f := bigs_congr fun u hu => by
 have := (ks_mem u).1 hu
 unfold mix; rw [if_pos (by omega)]
theorem rep_bigs : List.replicate 8 ((false, ([], ())) : BigT) = bigs fun _ => 0 := by
 unfold bigs
 show _ = ks.map fun _ => big 0
 rw [big0]; rfl
theorem r_ofV {f : Int → Int} (hf : ∀ k ∈ ks, sml (f k)) : zmr (bigs f) = some (goV f ks []) := by
 show zqt stdW (bigs f) = _
 unfold zqt
 refine (zdd (fun z => 9 - z.1.toNat) (fun z => ∃ (j : Nat) (acc : List Leg), j ≤ 8 ∧ acc.length ≤ j ∧ z = ((j : Int), (acc, ()))) (fun z => some (goV f (ks.drop z.1.toNat) z.2.1)) ⟨0, [], by omega, Nat.le_refl _, rfl⟩ (by show 9 - (0 : Int).toNat < _; omega) ?_)
 rintro _ ⟨j, acc, hj, hacc, rfl⟩ again ha
 show stdW.cnd (decide ((j : Int) < ((bigs f).length : Int))) _ _ = some (goV f (ks.drop ((j : Int)).toNat) acc)
 rw [Int.toNat_natCast]
 by_cases h8 : j < 8
 ·have hjl : j < (bigs f).length := by rw [zod]; exact h8
  rw [cnd_lt hjl, ks_drop h8, goV]
  refine join_g fun k5 hk5 => ?_
  have kk : ∀ v : List Leg, v.length ≤ j + 1 → k5 (v, ()) = some (goV f (ks.drop (j + 1)) v) := by
   intro v hv
   subst hk5
   show again (IntKind.i64.wrap ((j : Int) + 1), (v, ())) = _
   rw [i64_s j (by omega), ha _ ⟨j + 1, v, by omega, hv, rfl⟩ (by show 9 - ((j + 1 : Nat) : Int).toNat < 9 - ((j : Nat) : Int).toNat; omega)]
   show some (goV f (ks.drop (((j + 1 : Nat) : Int).toNat)) v) = _
   rw [Int.toNat_natCast]
  clear hk5 ha
  have hs := hf ((j : Int) + 1) ((ks_mem _).2 (by omega))
  show stdW.idx (bigs f) (j : Int) _ = _
  rw [idx_w hjl, zub hjl]
  show stdW.call (zcd (big (f ((j : Int) + 1)))) _ = _
  rw [zaa (r_fits hs)]
  by_cases hI : I64 (f ((j : Int) + 1))
  ·rw [decide_eq_true hI, cnd_n (by decide), if_pos hI, idx_w hjl, zub hjl]
   show stdW.call (zcy (big (f ((j : Int) + 1)))) _ = _
   rw [zaa (r_int hI)]
   by_cases h0 : f ((j : Int) + 1) = 0
   ·rw [cnd_n (by simp [h0]), if_pos h0]; exact kk acc (by omega)
   ·rw [cnd_y (by simp [h0]), if_neg h0]
    show stdW.room (acc.length + 1) 16 (k5 (acc ++ [(IntKind.i64.wrap ((j : Int) + 1), (f ((j : Int) + 1), ()))], ())) = _
    have e1 : IntKind.i64.wrap ((j : Int) + 1) = (j : Int) + 1 := by rw [i64_s j (by omega)]; omega
    rw [room_w (by omega) (by omega), e1]
    exact kk _ (by simp; omega)
  ·rw [decide_eq_false hI, cnd_y (by decide), if_neg hI]
 ·have : j = 8 := by omega
  subst this
  have : (bigs f).length = 8 := zod f
  rw [cnd_n (decide_eq_false (by omega))]
  rfl
theorem r_get11 {l : List Leg} {k : Int} (hl : l.length ≤ 1000000) : zfk l k = some (getV l k) := by
 show zmu stdW l k = _
 unfold zmu
 refine zcz (l := l) (by omega) (s0 := ()) (fun _ _ => True) (fun l' _ => some (getV l' k)) trivial ?_ ?_
 ·rintro _ again _
  rw [zbg]; rfl
 ·rintro i hi _ _ again ha
  rw [cnd_lt hi, idx_w hi]
  show _ = some (getV (l[i] :: l.drop (i + 1)) k)
  rw [getV]
  by_cases h : l[i].1 = k
  ·rw [cnd_y (by simpa using h), if_pos h, idx_w hi]
  ·rw [cnd_n (by simpa using h), if_neg h]
   show again (IntKind.i64.wrap ((i : Int) + 1), ()) = _
   rw [i64_s i (by omega)]
   exact ha _ trivial
theorem r_negB {a : Int} (ha : sml a) : zel (big a) = some (big (-a)) := by
 unfold sml at ha
 have := r_neg (nb_big a) (Nat.le_trans (zfa ha) (by decide))
 rwa [bv_big] at this
theorem r_neg11 {k q : Int} (hk : 1 ≤ k ∧ k ≤ 8) (hq : q ≠ 0) (hI : I64 q) (hI2 : I64 (-q)) : zxw [(k, (q, ()))] = some ([(k, (-q, ()))], (0, ())) := by
 show zms stdW [(k, (q, ()))] = _
 unfold zms
 have hv : isV [((k, (q, ())) : Leg)] = true := decide_eq_true ⟨by intro x hx; simp only [List.mem_singleton] at hx; subst hx; exact ⟨hk, hq⟩, by simp⟩
 have hL : okL [((k, (q, ())) : Leg)] := okL1 hI
 rw [zaa (r_isV11 (by simp)), hv, cnd_n (by decide), nn_w (by omega), room_w (by decide) (by decide), bnd_w (by omega) (by decide)]
 let f : Int → Int := fun u => -(getV [((k, (q, ())) : Leg)] u)
 have h0 : (0, (List.replicate (Int.toNat 8) ((false, ([], ())) : BigT), ())) = ((((0 : Nat) : Int)), (bigs (mix f (fun _ => 0) 0), ())) := by
  rw [bigs_0, ← rep_bigs]; rfl
 refine zpa (N := 8) (by omega) (fun j => ((j : Int), (bigs (mix f (fun _ => 0) j), ()))) _ h0 ?_ ?_
 ·intro again
  show stdW.cnd (decide ((8 : Int) < 8)) _ (stdW.call (zmr (bigs (mix f (fun _ => 0) 8))) _) = _
  have hf : ∀ u ∈ ks, sml (f u) := fun u _ => by
   have := zzi hL u
   show sml (-(getV _ u))
   unfold I64 at this; unfold sml; omega
  rw [cnd_n (by decide), bigs_8, zaa (r_ofV hf)]
  have e := goV_neg1 hk hq hI2
  show some (goV f ks []) = _
  rw [show goV f ks [] = _ from e]
 ·intro j hj again ha
  have hl : j < (bigs (mix f (fun _ => 0) j)).length := by rw [zod]; exact hj
  have hg := zzi hL ((j : Int) + 1)
  have e1 : IntKind.i64.wrap ((j : Int) + 1) = (j : Int) + 1 := by rw [i64_s j (by omega)]; omega
  have e2 : zcl (getV [((k, (q, ())) : Leg)] ((j : Int) + 1)) = some (big (getV [((k, (q, ())) : Leg)] ((j : Int) + 1))) := r_of hg
  have e3 := r_negB (i64_sml hg)
  show stdW.cnd (decide ((j : Int) < 8)) (stdW.call (zfk [(k, (q, ()))] (IntKind.i64.wrap ((j : Int) + 1))) _) _ = _
  rw [cnd_y (decide_eq_true (by omega)), e1, zaa (r_get11 (by simp)), zaa e2]
  show stdW.call (zel (big (getV [((k, (q, ())) : Leg)] ((j : Int) + 1)))) _ = _
  rw [zaa e3]
  show stdW.idx (bigs (mix f (fun _ => 0) j)) (j : Int) _ = _
  rw [idx_w hl, nth_w hl]
  show again ((j : Int) + 1, ((bigs (mix f (fun _ => 0) j)).set (Int.toNat (j : Int)) (big (f ((j : Int) + 1))), ())) = _
  rw [Int.toNat_natCast, bigs_set hj]
  exact ha
end Go.Proofs.YtbpbkmngbhgpfaaGreat

namespace Go.Proofs.YtbpbkmngbhgpfaaGreat
open Go Go.Vc Go.RowKit
theorem sumV_take {l : List (List Leg)} {i : Nat} (h : i < l.length) (u : Int) : sumV (l.take (i + 1)) u = sumV (l.take i) u + getV l[i] u := by
 unfold sumV
 rw [List.take_succ_eq_append_getElem h, List.map_append, List.sum_append]
 simp
theorem sumV_sml {l : List (List Leg)} (ho : ∀ v ∈ l, okL v) (hl : l.length ≤ 1000) (u : Int) : sml (sumV l u) := by
 have h1 := sum_in (l := l.map fun v => getV v u) fun x hx => by
  obtain ⟨v, hv, rfl⟩ := List.mem_map.1 hx
  exact zzi (ho v hv) u
 rw [List.length_map] at h1
 unfold sumV sml
 omega
theorem r_add11 {l : List (List Leg)} (hs : l.length ≤ 1000) (hl : ∀ v ∈ l, v.length ≤ 1000) (ho : ∀ v ∈ l, okL v) : zlh l = some (addV l) := by
 show zmv stdW l = _
 unfold zmv
 rw [nn_w (by omega), room_w (by decide) (by decide), bnd_w (by omega) (by decide)]
 have h0 : (0, (List.replicate (Int.toNat 8) ((false, ([], ())) : BigT), ())) = ((((0 : Nat) : Int)), (bigs (sumV (l.take 0)), ())) := by
  rw [show bigs (sumV (l.take 0)) = bigs fun _ => 0 from rfl, ← rep_bigs]; rfl
 have htk : ∀ i, ∀ v ∈ l.take i, okL v := fun i v hv => ho v (List.mem_of_mem_take hv)
 have htl : ∀ i, (l.take i).length ≤ 1000 := fun i => by rw [List.length_take]; omega
 refine loop_ai (N := l.length) (by omega) (fun i => ((i : Int), (bigs (sumV (l.take i)), ()))) (fun i => (l.take i).all isV = true) _ h0 rfl ?_ ?_
 ·intro hall again
  rw [List.take_length] at hall
  show stdW.cnd (decide ((l.length : Int) < (l.length : Int))) _ (stdW.call (zmr (bigs (sumV (l.take l.length)))) _) = _
  rw [zbg, List.take_length, zaa (r_ofV fun k _ => sumV_sml ho hs k)]
  unfold addV
  rw [if_pos hall, goV_add]
 ·intro i hi hall again ha
  have hil := hl _ (List.getElem_mem hi)
  have hio := ho _ (List.getElem_mem hi)
  show stdW.cnd (decide ((i : Int) < (l.length : Int))) (stdW.idx l (i : Int) _) _ = _
  rw [cnd_lt hi, idx_w hi, zaa (r_isV11 (by omega))]
  by_cases hv : isV l[i] = true
  ·rw [hv, cnd_n (by decide)]
   have ha := ha (by rw [List.take_succ_eq_append_getElem hi, List.all_append, hall]; simp [hv])
   let f : Int → Int := sumV (l.take (i + 1))
   let g : Int → Int := sumV (l.take i)
   have hz : (0, (bigs (sumV (l.take i)), ())) = ((((0 : Nat) : Int)), (bigs (mix f g 0), ())) := by rw [bigs_0]; rfl
   refine zpa (N := 8) (by omega) (fun j => ((j : Int), (bigs (mix f g j), ()))) _ hz ?_ ?_
   ·intro again2
    show stdW.cnd (decide ((8 : Int) < 8)) _ (again (IntKind.i64.wrap ((i : Int) + 1), (bigs (mix f g 8), ()))) = _
    rw [cnd_n (by decide), bigs_8, i64_s i (by omega)]
    exact ha
   ·intro j hj again2 ha2
    have hb : j < (bigs (mix f g j)).length := by rw [zod]; exact hj
    have e1 : IntKind.i64.wrap ((j : Int) + 1) = (j : Int) + 1 := by rw [i64_s j (by omega)]; omega
    show stdW.cnd (decide ((j : Int) < 8)) _ _ = _
    rw [cnd_y (decide_eq_true (by omega))]
    refine join_g fun k9 hk9 => ?_
    have kk : k9 (bigs (mix f g (j + 1)), ()) = some (addV l) := by
     subst hk9
     show again2 (IntKind.i64.wrap ((j : Int) + 1), (bigs (mix f g (j + 1)), ())) = _
     rw [i64_s j (by omega)]; exact ha2
    clear hk9 ha2
    have hg := zzi hio ((j : Int) + 1)
    have hx : (bigs (mix f g j))[j] = big (g ((j : Int) + 1)) := by rw [zub hb, mix, if_neg (by omega)]
    have e2 : zfk l[i] ((j : Int) + 1) = some (getV l[i] ((j : Int) + 1)) := r_get11 (by omega)
    have e3 : zcl (getV l[i] ((j : Int) + 1)) = some (big (getV l[i] ((j : Int) + 1))) := r_of hg
    have e4 : zce ((big (g ((j : Int) + 1))).1, ((big (g ((j : Int) + 1))).2.1, ())) ((big (getV l[i] ((j : Int) + 1))).1, ((big (getV l[i] ((j : Int) + 1))).2.1, ())) = some (big (f ((j : Int) + 1))) := by
     have := r_addB (sumV_sml (htk i) (htl i) ((j : Int) + 1)) (i64_sml hg)
     rw [← sumV_take hi] at this
     exact this
    show stdW.idx (bigs (mix f g j)) (j : Int) _ = _
    rw [idx_w hb]
    show stdW.idx l (i : Int) _ = _
    rw [idx_w hi]
    have fin : stdW.idx (bigs (mix f g j)) (j : Int) (fun _ => stdW.nth (bigs (mix f g j)) (Int.toNat (j : Int)) fun _ => k9 ((bigs (mix f g j)).set (Int.toNat (j : Int)) ((big (f ((j : Int) + 1))).1, ((big (f ((j : Int) + 1))).2.1, ())), ())) = some (addV l) := by
     rw [idx_w hb, nth_w hb, Int.toNat_natCast]
     show k9 ((bigs (mix f g j)).set j (big (f ((j : Int) + 1))), ()) = _
     rw [bigs_set hj]; exact kk
    show stdW.both (stdW.nth (bigs (mix f g j)) (Int.toNat (j : Int)) fun x12 => stdW.call (zfk l[i] (IntKind.i64.wrap ((j : Int) + 1))) _) _ = _
    rw [e1]
    repeat' (first | exact fin | refine both_of ?_ ?_ | rw [nth_w hb, hx] | rw [zaa e2] | rw [zaa e3] | rw [zaa e4])
  ·have hv : isV l[i] = false := by simpa using hv
   have : l.all isV = false := by rw [List.all_eq_false]; exact ⟨l[i], List.getElem_mem hi, by simp [hv]⟩
   rw [hv, cnd_y (by decide)]
   unfold addV
   rw [this, if_neg (by simp)]
theorem r_of19 {l : List APos'} {u : AUnit'} (hl : l.length ≤ 1000000) : ref19_Of l u = some (ofB l u) := by
 show zqj stdW l u = _
 unfold zqj
 refine zcz (l := l) (by omega) (s0 := ()) (fun _ _ => True) (fun l' _ => some (ofB l' u)) trivial ?_ ?_
 ·rintro _ again _
  rw [zbg]; rfl
 ·rintro i hi _ _ again ha
  rw [cnd_lt hi, idx_w hi, nif_f, eqA]
  show _ = some (ofB (l[i] :: l.drop (i + 1)) u)
  rw [ofB]
  by_cases h : l[i].1 = u
  ·rw [cnd_y (decide_eq_true h), if_pos h, idx_w hi]
  ·rw [cnd_n (decide_eq_false h), if_neg h]
   show again (IntKind.i64.wrap ((i : Int) + 1), ()) = _
   rw [i64_s i (by omega)]
   exact ha _ trivial
theorem r_shift19 {l : List APos'} {u : AUnit'} {legs : List Leg} (hb : okB l) (ho : okL legs) (hg : legs.length ≤ 100) : zgl l u legs = some (shiftP l u legs) := by
 have hl := hb.2
 show zgz stdW l u legs = _
 unfold zgz shiftP
 rw [zaa (r_isB19 hb)]
 by_cases hp : isB l = true
 ·have hB : BInv l := of_decide_eq_true hp
  obtain ⟨h1, h2⟩ := ofB_ok hb u
  have hadd : zlh [ofB l u, legs] = some (addV [ofB l u, legs]) := r_add11 (by simp) (fun v hv => by
   simp only [List.mem_cons, List.not_mem_nil, or_false] at hv
   rcases hv with rfl | rfl <;> omega) (fun v hv => by
   simp only [List.mem_cons, List.not_mem_nil, or_false] at hv
   rcases hv with rfl | rfl
   ·exact h1
   ·exact ho)
  rw [hp, cnd_n (by decide), if_pos rfl, zaa (r_of19 (by omega))]
  show stdW.call (zlh [ofB l u, legs]) _ = _
  rw [zaa hadd]
  by_cases he : (addV [ofB l u, legs]).2.1 = 0
  ·rw [cnd_n (by simp [he]), if_pos he]
   generalize (addV [ofB l u, legs]).1 = now
   rw [← shGo_put hB.2]
   have hz : ((now.length : Int) == 0) = decide (now = []) := by
    cases now with
    | nil => rfl
    | cons x xs => rw [decide_eq_false (by simp)]; simp; omega
   rw [hz]
   refine (zdd (fun z => l.length + 1 - z.2.2.1.toNat) (fun z => ∃ (j : Nat) (d : Bool) (out : List APos'), j ≤ l.length ∧ out.length ≤ 2 * j ∧ z = (now, (d, ((j : Int), (out, ()))))) (fun z => some (shGo u now (l.drop z.2.2.1.toNat) z.2.1 z.2.2.2.1, (0, ()))) ⟨0, decide (now = []), [], Nat.zero_le _, Nat.le_refl _, rfl⟩ (by show l.length + 1 - (0 : Int).toNat < _; omega) ?_)
   rintro _ ⟨j, d, out, hj, hol, rfl⟩ again ha
   show stdW.cnd (decide ((j : Int) < (l.length : Int))) _ _ = some (shGo u now (l.drop ((j : Int)).toNat) d out, (0, ()))
   rw [Int.toNat_natCast]
   by_cases h : j < l.length
   ·rw [cnd_lt h, zim l j h, shGo]
    refine join_g fun k7 hk7 => ?_
    have kk7 : ∀ (d : Bool) (o : List APos'), o.length ≤ 2 * (j + 1) → k7 (d, (o, ())) = some (shGo u now (l.drop (j + 1)) d o, (0, ())) := by
     intro d o hlo
     subst hk7
     show again (now, (d, (IntKind.i64.wrap ((j : Int) + 1), (o, ())))) = _
     rw [i64_s j (by omega), ha _ ⟨j + 1, d, o, by omega, hlo, rfl⟩ (by show l.length + 1 - ((j + 1 : Nat) : Int).toNat < l.length + 1 - ((j : Nat) : Int).toNat; omega)]
     show some (shGo u now (l.drop (((j + 1 : Nat) : Int).toNat)) d o, (0, ())) = _
     rw [Int.toNat_natCast]
    clear hk7 ha
    refine join_g fun k11 hk11 => ?_
    have kk11 : ∀ (d : Bool) (o : List APos'), o.length ≤ 2 * j + 1 → k11 (d, (o, ())) = some (if l[j].1 = u then shGo u now (l.drop (j + 1)) d o else shGo u now (l.drop (j + 1)) d (o ++ [l[j]]), (0, ())) := by
     intro d o hlo
     subst hk11
     show stdW.idx l (j : Int) _ = _
     rw [idx_w h, nif_t, eqA]
     by_cases hu : l[j].1 = u
     ·rw [cnd_n (by simp [hu]), if_pos hu]; exact kk7 d o (by omega)
     ·rw [cnd_y (by simp [hu]), if_neg hu, idx_w h]
      show stdW.room (o.length + 1) 40 (k7 (d, (o ++ [l[j]], ()))) = _
      rw [room_w (by omega) (by omega)]
      exact kk7 d _ (by simp; omega)
    clear hk11
    refine join_g fun k13 hk13 => ?_
    have kk13t : k13 (true, (out, ())) = some (if l[j].1 = u then shGo u now (l.drop (j + 1)) true (out ++ [(u, (now, ()))]) else shGo u now (l.drop (j + 1)) true (out ++ [(u, (now, ()))] ++ [l[j]]), (0, ())) := by
     subst hk13
     show stdW.cnd true (stdW.room (out.length + 1) 40 (k11 (true, (out ++ [(u, (now, ()))], ())))) _ = _
     rw [cnd_y rfl, room_w (by omega) (by omega)]
     exact kk11 true _ (by simp; omega)
    have kk13f : k13 (false, (out, ())) = some (if l[j].1 = u then shGo u now (l.drop (j + 1)) d out else shGo u now (l.drop (j + 1)) d (out ++ [l[j]]), (0, ())) := by
     subst hk13
     show stdW.cnd false _ (k11 (d, (out, ()))) = _
     rw [cnd_n rfl]
     exact kk11 d _ (by omega)
    clear hk13
    show stdW.cnd (!d) (stdW.idx l (j : Int) _) (k13 (false, (out, ()))) = _
    cases d with
    | true => rw [cnd_n (by decide), kk13f, if_pos (show true = true ∨ ltA l[j].1 u from .inl rfl)]
    | false =>
     rw [cnd_y (by decide), idx_w h]
     show stdW.call (zdy l[j].1 u) _ = _
     rw [zaa (zvv _ _)]
     by_cases hlt : ltA l[j].1 u
     ·rw [decide_eq_true hlt]
      show k13 (false, (out, ())) = _
      rw [kk13f, if_pos (show false = true ∨ ltA l[j].1 u from .inr hlt)]
     ·rw [decide_eq_false hlt]
      show k13 (true, (out, ())) = _
      rw [kk13t, if_neg (show ¬ (false = true ∨ ltA l[j].1 u) by simpa using hlt)]
   ·have : j = l.length := by omega
    subst this
    rw [zbg, List.drop_length, shGo]
    refine join_g fun k17 hk17 => ?_
    have kk : ∀ o : List APos', k17 (o, ()) = some (o, (0, ())) := by intro o; subst hk17; rfl
    clear hk17 ha
    show stdW.cnd (!d) (stdW.room (out.length + 1) 40 (k17 (out ++ [(u, (now, ()))], ()))) (k17 (out, ())) = _
    cases d with
    | true => rw [cnd_n (by decide), kk, if_pos rfl]
    | false => rw [cnd_y (by decide), room_w (by omega) (by omega), kk, if_neg (by simp)]
  ·rw [cnd_y (by simp [he]), if_neg he]
 ·have hp : isB l = false := by simpa using hp
  rw [hp, cnd_y (by decide), if_neg (by simp)]
theorem r_move19 {l : List APos'} {f t : AUnit'} {k q : Int} (hb : okB l) (hl : l.length ≤ 80) (hk : 1 ≤ k ∧ k ≤ 8) (hq : q ≠ 0) (hI : I64 q) (hI2 : I64 (-q)) : zsz l f t [(k, (q, ()))] = some (moveB l f t k q) := by
 show zje stdW l f t [(k, (q, ()))] = _
 unfold zje moveB
 rw [zaa (r_isB19 hb)]
 by_cases hp : isB l = true
 ·rw [hp, cnd_n (by decide), if_pos rfl, zaa (r_neg11 hk hq hI hI2)]
  show stdW.cnd ((0 : Int) != 0) _ (stdW.call (zgl l f [(k, (-q, ()))]) _) = _
  rw [cnd_n (by decide), zaa (r_shift19 hb (okL1 hI2) (by simp))]
  by_cases he : (shiftP l f [(k, (-q, ()))]).2.1 = 0
  ·have S := zvp he
   rw [cnd_n (by simp [he]), if_pos he, zaa (r_shift19 (S.ok hb (by omega)) (okL1 hI) (by simp))]
  ·rw [cnd_y (by simp [he]), if_neg he]
 ·have hp : isB l = false := by simpa using hp
  rw [hp, cnd_y (by decide), if_neg (by simp)]
theorem r_is21 {d : zag} (hd : okDk d 100) : zgy d = some (isB d.1 && isP d.2.1) := by
 show zqg stdW d = _
 unfold zqg
 rw [zaa (r_isB19 hd.1.1)]
 cases isB d.1 with
 | true => rw [cnd_y rfl, zaa (r_is17 (by have := hd.2.2; omega))]; rfl
 | false => rw [cnd_n rfl]; rfl
end Go.Proofs.YtbpbkmngbhgpfaaGreat

namespace Go.Proofs.YtbpbkmngbhgpfaaGreat
open Go Go.Vc Go.RowKit
theorem r_cost {i : AInst'} {q p : Int} : zmd i q p = zdi i q 0 p := by
 show zob stdW i q p = _
 unfold zob
 show stdW.call (zdi i q 0 p) (fun v1 => some v1) = _
 cases zdi i q 0 p <;> rfl
theorem r_is02 {g : Int} (h : sml g) : zrl (fits64 g).1 (fits64 g).2.1 (big g) = some true := by
 show zrk stdW _ _ (big g) = _
 unfold zrk
 show stdW.call (zcd (big g)) _ = _
 rw [zaa (r_fits h)]
 unfold fits64
 by_cases hI : I64 g
 ·rw [decide_eq_true hI, cnd_n (by decide), if_pos hI]
  show stdW.cnd ((0 : Int) == 0) (stdW.call (zcl g) _) _ = _
  rw [cnd_y (by decide), zaa (r_of hI)]
  show stdW.call (zll (big g) (big g)) _ = _
  rw [zaa (r_cmpB h h), if_pos (by omega)]; rfl
 ·rw [decide_eq_false hI, cnd_y (by decide), if_neg hI]
  rfl
theorem goes_tail {i : AInst'} {q p : Int} (hm : i.2.2.2.2.1.length ≤ 1000000) (hq : I64 q) :
  (stdW.call (zmd (i.1, (i.2.1, (i.2.2.1, (i.2.2.2.1, (i.2.2.2.2.1, ()))))) q p) fun v7 =>
    stdW.join (fun (z8 : Bool × Unit) =>
     stdW.cnd z8.1 (
     stdW.cnd (v7.1 == 0) (
      stdW.cnd (v7.2.1 == 2) (stdW.call (zdv) fun v9 => some v9)
      (some false))
      (some false))
     (stdW.call (zdz (i.1, (i.2.1, (i.2.2.1, (i.2.2.2.1, (i.2.2.2.2.1, ()))))) q 0 p) fun v10 => stdW.call (zrl v7.1 v7.2.1 (v10.1, (v10.2.1, ()))) fun v11 =>
     stdW.cnd v11 (stdW.call (zdv) fun v12 => some v12)
      (some false)))
     fun k13 => stdW.call (zji (i.1, (i.2.1, (i.2.2.1, (i.2.2.2.1, (i.2.2.2.2.1, ())))))) fun v14 =>
     stdW.cnd (!v14) ((k13 (true, ())))
     (
     stdW.cnd (decide (p < 0)) ((k13 (true, ())))
      ((k13 ((decide (2147483647 < p)), ()))))) = some true := by
 have e0 : zmd (i.1, (i.2.1, (i.2.2.1, (i.2.2.2.1, (i.2.2.2.2.1, ()))))) q p = zdi i q 0 p := r_cost
 have e1 : zji (i.1, (i.2.1, (i.2.2.1, (i.2.2.2.1, (i.2.2.2.2.1, ()))))) = some (decide (okC i)) := r_is13x hm
 by_cases hc : okC i ∧ (0 ≤ p ∧ p ≤ 2147483647)
 ·have hg := r_gain13g hc.1 hq (a := 0) (b := p) (by omega) hc.2
  have e2 : zdz (i.1, (i.2.1, (i.2.2.1, (i.2.2.2.1, (i.2.2.2.2.1, ()))))) q 0 p = some (big (gZ i q 0 p)) := hg
  have hs : sml (gZ i q 0 p) := by have := gZ_bd hc.1 hq (a := 0) (b := p) (by omega) hc.2; unfold sml; omega
  have e3 : zrl (fits64 (gZ i q 0 p)).1 (fits64 (gZ i q 0 p)).2.1 ((big (gZ i q 0 p)).1, ((big (gZ i q 0 p)).2.1, ())) = some true := r_is02 hs
  rw [e0, zaa (r_igain hm hc.1 hq (by omega) hc.2)]
  refine join_g fun k hk => ?_
  have kf : k (false, ()) = some true := by
   subst hk
   show stdW.cnd false _ (stdW.call (zdz _ _ _ _) _) = _
   rw [cnd_n rfl, zaa e2, zaa e3, cnd_y rfl, zaa r_lives21]
  clear hk
  rw [zaa e1, decide_eq_true hc.1, cnd_n (by decide), cnd_n (decide_eq_false (by omega)), decide_eq_false (by omega)]
  exact kf
 ·have e2 := r_igain_bad (q := q) (a := 0) (b := p) hm fun h => hc ⟨h.1, h.2.2⟩
  rw [e0, zaa e2]
  refine join_g fun k hk => ?_
  have kt : k (true, ()) = some true := by
   subst hk
   show stdW.cnd true (stdW.cnd ((0 : Int) == 0) (stdW.cnd ((2 : Int) == 2) (stdW.call zdv _) _) _) _ = _
   rw [cnd_y rfl, cnd_y (by decide), cnd_y (by decide), zaa r_lives21]
  clear hk
  rw [zaa e1]
  by_cases h1 : okC i
  ·rw [decide_eq_true h1, cnd_n (by decide)]
   by_cases h2 : p < 0
   ·rw [cnd_y (decide_eq_true h2)]; exact kt
   ·rw [cnd_n (decide_eq_false h2), decide_eq_true (show 2147483647 < p from Classical.byContradiction fun h3 => hc ⟨h1, by omega, by omega⟩)]; exact kt
  ·rw [decide_eq_false h1, cnd_y (by decide)]; exact kt
theorem r_at21 {d : zag} {i : AInst'} {f t : AUnit'} {q p : Int} (hd : okDk d 70) (hm : i.2.2.2.2.1.length ≤ 1000000) (hq : I64 q) : zba d i f t q p = some (atP d i f t q p) := by
 show zqh stdW d i f t q p = _
 unfold zqh atP
 have e1 : zgy (d.1, (d.2.1, ())) = some (isB d.1 && isP d.2.1) := r_is21 (d := d) (hd.mono (by omega))
 have e2 : zji (i.1, (i.2.1, (i.2.2.1, (i.2.2.2.1, (i.2.2.2.2.1, ()))))) = some (decide (okC i)) := r_is13x hm
 obtain ⟨⟨hb, hbl⟩, hf, hfl⟩ := hd
 rw [zaa e1]
 by_cases h1 : isB d.1 = true ∧ isP d.2.1 = true
 ·rw [if_pos h1, h1.1, h1.2, cnd_n (by decide)]
  refine join_g fun k hk => ?_
  have kt : k (true, ()) = some (noD, (2, ())) := by
   subst hk
   show stdW.cnd true (some (([], ([], ())), (2, ()))) _ = _
   rw [cnd_y rfl]; rfl
  have kf : rightD i q p → k (false, ()) = some (if f = t then (noD, (24, ())) else (
    if I64 (gZ i q p i.2.2.1) then (
     if (moveB d.1 f t i.1 q).2.1 = 0 then (
      if (moveP d.2.1 f t (gZ i q p i.2.2.1)).2.1 = 0 then (((moveB d.1 f t i.1 q).1, ((moveP d.2.1 f t (gZ i q p i.2.2.1)).1, ())), (0, ()))
      else (noD, (moveP d.2.1 f t (gZ i q p i.2.2.1)).2))
     else (noD, (moveB d.1 f t i.1 q).2))
    else (noD, (7, ())))) := by
   intro hr
   subst hk
   have hI2 : I64 (-q) := by have := hr.2.2.2; unfold I64; omega
   have hg : zdz (i.1, (i.2.1, (i.2.2.1, (i.2.2.2.1, (i.2.2.2.2.1, ()))))) q p i.2.2.1 = some (big (gZ i q p i.2.2.1)) := r_gain13g hr.1 hq hr.2.1 hr.1.2.2.1
   have hs : sml (gZ i q p i.2.2.1) := by have := gZ_bd hr.1 hq hr.2.1 hr.1.2.2.1; unfold sml; omega
   show stdW.cnd false _ (stdW.cnd (Go.Vc.notIf false ((f.1 == t.1) && (f.2.1 == t.2.1))) _ _) = _
   rw [cnd_n rfl, nif_f, eqA]
   by_cases h3 : f = t
   ·rw [if_pos h3, cnd_y (decide_eq_true h3)]; rfl
   ·rw [if_neg h3, cnd_n (decide_eq_false h3), zaa hg]
    generalize gZ i q p i.2.2.1 = g at *
    show stdW.call (zcd (big g)) _ = _
    rw [zaa (r_fits hs)]
    by_cases h4 : I64 g
    ·rw [decide_eq_true h4, cnd_n (by decide), if_pos h4, zaa (r_move19 hb (by omega) hr.1.1 hr.2.2.1 hq hI2)]
     by_cases h5 : (moveB d.1 f t i.1 q).2.1 = 0
     ·have hn : sml (-g) := by unfold sml at *; omega
      rw [if_pos h5, cnd_n (by simp [h5])]
      have e4 : zel ((big g).1, ((big g).2.1, ())) = some (big (-g)) := r_negB hs
      have e5 : zcd ((big (-g)).1, ((big (-g)).2.1, ())) = some (decide (I64 (-g))) := r_fits hn
      rw [zaa e4, zaa e5]
      unfold moveP
      by_cases h6 : I64 (-g)
      ·have e6 : zcy ((big (-g)).1, ((big (-g)).2.1, ())) = some (-g) := r_int h6
       have e7 : zcy ((big g).1, ((big g).2.1, ())) = some g := r_int h4
       rw [decide_eq_true h6, cnd_n (by decide), zaa e4, zaa e6, zaa e7]
       show stdW.call (zqn d.2.1 [(f, (-g, ())), (t, (g, ()))]) _ = _
       rw [if_pos h6, zaa (r_pay17 hf (fun x hx => by
        simp only [List.mem_cons, List.not_mem_nil, or_false] at hx
        rcases hx with rfl | rfl
        ·exact h6
        ·exact h4) (by simp; omega))]
       by_cases h7 : (payP d.2.1 [(f, (-g, ())), (t, (g, ()))]).2.1 = 0
       ·rw [if_pos h7, cnd_n (by simp [h7])]
       ·rw [if_neg h7, cnd_y (by simp [h7])]; rfl
      ·rw [decide_eq_false h6, cnd_y (by decide), if_neg h6, if_pos h1.2, if_neg (by decide)]; rfl
     ·rw [if_neg h5, cnd_y (by simp [h5])]; rfl
    ·rw [decide_eq_false h4, cnd_y (by decide), if_neg h4]; rfl
  clear hk
  have bad : ¬ rightD i q p → k (true, ()) = some (if rightD i q p then (if f = t then (noD, (24, ())) else (
    if I64 (gZ i q p i.2.2.1) then (
     if (moveB d.1 f t i.1 q).2.1 = 0 then (
      if (moveP d.2.1 f t (gZ i q p i.2.2.1)).2.1 = 0 then (((moveB d.1 f t i.1 q).1, ((moveP d.2.1 f t (gZ i q p i.2.2.1)).1, ())), (0, ()))
      else (noD, (moveP d.2.1 f t (gZ i q p i.2.2.1)).2))
     else (noD, (moveB d.1 f t i.1 q).2))
    else (noD, (7, ())))) else (noD, (2, ()))) := fun h => by rw [kt, if_neg h]
  rw [zaa e2]
  by_cases c1 : okC i
  ·rw [decide_eq_true c1, cnd_n (by decide)]
   by_cases c2 : p < 0
   ·rw [cnd_y (decide_eq_true c2)]; exact bad fun h => by have := h.2.1; omega
   rw [cnd_n (decide_eq_false c2)]
   by_cases c3 : 2147483647 < p
   ·rw [cnd_y (decide_eq_true c3)]; exact bad fun h => by have := h.2.1; omega
   rw [cnd_n (decide_eq_false c3)]
   by_cases c4 : q = 0
   ·rw [cnd_y (by simp [c4])]; exact bad fun h => h.2.2.1 c4
   rw [cnd_n (by simp [c4])]
   by_cases c5 : q < -1099511627776
   ·rw [cnd_y (decide_eq_true c5)]; exact bad fun h => by have := h.2.2.2; omega
   rw [cnd_n (decide_eq_false c5)]
   by_cases c6 : 1099511627776 < q
   ·rw [decide_eq_true c6]; exact bad fun h => by have := h.2.2.2; omega
   ·have hr : rightD i q p := ⟨c1, by omega, c4, by omega, by omega⟩
    rw [decide_eq_false c6, if_pos hr]; exact kf hr
  ·rw [decide_eq_false c1, cnd_y (by decide)]; exact bad fun h => c1 h.1
 ·have e : (isB d.1 && isP d.2.1) = false := by
   cases hb' : isB d.1 <;> cases hp' : isP d.2.1 <;> simp_all
  rw [if_neg h1, e, cnd_y (by decide)]; rfl
theorem goes_all {l : List APos'} {p : List AFlow'} {i : AInst'} {f t : AUnit'} {q pr : Int} (hl : l.length ≤ 9223372036854775807) (hlm : ∀ x ∈ l, x.2.1.length ≤ 9223372036854775807) (hlo : ∀ x ∈ l, okL x.2.1) (hp : okF p) (hpl : p.length ≤ 9223372036854775807)
  (hm : i.2.2.2.2.1.length ≤ 9223372036854775807) (hq : I64 q) : zhu l p i f t q pr = some true := by
 show zem stdW l p i f t q pr = _
 unfold zem
 have hF := r_fewD hl hlm hpl
 have hO : zda (i.1, (i.2.1, (i.2.2.1, (i.2.2.2.1, (i.2.2.2.2.1, ()))))) = some (oneI i) := r_oneI hm
 have hd : okDk (fewD l p) 40 := ⟨⟨few19_ok hlo, by show (few19 l).length ≤ 40; unfold few19; rw [List.length_map, List.length_take]; omega⟩, hp.take 20, by show (p.take 20).length ≤ 40; rw [List.length_take]; omega⟩
 have hm1 : (oneI i).2.2.2.2.1.length ≤ 1000000 := by show (i.2.2.2.2.1.take 9).length ≤ _; rw [List.length_take]; omega
 have ht := goes_tail (p := pr) hm1 hq
 generalize fewD l p = d at *
 generalize oneI i = i1 at *
 have hA : zeu (d.1, (d.2.1, ())) (i1.1, (i1.2.1, (i1.2.2.1, (i1.2.2.2.1, (i1.2.2.2.2.1, ()))))) f t q pr = some (atP d i1 f t q pr) := r_at (hd.mono (by omega)) hm1 hq
 have hB : zba (d.1, (d.2.1, ())) (i1.1, (i1.2.1, (i1.2.2.1, (i1.2.2.2.1, (i1.2.2.2.2.1, ()))))) f t q pr = some (atP d i1 f t q pr) := r_at21 (hd.mono (by omega)) hm1 hq
 have hpl1 : zaj (d.1, (d.2.1, ())) = some (d.1, (d.2.1, ())) := rfl
 have hI : zmc (d.1, (d.2.1, ())) = some (isB d.1 && isP d.2.1) := r_dealIs (d := d) (hd.mono (by omega))
 have hI2 : zgy (d.1, (d.2.1, ())) = some (isB d.1 && isP d.2.1) := r_is21 (d := d) (hd.mono (by omega))
 have hokA : okDk (atP d i1 f t q pr).1 100 := by
  by_cases h : (atP d i1 f t q pr).2.1 = 0
  ·exact (at_okD h hd (by omega)).mono (by omega)
  ·rw [at_bad h]; exact okD_no 100
 generalize atP d i1 f t q pr = a at *
 have hpl2 : zaj (a.1.1, (a.1.2.1, ())) = some (a.1.1, (a.1.2.1, ())) := rfl
 have hS : zmo (a.1.1, (a.1.2.1, ())) (a.1.1, (a.1.2.1, ())) = some true := r_same21 (d := a.1) hokA
 have hn : Go.Vc.notIf true ((isB d.1 && isP d.2.1) == (isB d.1 && isP d.2.1)) = false := by rw [nif_t]; simp
 have hne : (a.2.1 != a.2.1) = false := by simp
 have hJ : zae stdW q pr i1 a a d = some true := by
  unfold zae
  repeat' (first
   | assumption
   | (refine join_g fun k hk => ?_; have kf : k (false, ()) = some true := (by subst hk; show stdW.cnd false _ _ = _; rw [cnd_n rfl]; exact ht); clear hk)
   | refine both_of ?_ ?_ | rw [zaa hpl1] | rw [zaa hpl2] | rw [zaa hS] | rw [cnd_n (c := !true) rfl] | rw [cnd_n hne] | rw [zaa hI] | rw [zaa hI2] | rw [hn])
 repeat' (first | exact hJ | refine both_of ?_ ?_ | rw [zaa hF] | rw [zaa hO] | rw [zaa hA] | rw [zaa hpl1] | rw [zaa hB])
end Go.Proofs.YtbpbkmngbhgpfaaGreat

namespace Go.Proofs.YtbpbkmngbhgpfaaGreat
open Go Go.Vc Go.RowKit
theorem goes_true (x0 : DT.den (.slc tAPos)) (x1 : DT.den (.slc tAFlow)) (x2 : DT.den tAInst) (x3 x4 : DT.den tAUnit) (x5 x6 : DT.den (.int .i64)) (o0 : DT.okD (.slc tAPos) x0) (o1 : DT.okD (.slc tAFlow) x1) (o2 : DT.okD tAInst x2) (_ : DT.okD tAUnit x3) (_ : DT.okD tAUnit x4) (o5 : DT.okD (.int .i64) x5) (_ : DT.okD (.int .i64) x6) :
  zhu x0 x1 x2 x3 x4 x5 x6 = some true :=
 goes_all (okD_book o0).2 (fun p hp => ((okD_book o0).1 p hp).2) (fun p hp => ((okD_book o0).1 p hp).1) (okD_flows o1).1 (okD_flows o1).2 (okD_inst o2) (wf_i64 o5)
end Go.Proofs.YtbpbkmngbhgpfaaGreat

namespace Go.Proofs.YtbpbkmngbhgpfaaGreat
open Go Go.Vc Go.RowKit Go.ChangeShapes Go.WideShapes Go.ChangeAt Go.Joins
theorem own : ownKnob Tryz.prog.godebug = none := by kernel_rfl
theorem zpb : laidOutB Tryz.prog = true := by kernel_rfl
theorem zds {H : Type} {enc : TypeId × Value → H} {w : World} {spare : Nat → Bool} {held : Bool} {t : TypeId} {v : Value} {d : DataW H} {p : List MemPlace} (h : DataW.Trod enc Tryz.prog w 0 spare held t v d p) : ∀ x ∈ p, x.block < w.heap.size := by
 obtain ⟨m, hm⟩ := h; exact DataW.trod_lt m _ _ _ hm
end Go.Proofs.YtbpbkmngbhgpfaaGreat

namespace Go.Vc
open Go
def closT (T : List (List Nat)) : Nat → List Nat → List Nat → List Nat
 | 0, _, seen => seen.reverse
 | _, [], seen => seen.reverse
 | n + 1, f :: todo, seen => if seen.contains f then closT T n todo seen else closT T n ((T[f]?).getD [] ++ todo) (f :: seen)
theorem lead_eq {P : Program} {T : List (List Nat)} (hT : P.funcs.toList.map P.leadsTo = T) (f : Nat) : (P.funcs[f]?).elim [] P.leadsTo = (T[f]?).getD [] := by
 subst hT
 rw [List.getElem?_map, Array.getElem?_toList]
 cases P.funcs[f]? <;> rfl
theorem zkh {P : Program} {T : List (List Nat)} (hT : P.funcs.toList.map P.leadsTo = T) : ∀ n todo seen, P.closureVia n todo seen = closT T n todo seen
 | 0, _, _ => by simp only [Program.closureVia, closT]
 | n + 1, [], _ => by simp only [Program.closureVia, closT]
 | n + 1, f :: todo, seen => by
  simp only [Program.closureVia, closT]
  rw [zkh hT n, zkh hT n, lead_eq hT f]
theorem closure_eq {P : Program} {T : List (List Nat)} (hT : P.funcs.toList.map P.leadsTo = T) (f : Nat) : P.closure f = closT T (1 + (T.map fun l => l.length + 1).sum) [f] [] := by
 unfold Program.closure
 rw [zkh hT]
 subst hT
 rw [List.map_map]; rfl
end Go.Vc

namespace Go.Proofs.YtbpbkmngbhgpfaaGreat
open Go Go.Vc
def leadsT : List (List Nat) := [[], [], [1], [7, 8, 9, 10, 11, 12, 13, 14, 15, 16, 16, 17], [7, 9, 17, 18, 20, 19, 18, 21, 22, 23, 19, 22, 21, 24, 25, 25, 27, 27, 26, 17], [28, 29, 30, 32, 31, 32, 33, 34, 32, 35, 36, 37, 38, 40, 39, 38], [41, 43, 44, 42, 45], [46, 47, 48, 49, 50], [], [51, 52, 53, 54, 13, 55], [56, 57, 24, 14, 58, 59], [60, 61], [62, 20, 20, 19, 63, 64], [65, 66], [27, 25], [67, 68], [26], [9, 11], [20, 19], [70, 69, 71, 72, 69, 72, 69], [73, 73, 70], [74], [23, 19], [20, 19], [], [], [], [], [75, 49], [], [34, 76, 77, 78, 79], [35, 37, 40, 63, 80, 81, 63, 81, 64, 64, 58], [], [82, 67], [83, 51], [84, 56], [77], [85, 85], [30, 65, 65, 87, 86], [63, 20, 21], [20, 20, 88, 20, 20, 74, 88], [89, 75, 75, 49, 50, 46], [], [90, 91, 92, 93, 94, 95, 95, 96, 97], [98, 99, 100, 99, 100, 100, 99, 100, 99, 100, 99, 99, 100, 99, 100, 99, 100, 101, 101, 99, 100, 99, 100, 100], [102, 43, 103, 104, 102, 43, 42], [], [105], [106], [], [8], [107], [108, 107], [110, 111, 109], [], [112, 113], [114], [115, 114], [56, 116, 20, 19, 63, 64, 64], [114], [117, 118, 61], [119, 121, 120], [115, 20, 122, 123, 63, 124, 19, 63, 64], [125], [], [], [126], [], [26], [], [], [], [], [], [81, 19], [127], [128], [128, 129, 129, 131, 130, 132], [83, 133, 134, 134], [135, 51, 112], [84, 136, 137, 137], [69], [86], [138, 107], [139, 114], [], [], [140], [70, 69], [], [], [141], [91, 91, 141, 91, 91, 91, 141, 91, 141, 91, 91, 141], [91, 91, 91, 91, 142, 143], [91, 91, 142, 91, 141, 91, 91, 142, 91, 141, 91], [91, 142, 91, 91, 141], [91, 142, 141, 91, 142, 91, 91, 141], [144, 145], [], [98], [146], [99, 100, 100], [], [147, 148, 149, 150, 151, 152, 152, 154, 153, 158, 157, 161, 162, 43, 163], [164, 165, 166, 167, 168, 169, 170, 82, 82, 67, 68], [171, 122], [172, 173], [], [174, 175], [176], [177], [], [51, 178, 179, 180, 61], [108, 181], [], [182, 183], [114], [108, 184], [185, 186], [], [132], [187, 188], [], [20, 20, 88], [123, 20, 88, 189], [73, 19], [], [], [129, 129, 190, 191], [], [192, 119, 192, 193, 193, 194, 196, 195, 197], [119, 119, 192, 192, 193, 196, 196, 195], [119], [198, 135], [83, 87, 199, 200, 201, 202, 203], [119, 119, 204, 120], [139, 205, 20, 81, 206], [84, 208, 207, 114], [], [], [], [144, 210, 209], [91], [91], [], [], [98], [145], [211], [213, 212, 215, 214, 218, 217], [220, 219, 223, 222], [225, 224, 227, 226], [230, 229], [211, 232], [155, 156], [148, 148], [211], [211, 232], [155, 160, 159], [211, 232], [148, 148, 156], [232], [233, 234, 235, 236, 237, 238, 238, 239], [], [], [240], [], [241], [], [], [], [], [], [], [], [243, 243, 242], [], [244], [245], [246, 247], [], [52, 248], [], [], [], [249], [131, 132], [194, 194], [197], [69, 73, 74], [250], [], [196, 251, 251], [], [], [251, 251], [], [], [138], [252, 198, 253, 61], [107], [140], [], [254, 255], [187, 187, 119, 187, 188], [], [63, 64], [139, 205, 20, 19, 206], [], [], [], [256, 257, 258, 259], [211, 232], [148, 156, 148, 148], [211, 232], [148, 156, 156, 156, 156, 216], [211, 232], [211, 232], [148, 156, 156], [211, 232], [148, 148, 148, 148, 221], [211, 232], [211, 232], [155, 155, 211], [211, 232], [148, 155, 148, 156, 156], [211, 232], [148, 155, 155, 228, 156, 148, 148, 148], [148, 156], [211, 232], [155, 228, 231], [211, 232], [], [54], [260, 128, 185, 261], [262, 262, 263], [262, 264, 265, 266], [262, 262, 264, 266, 265], [262, 264, 83], [267, 267, 184, 51, 52], [268], [], [], [269, 269], [], [], [271, 270], [107, 107], [126, 107, 126], [], [], [], [272], [], [], [273], [], [259, 259], [], [], [], [274, 275], [], [107], [276], [], [], [262], [], [], [277, 278, 279, 280, 281, 282, 283, 284, 270, 270], [285, 286], [], [287, 287, 287], [288], [289], [290, 291], [], [292, 292], [293, 294], [295, 295, 295, 296], [], [], [], [], [], [], [], [298, 297], [], [300, 299], [301], [], [271], [], [296], [302, 302, 302], [], [], [], [], [], [], [], [], [], [], [], [], [], [], [], [], [], [], [], [], [], [], [], []]
set_option maxRecDepth 1000000 in
theorem leads_ok : Tryz.prog.funcs.toList.map Tryz.prog.leadsTo = leadsT := by kernel_rfl
end Go.Proofs.YtbpbkmngbhgpfaaGreat
