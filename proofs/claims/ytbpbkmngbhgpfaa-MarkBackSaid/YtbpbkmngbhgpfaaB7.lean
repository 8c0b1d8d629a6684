import Derived.Test.YtbpbkmngbhgpfaaB6
import Derived.Test.YtbpbkmngbhgpfaaRows
import Derived.JoinedOf
namespace Go.Proofs.Ytbpbkmngbhgpfaa
open Go Go.Vc Go.RowKit
/-! sign -/
def szOf (z : Int) : WideSize' := (z / 18446744073709551616, z % 18446744073709551616, ())
def w128 (z : Int) : WideWide' := (IntKind.i64.wrap (z / 18446744073709551616), z % 18446744073709551616, ())
theorem w128_in (z : Int) (h : In128 z) : w128 z = wide z := by
  unfold In128 at h; unfold w128 wide; rw [IntWalk.i64_in _ (by omega)]
def absI (z : Int) : Int := if z < 0 then -z else z
theorem r_below (w : WideWide') : wide_Wide_below w = some (decide (w.1 < 0)) := rfl
theorem r_size (x : WideWide') (hx : wOk x) : wide_Wide_size x = some (szOf (absI (wv x))) := by
  unfold wOk at hx
  show wide_Wide_sizeW stdW x = _
  unfold wide_Wide_sizeW
  rw [call_eq (r_below _)]
  by_cases h : x.1 < 0
  · rw [cnd_n (by simp [h]), call_eq (sub64_is (by omega) (by omega) (by omega) (by omega) (by omega)), call_eq (sub64_is (by omega) (by rw [IntKind.wrap_u64]; omega) (by rw [IntKind.wrap_u64]; omega) (by dsimp only; split <;> omega) (by dsimp only; split <;> omega))]
    unfold szOf absI wv
    refine congrArg some (Prod.ext ?_ (Prod.ext ?_ rfl))
    · dsimp only; rw [IntKind.wrap_u64]; split <;> split <;> omega
    · dsimp only; split <;> omega
  · rw [cnd_y (by simp [h])]
    unfold szOf absI wv
    refine congrArg some (Prod.ext ?_ (Prod.ext ?_ rfl))
    · dsimp only; rw [IntKind.wrap_u64]; split <;> omega
    · dsimp only; split <;> omega
theorem lo_fits (z : Int) (hz : 0 ≤ z ∧ z < 340282366920938463463374607431768211456) (h : z / 18446744073709551616 = 9223372036854775808) : ((z % 18446744073709551616) == 0) = decide (In128 (-z)) := by
  by_cases h0 : z % 18446744073709551616 = 0
  · have : In128 (-z) := by unfold In128; omega
    rw [decide_eq_true this]; simp [h0]
  · have : ¬ In128 (-z) := by unfold In128; omega
    rw [decide_eq_false this]; simp [h0]
theorem signed_raw (hi lo : Int) (m : Bool) : wide_size_signed (hi, lo, ()) m = (
    stdW.cnd (!m) (some (((IntKind.i64.wrap hi), lo, ()), ((decide (hi < 9223372036854775808)), ())))
    (stdW.call (sub64 0 lo 0) fun v1 => stdW.call (sub64 0 hi v1.2.1) fun v2 =>
    stdW.cnd (decide (hi < 9223372036854775808)) (some (((IntKind.i64.wrap v2.1), (v1.1, ())), (true, ())))
     (
     stdW.cnd (hi == 9223372036854775808) (some (((IntKind.i64.wrap v2.1), (v1.1, ())), ((lo == 0), ())))
      (some (((IntKind.i64.wrap v2.1), (v1.1, ())), (false, ())))))) := rfl
theorem r_signed (z : Int) (m : Bool) (hz : 0 ≤ z ∧ z < 340282366920938463463374607431768211456) : wide_size_signed (szOf z) m = some (w128 (if m = true then -z else z), decide (In128 (if m = true then -z else z)), ()) := by
  unfold szOf
  rw [signed_raw]
  cases m
  · rw [cnd_y (by rfl)]
    simp only [Bool.false_eq_true, if_false]
    unfold w128
    congr 3
    unfold In128; apply decide_eq_decide.2; omega
  · rw [cnd_n (by rfl), call_eq (sub64_is (by omega) (by omega) (by omega) (by omega) (by omega)), call_eq (sub64_is (by omega) (by omega) (by omega) (by dsimp only; split <;> omega) (by dsimp only; split <;> omega))]
    have e : ((IntKind.i64.wrap ((0 - z / 18446744073709551616 - (if 0 < z % 18446744073709551616 + 0 then 1 else 0)) % 18446744073709551616), ((0 - z % 18446744073709551616 - 0) % 18446744073709551616, ())) : WideWide') = w128 (-z) := by
      rw [wrap_mod_i]; unfold w128
      refine Prod.ext ?_ (Prod.ext ?_ rfl)
      · dsimp only; congr 1; split <;> omega
      · dsimp only; omega
    show _ = some (w128 (-z), decide (In128 (-z)), ())
    rw [← e]
    by_cases h1 : z / 18446744073709551616 < 9223372036854775808
    · rw [cnd_y (decide_eq_true h1)]
      have : In128 (-z) := by unfold In128; omega
      rw [decide_eq_true this]
    · rw [cnd_n (decide_eq_false h1)]
      by_cases h2 : z / 18446744073709551616 = 9223372036854775808
      · rw [cnd_y (by simp [h2]), lo_fits z hz h2]
      · rw [cnd_n (by simp [h2])]
        have : ¬ In128 (-z) := by unfold In128; omega
        rw [decide_eq_false this]

/-! products of 64 bits -/
theorem and32 (a : Int) (h : 0 ≤ a ∧ a < 18446744073709551616) : bits .and .u64 a 4294967295 = a % 4294967296 := by
  obtain ⟨n, rfl⟩ := Int.eq_ofNat_of_zero_le h.1
  show IntKind.u64.wrap (((BitVec.ofInt 64 ((n : Nat) : Int) &&& BitVec.ofInt 64 4294967295).toNat : Nat) : Int) = _
  rw [BitVec.toNat_and, BitVec.toNat_ofInt, BitVec.toNat_ofInt]
  have e1 : (((n : Nat) : Int) % ((2 ^ 64 : Nat) : Int)).toNat = n := by
    have : ((2 ^ 64 : Nat) : Int) = 18446744073709551616 := by decide
    omega
  have e2 : ((4294967295 : Int) % ((2 ^ 64 : Nat) : Int)).toNat = 2 ^ 32 - 1 := by decide
  rw [e1, e2, Nat.and_two_pow_sub_one_eq_mod, IntKind.wrap_u64]
  have : (2 : Nat) ^ 32 = 4294967296 := by decide
  rw [this]; omega
theorem fdiv32 (a : Int) (h : 0 ≤ a) : Int.fdiv a (2 ^ (Min.min (Int.toNat 32) (IntKind.bits .u64))) = a / 4294967296 := by
  have e : (2 : Int) ^ (Min.min (Int.toNat 32) (IntKind.bits .u64)) = 4294967296 := by decide +kernel
  rw [e, Int.fdiv_eq_ediv_of_nonneg _ (by omega)]
theorem mul_bd {a b : Int} (ha : 0 ≤ a ∧ a < 4294967296) (hb : 0 ≤ b ∧ b < 4294967296) : 0 ≤ a * b ∧ a * b ≤ 18446744065119617025 := by
  refine ⟨Int.mul_nonneg ha.1 hb.1, ?_⟩
  have h1 : a * b ≤ 4294967295 * b := Int.mul_le_mul_of_nonneg_right (by omega) hb.1
  omega
theorem r_mul64 {x y : Int} (hx : 0 ≤ x ∧ x < 18446744073709551616) (hy : 0 ≤ y ∧ y < 18446744073709551616) : math_bits_Mul64 x y = some (x * y / 18446744073709551616, x * y % 18446744073709551616, ()) := by
  show math_bits_Mul64W stdW x y = _
  unfold math_bits_Mul64W
  rw [nn_w (by omega), nn_w (by omega), nn_w (by omega), nn_w (by omega), nn_w (by omega)]
  simp only [fdiv32 x hx.1, fdiv32 y hy.1, and32 x hx, and32 y hy]
  have hx1 : 0 ≤ x / 4294967296 ∧ x / 4294967296 < 4294967296 := by omega
  have hx0 : 0 ≤ x % 4294967296 ∧ x % 4294967296 < 4294967296 := by omega
  have hy1 : 0 ≤ y / 4294967296 ∧ y / 4294967296 < 4294967296 := by omega
  have hy0 : 0 ≤ y % 4294967296 ∧ y % 4294967296 < 4294967296 := by omega
  have ex : x = x / 4294967296 * 4294967296 + x % 4294967296 := by omega
  have ey : y = y / 4294967296 * 4294967296 + y % 4294967296 := by omega
  have exy : x * y = (x / 4294967296) * (y / 4294967296) * 18446744073709551616 + ((x / 4294967296) * (y % 4294967296) + (x % 4294967296) * (y / 4294967296)) * 4294967296 + (x % 4294967296) * (y % 4294967296) := by
    generalize x / 4294967296 = x1 at *
    generalize x % 4294967296 = x0 at *
    generalize y / 4294967296 = y1 at *
    generalize y % 4294967296 = y0 at *
    rw [ex, ey, Int.add_mul, Int.mul_add, Int.mul_add]
    have a1 : x1 * 4294967296 * (y1 * 4294967296) = x1 * y1 * 18446744073709551616 := by
      rw [Int.mul_assoc, Int.mul_left_comm 4294967296, ← Int.mul_assoc]; rfl
    have a2 : x1 * 4294967296 * y0 = x1 * y0 * 4294967296 := by rw [Int.mul_assoc, Int.mul_comm 4294967296, ← Int.mul_assoc]
    have a3 : x0 * (y1 * 4294967296) = x0 * y1 * 4294967296 := by rw [← Int.mul_assoc]
    rw [a1, a2, a3, Int.add_mul]; omega
  have hD := mul_bd hx1 hy1
  have hB := mul_bd hx1 hy0
  have hC := mul_bd hx0 hy1
  have hA := mul_bd hx0 hy0
  rw [exy]
  generalize (x / 4294967296) * (y / 4294967296) = D at *
  generalize (x / 4294967296) * (y % 4294967296) = B at *
  generalize (x % 4294967296) * (y / 4294967296) = C at *
  generalize (x % 4294967296) * (y % 4294967296) = A at *
  have w1 : IntKind.u64.wrap A = A := by rw [IntKind.wrap_u64]; omega
  have w2 : IntKind.u64.wrap B = B := by rw [IntKind.wrap_u64]; omega
  have w3 : IntKind.u64.wrap C = C := by rw [IntKind.wrap_u64]; omega
  have w4 : IntKind.u64.wrap D = D := by rw [IntKind.wrap_u64]; omega
  rw [w1, w2, w3, w4, fdiv32 A (by omega)]
  have w5 : IntKind.u64.wrap (B + A / 4294967296) = B + A / 4294967296 := by rw [IntKind.wrap_u64]; omega
  rw [w5, fdiv32 _ (by omega), and32 _ (by omega)]
  have w6 : IntKind.u64.wrap ((B + A / 4294967296) % 4294967296 + C) = (B + A / 4294967296) % 4294967296 + C := by rw [IntKind.wrap_u64]; omega
  rw [w6, fdiv32 _ (by omega)]
  have w7 : IntKind.u64.wrap (D + (B + A / 4294967296) / 4294967296) = D + (B + A / 4294967296) / 4294967296 := by rw [IntKind.wrap_u64]; omega
  rw [w7, IntKind.wrap_u64, IntKind.wrap_u64]
  congr 1
  refine Prod.ext ?_ (Prod.ext ?_ rfl)
  · show (D + (B + A / 4294967296) / 4294967296 + ((B + A / 4294967296) % 4294967296 + C) / 4294967296) % 18446744073709551616 = _; omega
  · first | rfl | (show _ % 18446744073709551616 = _; omega)
end Go.Proofs.Ytbpbkmngbhgpfaa

namespace Go.Proofs.Ytbpbkmngbhgpfaa
open Go Go.Vc Go.RowKit
/-! ### what a move makes of a leg -/
theorem absI_mul (a b : Int) : (if (decide (a < 0) != decide (b < 0)) = true then -(absI a * absI b) else absI a * absI b) = a * b := by
  unfold absI
  by_cases ha : a < 0 <;> by_cases hb : b < 0 <;> simp [ha, hb, Int.neg_mul, Int.mul_neg]
theorem abs_bd {a : Int} (h : I64 a) : 0 ≤ absI a ∧ absI a ≤ 9223372036854775808 := by unfold I64 at h; unfold absI; split <;> omega
theorem prod_bd {a b A B : Int} (ha : 0 ≤ a ∧ a ≤ A) (hb : 0 ≤ b ∧ b ≤ B) : 0 ≤ a * b ∧ a * b ≤ A * B :=
  ⟨Int.mul_nonneg ha.1 hb.1, Int.mul_le_mul ha.2 hb.2 hb.1 (by omega)⟩
theorem wide_lt0 (z : Int) : decide ((wide z).1 < 0) = decide (z < 0) := by
  refine decide_eq_decide.2 ?_
  show z / 18446744073709551616 < 0 ↔ _; omega
theorem both_of {β : Type} {a b r : Option β} (ha : a = r) (hb : b = r) : stdW.both a b = r := by rw [ha, hb]; exact both_w r
theorem r_wMul {a b : Int} (ha : I64 a) (hb : I64 b) : wide_Mul a b = some (wide (a * b)) := by
  show wide_MulW stdW a b = _
  unfold wide_MulW
  have xa := abs_bd ha
  have xb := abs_bd hb
  have s1 := r_size (wide a) (wide_ok a (i64_128 ha))
  have s2 := r_size (wide b) (wide_ok b (i64_128 hb))
  rw [wv_wide] at s1 s2
  have hp := prod_bd xa xb
  have m1 : math_bits_Mul64 (szOf (absI a)).2.1 (szOf (absI b)).2.1 = some (szOf (absI a * absI b)) := by
    show math_bits_Mul64 (absI a % 18446744073709551616) (absI b % 18446744073709551616) = _
    rw [Int.emod_eq_of_lt xa.1 (by omega), Int.emod_eq_of_lt xb.1 (by omega), r_mul64 (by omega) (by omega)]; rfl
  rw [call_eq (r_wOf a ha), call_eq (r_wOf b hb), call_eq s1, call_eq s2, call_eq m1]
  have hz : 0 ≤ absI a * absI b ∧ absI a * absI b < 340282366920938463463374607431768211456 := by
    have : (9223372036854775808 : Int) * 9223372036854775808 = 85070591730234615865843651857942052864 := by decide
    omega
  have g : (stdW.call (wide_size_signed (szOf (absI a * absI b)) (notIf true (decide ((wide a).1 < 0) == decide ((wide b).1 < 0)))) fun v8 => some v8.1) = some (wide (a * b)) := by
    have e1 : notIf true (decide (a < 0) == decide (b < 0)) = (decide (a < 0) != decide (b < 0)) := by rw [nif_t]; rfl
    rw [wide_lt0, wide_lt0, e1, call_eq (r_signed _ _ hz), absI_mul]
    show some (w128 (a * b)) = _
    rw [w128_in]
    have := absI_mul a b
    have h2 : (9223372036854775808 : Int) * 9223372036854775808 = 85070591730234615865843651857942052864 := by decide
    unfold In128
    split at this <;> omega
  refine both_of ?_ ?_
  · rw [call_eq (r_below _)]
    refine both_of ?_ ?_
    · rw [call_eq (r_below _), both_w]; exact g
    · rw [call_eq (r_below _)]; exact g
  · rw [call_eq (r_below _), call_eq (r_below _)]; exact g
theorem r_wTimes {v n : Int} (hv : I64 v) (hn : I64 n) : wide_Times (wide v) n = some (wide (v * n), 0, ()) := by
  show wide_TimesW stdW (wide v) n = _
  unfold wide_TimesW
  have xa := abs_bd hv
  have xb := abs_bd hn
  have s1 := r_size (wide v) (wide_ok v (i64_128 hv))
  have s2 := r_size (wide n) (wide_ok n (i64_128 hn))
  rw [wv_wide] at s1 s2
  have hp := prod_bd xa xb
  have hc : (9223372036854775808 : Int) * 9223372036854775808 = 85070591730234615865843651857942052864 := by decide
  have e0 : (szOf (absI v)).1 = 0 := by show absI v / 18446744073709551616 = 0; omega
  have e1 : (szOf (absI v)).2.1 = absI v := by show absI v % 18446744073709551616 = _; omega
  have e2 : (szOf (absI n)).2.1 = absI n := by show absI n % 18446744073709551616 = _; omega
  rw [call_eq s1, call_eq (r_wOf n hn), call_eq s2, e0, e1, e2, call_eq (r_mul64 (x := 0) (by omega) (by omega)), call_eq (r_mul64 (x := absI v) (by omega) (by omega)), Int.zero_mul]
  have a1 : add64 (0 % 18446744073709551616 : Int) (absI v * absI n / 18446744073709551616) 0 = some (absI v * absI n / 18446744073709551616, 0, ()) := by
    rw [add64_is (by omega) (by omega) (by omega) (by omega)]
    congr 1
    refine Prod.ext ?_ (Prod.ext ?_ rfl)
    · show ((0 : Int) % 18446744073709551616 + absI v * absI n / 18446744073709551616 + 0) % 18446744073709551616 = absI v * absI n / 18446744073709551616; omega
    · show ((0 : Int) % 18446744073709551616 + absI v * absI n / 18446744073709551616 + 0) / 18446744073709551616 = 0; omega
  show stdW.call (add64 (0 % 18446744073709551616 : Int) (absI v * absI n / 18446744073709551616) 0) _ = _
  rw [call_eq a1, call_eq (r_below _), wide_lt0]
  have e3 : notIf true (decide (v < 0) == decide (n < 0)) = (decide (v < 0) != decide (n < 0)) := by rw [nif_t]; rfl
  show stdW.call (wide_size_signed (szOf (absI v * absI n)) (notIf true (decide (v < 0) == decide (n < 0)))) _ = _
  have hI : In128 (v * n) := by
    have := absI_mul v n
    unfold In128
    split at this <;> omega
  rw [e3, call_eq (r_signed _ _ (by omega)), absI_mul]
  show stdW.cnd (decide (In128 (v * n))) (stdW.cnd ((0 / 18446744073709551616 : Int) == 0) (stdW.call (wide_ranged (w128 (v * n)) ((0 : Int) == 0)) fun v9 => some v9) _) _ = _
  rw [cnd_y (decide_eq_true hI), cnd_y (by decide), call_eq (r_ranged _ _), w128_in _ hI]
  rfl
def findI (t : List AInst') (id : Int) : Option AInst' := t.find? fun i => i.1 == id
def zeroI : AInst' := (0, (0, (0, (0, ([], ())))))
theorem nilq_w {β : Type} (e : Bool) (f : Bool → Option β) : stdW.nilq e f = nilF e f := rfl
theorem r_clone {s : List Int} (h : s.length ≤ 1000000) : slices_Cloneint64_int64 s = some s := by
  show slices_Cloneint64_int64W stdW s = _
  unfold slices_Cloneint64_int64W
  rw [nilq_w]
  refine nilF_eq ?_ fun he => ?_
  · show stdW.cnd (notIf false false) _ _ = _
    rw [cnd_n (by decide), room_w (by omega) (by omega)]; rfl
  · have : s = [] := by simpa using he
    subst this; rfl
theorem r_index {s : List AInst'} {id : Int} (hl : s.length ≤ 1000000) : slices_IndexFuncapi_Inst_api_Inst_inst_at_1 s id = some ((match s.findIdx? (fun i => i.1 == id) with | some k => ((k : Nat) : Int) | none => -1), (id, ())) := by
  show slices_IndexFuncapi_Inst_api_Inst_inst_at_1W stdW s id = _
  unfold slices_IndexFuncapi_Inst_api_Inst_inst_at_1W
  refine loop_n (N := s.length) (by omega) (fun i z => z = (id, ()) ∧ ∀ j, ∀ h : j < s.length, j < i → (s[j].1 == id) = false) _ ⟨rfl, fun j _ h => by omega⟩ ?_ ?_
  · rintro _ again ⟨rfl, hno⟩
    rw [cnd_end]
    have : s.findIdx? (fun i => i.1 == id) = none := by
      rw [List.findIdx?_eq_none_iff]
      intro x hx
      obtain ⟨j, hj, rfl⟩ := List.mem_iff_getElem.1 hx
      exact hno j hj hj
    rw [this]
  · rintro i hi _ ⟨rfl, hno⟩ again ha
    have e : inst_at_1 (s[i].1, (s[i].2.1, (s[i].2.2.1, (s[i].2.2.2.1, (s[i].2.2.2.2.1, ()))))) id = some ((s[i].1 == id), (id, ())) := rfl
    rw [cnd_lt hi, idx_w hi]
    show stdW.call (inst_at_1 (s[i].1, (s[i].2.1, (s[i].2.2.1, (s[i].2.2.2.1, (s[i].2.2.2.2.1, ()))))) id) _ = _
    rw [call_eq e]
    by_cases h : (s[i].1 == id) = true
    · rw [cnd_y h]
      have : s.findIdx? (fun i => i.1 == id) = some i := by
        rw [List.findIdx?_eq_some_iff_getElem]
        exact ⟨hi, h, fun j hj => by rw [hno j (by omega) hj]; simp⟩
      rw [this]
    · have h : (s[i].1 == id) = false := by simpa using h
      rw [cnd_n h]
      show again (IntKind.i64.wrap ((i : Int) + 1), (id, ())) = _
      rw [i64_s i (by omega)]
      exact ha _ ⟨rfl, fun j hj hji => by
        by_cases hji2 : j = i
        · subst hji2; exact h
        · exact hno j hj (by omega)⟩
theorem r_find {t : List AInst'} {id : Int} (hl : t.length ≤ 1000000) (hm : ∀ i ∈ t, i.2.2.2.2.1.length ≤ 1000000) : inst_Find t id = some (match findI t id with | some i => (i, (true, ())) | none => (zeroI, (false, ()))) := by
  show inst_FindW stdW t id = _
  unfold inst_FindW
  have e0 : inst_at t id = some (match t.findIdx? (fun i => i.1 == id) with | some k => ((k : Nat) : Int) | none => -1) := by
    show inst_atW stdW t id = _
    unfold inst_atW
    rw [call_eq (r_index hl)]
  rw [call_eq e0]
  unfold findI
  cases h : t.findIdx? (fun i => i.1 == id) with
  | none =>
    have : t.find? (fun i => i.1 == id) = none := by
      rw [List.findIdx?_eq_none_iff] at h
      rw [List.find?_eq_none]
      intro x hx; simp [h x hx]
    rw [this]
    show stdW.cnd (decide ((-1 : Int) < 0)) _ _ = _
    rw [cnd_y (by decide)]; rfl
  | some k =>
    have hk := List.findIdx?_eq_some_iff_getElem.1 h
    obtain ⟨hk1, hk2, hk3⟩ := hk
    have : t.find? (fun i => i.1 == id) = some t[k] := by
      rw [List.find?_eq_some_iff_getElem]
      exact ⟨hk2, k, hk1, rfl, fun j hj => by simpa using hk3 j hj⟩
    rw [this]
    show stdW.cnd (decide (((k : Nat) : Int) < 0)) _ (stdW.idx t ((k : Nat) : Int) _) = _
    rw [cnd_n (decide_eq_false (by omega)), idx_w hk1]
    have e1 : inst_own t[k] = some t[k] := by
      show inst_ownW stdW t[k] = _
      unfold inst_ownW
      rw [call_eq (r_clone (hm _ (List.getElem_mem hk1)))]
    show stdW.call (inst_own t[k]) _ = _
    rw [call_eq e1]
end Go.Proofs.Ytbpbkmngbhgpfaa

namespace Go.Proofs.Ytbpbkmngbhgpfaa
open Go Go.Vc Go.RowKit
/-- a loop of which something is said -/
theorem loop_P {X β : Type} {f : X → (X → Option β) → Option β} (Q : Option β → Prop) (μ : X → Nat) (R : X → Prop) {z : X} (hz : R z) (hm : μ z < 18446744073709551616)
    (h : ∀ z, R z → ∀ again : X → Option β, (∀ z', R z' → μ z' < μ z → Q (again z')) → Q (f z again)) : Q (stdW.loop f z) := by
  have key : ∀ n z, R z → μ z < n → Q (loopF n f z) := by
    intro n
    induction n with
    | zero => intro z _ h; omega
    | succ n ih => intro z hz hm; exact h z hz _ fun z' hz' hm' => ih z' hz' (by omega)
  exact key FU z hz (by rw [FU_eq]; exact hm)
/-- a loop whose state is known round by round, as long as something holds -/
theorem loop_ai {X β : Type} {N : Nat} (hN : N < 9223372036854775808) {f : X → (X → Option β) → Option β} (st : Nat → X) (Inv : Nat → Prop) (r : Option β) {z0 : X} (hz : z0 = st 0) (h0 : Inv 0)
    (hend : Inv N → ∀ again : X → Option β, f (st N) again = r) (hstep : ∀ i, i < N → Inv i → ∀ again : X → Option β, (Inv (i + 1) → again (st (i + 1)) = r) → f (st i) again = r) : stdW.loop f z0 = r := by
  subst hz
  have key : ∀ n i, i ≤ N → N - i < n → Inv i → loopF n f (st i) = r := by
    intro n
    induction n with
    | zero => intro i _ h; omega
    | succ n ih =>
      intro i hi hn hv
      show f (st i) (loopF n f) = r
      by_cases h : i < N
      · exact hstep i h hv _ fun hv' => ih (i + 1) (by omega) (by omega) hv'
      · have : i = N := by omega
        subst this; exact hend hv _
  show loopF FU f (st 0) = r
  exact key FU 0 (Nat.zero_le _) (by rw [FU_eq]; omega) h0
theorem join_gP {X β : Type} {Q : Option β → Prop} {k0 : X → Option β} {f : (X → Option β) → Option β} (h : ∀ k, k = k0 → Q (f k)) : Q (stdW.join k0 f) := h k0 rfl
/-! ### tables of instruments -/
def okI (i : AInst') : Prop := (1 ≤ i.2.1 ∧ i.2.1 ≤ 65536) ∧ (0 ≤ i.2.2.1 ∧ i.2.2.1 < 2147483648) ∧ (0 ≤ i.2.2.2.1 ∧ i.2.2.2.1 < 2147483648) ∧ i.2.2.2.2.1.length ≤ 8
def okT (t : List AInst') : Prop := (∀ i ∈ t, okI i) ∧ t.length ≤ 10
theorem r_price (p : Int) : ref13_price p = some (decide (0 ≤ p ∧ p < 2147483648)) := by
  show ref13_priceW stdW p = _
  unfold ref13_priceW
  by_cases h : 0 ≤ p
  · rw [cnd_y (decide_eq_true h)]; congr 1; exact decide_eq_decide.2 (by omega)
  · rw [cnd_n (decide_eq_false h), decide_eq_false (by omega)]
theorem r_is13 {i : AInst'} (hm : i.2.2.2.2.1.length ≤ 1000000) : ∃ b, ref13_Is i = some b ∧ (b = true → okI i) := by
  show ∃ b, ref13_IsW stdW i = some b ∧ _
  unfold ref13_IsW
  have key : ∀ k0 : Bool × Unit → Option Bool, k0 (true, ()) = some false → (∃ b, k0 (false, ()) = some b) →
      ∃ b, stdW.cnd (decide (i.1 < 1)) (k0 (true, ())) (stdW.cnd (decide (8 < i.1)) (k0 (true, ())) (stdW.cnd (decide (i.2.1 < 1)) (k0 (true, ())) (stdW.cnd (decide (65536 < i.2.1)) (k0 (true, ())) (stdW.call (ref13_price i.2.2.1) fun v9 => stdW.cnd (!v9) (k0 (true, ())) (stdW.call (ref13_price i.2.2.2.1) fun v10 => stdW.cnd (!v10) (k0 (true, ())) (k0 (decide (8 < (i.2.2.2.2.1.length : Int)), ()))))))) = some b ∧ (b = true → okI i) := by
    intro k0 kt ⟨b, kf⟩
    have out : ∃ b, k0 (true, ()) = some b ∧ (b = true → okI i) := ⟨false, kt, by simp⟩
    by_cases h1 : i.1 < 1
    · rw [cnd_y (decide_eq_true h1)]; exact out
    rw [cnd_n (decide_eq_false h1)]
    by_cases h2 : 8 < i.1
    · rw [cnd_y (decide_eq_true h2)]; exact out
    rw [cnd_n (decide_eq_false h2)]
    by_cases h3 : i.2.1 < 1
    · rw [cnd_y (decide_eq_true h3)]; exact out
    rw [cnd_n (decide_eq_false h3)]
    by_cases h4 : 65536 < i.2.1
    · rw [cnd_y (decide_eq_true h4)]; exact out
    rw [cnd_n (decide_eq_false h4), call_eq (r_price _)]
    by_cases h5 : 0 ≤ i.2.2.1 ∧ i.2.2.1 < 2147483648
    · rw [decide_eq_true h5, cnd_n (by decide), call_eq (r_price _)]
      by_cases h6 : 0 ≤ i.2.2.2.1 ∧ i.2.2.2.1 < 2147483648
      · rw [decide_eq_true h6, cnd_n (by decide)]
        by_cases h7 : i.2.2.2.2.1.length ≤ 8
        · rw [decide_eq_false (by omega)]
          exact ⟨b, kf, fun _ => ⟨by omega, h5, h6, h7⟩⟩
        · rw [decide_eq_true (by omega)]; exact out
      · rw [decide_eq_false h6, cnd_y (by decide)]; exact out
    · rw [decide_eq_false h5, cnd_y (by decide)]; exact out
  refine join_gP (Q := fun o => ∃ b, o = some b ∧ (b = true → okI i)) fun k hk => ?_
  have kt : k (true, ()) = some false := by subst hk; rfl
  refine key k kt ?_
  subst hk
  show ∃ b, stdW.cnd false (some false) (stdW.loop _ (0, ())) = some b
  rw [cnd_n rfl]
  refine loop_P (fun o => ∃ b, o = some b) (fun z => i.2.2.2.2.1.length + 1 - z.1.toNat) (fun z => ∃ j : Nat, j ≤ i.2.2.2.2.1.length ∧ z = ((j : Int), ())) ⟨0, Nat.zero_le _, rfl⟩ (by show _ - (0 : Int).toNat < _; omega) ?_
  rintro _ ⟨j, hj, rfl⟩ again ha
  show ∃ b, stdW.cnd (decide ((j : Int) < (i.2.2.2.2.1.length : Int))) _ _ = some b
  by_cases h : j < i.2.2.2.2.1.length
  · rw [cnd_lt h, join_w]
    show ∃ b, stdW.idx i.2.2.2.2.1 (j : Int) _ = some b
    rw [idx_w h]
    have nxt : ∃ b, again (IntKind.i64.wrap ((j : Int) + 1), ()) = some b := by
      rw [i64_s j (by omega)]
      exact ha _ ⟨j + 1, by omega, rfl⟩ (by show _ - ((j + 1 : Nat) : Int).toNat < _ - ((j : Nat) : Int).toNat; omega)
    by_cases h1 : i.2.2.2.2.1[j] < -2147483647
    · rw [cnd_y (decide_eq_true h1)]; exact ⟨false, rfl⟩
    · rw [cnd_n (decide_eq_false h1)]
      show ∃ b, stdW.idx i.2.2.2.2.1 (j : Int) _ = some b
      rw [idx_w h]
      show ∃ b, stdW.cnd (decide (2147483647 < i.2.2.2.2.1[j])) (some false) (again (IntKind.i64.wrap ((j : Int) + 1), ())) = some b
      by_cases h2 : 2147483647 < i.2.2.2.2.1[j]
      · rw [cnd_y (decide_eq_true h2)]; exact ⟨false, rfl⟩
      · rw [cnd_n (decide_eq_false h2)]; exact nxt
  · have : j = i.2.2.2.2.1.length := by omega
    subst this
    rw [cnd_end]; exact ⟨true, rfl⟩
theorem findI_cons (x : AInst') (t : List AInst') (id : Int) : findI (x :: t) id = if x.1 = id then some x else findI t id := by
  unfold findI
  rw [List.find?_cons]
  by_cases h : x.1 = id
  · simp [h]
  · rw [if_neg h, show (x.1 == id) = false by simpa using h]
theorem r_find13 {t : List AInst'} {id : Int} (hl : t.length ≤ 1000000) : ref13_Find t id = some (match findI t id with | some i => (i, (true, ())) | none => (zeroI, (false, ()))) := by
  show ref13_FindW stdW t id = _
  unfold ref13_FindW
  refine loop_list (l := t) (by omega) (fun _ _ => True) (fun t _ => some (match findI t id with | some i => (i, (true, ())) | none => (zeroI, (false, ())))) trivial ?_ ?_
  · rintro _ again _
    rw [cnd_end]; rfl
  · rintro i hi _ _ again ha
    rw [cnd_lt hi, idx_w hi, findI_cons]
    by_cases h : t[i].1 = id
    · rw [cnd_y (by simpa using h), if_pos h]
      show stdW.idx t (i : Int) _ = _
      rw [idx_w hi]
    · rw [cnd_n (by simpa using h), if_neg h]
      show again (IntKind.i64.wrap ((i : Int) + 1), ()) = _
      rw [i64_s i (by omega)]
      exact ha _ trivial
theorem r_put {l : List AInst'} {i : AInst'} (hl : l.length ≤ 1000) (hm : i.2.2.2.2.1.length ≤ 1000000) : ∃ r e, ref13_Put l i = some (r, (e, ())) ∧ (e = 0 → (∀ x ∈ r, x ∈ l ∨ (x = i ∧ okI i)) ∧ r.length ≤ l.length + 1) := by
  show ∃ r e, ref13_PutW stdW l i = some (r, (e, ())) ∧ _
  unfold ref13_PutW
  obtain ⟨b, hb, hok⟩ := r_is13 hm
  have e0 : ref13_Is (i.1, (i.2.1, (i.2.2.1, (i.2.2.2.1, (i.2.2.2.2.1, ()))))) = some b := hb
  rw [call_eq e0]
  cases b with
  | false => rw [cnd_y (by decide)]; exact ⟨[], 2, rfl, by simp⟩
  | true =>
    rw [cnd_n (by decide), call_eq (r_find13 (by omega))]
    cases hf : findI l i.1 with
    | some x =>
      show ∃ r e, stdW.cnd true _ _ = _ ∧ _
      rw [cnd_y rfl]; exact ⟨[], 12, rfl, by simp⟩
    | none =>
      show ∃ r e, stdW.cnd false _ _ = _ ∧ _
      rw [cnd_n rfl, join_w]
      refine loop_P (fun o => ∃ (r : List AInst') (e : Int), o = some (r, (e, ())) ∧ (e = 0 → (∀ x ∈ r, x ∈ l ∨ (x = i ∧ okI i)) ∧ r.length ≤ l.length + 1)) (fun z => l.length + 1 - z.1.toNat) (fun z => ∃ j : Nat, j ≤ l.length ∧ z = ((j : Int), ())) ⟨0, Nat.zero_le _, rfl⟩ (by show _ - (0 : Int).toNat < _; omega) ?_
      rintro _ ⟨j, hj, rfl⟩ again ha
      have fin : ∃ (r : List AInst') (e : Int), stdW.bnd (j : Int) l.length (fun h4 => stdW.room (l.take h4).length 56 (stdW.room ((l.take h4).length + ((i.1, (i.2.1, (i.2.2.1, (i.2.2.2.1, (i.2.2.2.2.1, ()))))) :: ([] : List AInst')).length) 56 (stdW.bnd (j : Int) l.length fun h5 => stdW.room (((l.take h4) ++ ((i.1, (i.2.1, (i.2.2.1, (i.2.2.2.1, (i.2.2.2.2.1, ()))))) :: ([] : List AInst'))).length + ((l.take l.length).drop h5).length) 56 (some (((l.take h4) ++ ((i.1, (i.2.1, (i.2.2.1, (i.2.2.2.1, (i.2.2.2.2.1, ()))))) :: ([] : List AInst')) ++ ((l.take l.length).drop h5)), (0, ())))))) = some (r, (e, ())) ∧ (e = 0 → (∀ x ∈ r, x ∈ l ∨ (x = i ∧ okI i)) ∧ r.length ≤ l.length + 1) := by
        rw [bnd_w (by omega) (by omega), Int.toNat_natCast]
        have l1 : (l.take j).length ≤ 1000 := by rw [List.length_take]; omega
        rw [room_w (by omega) (by omega), room_w (by simp only [List.length_cons, List.length_nil]; omega) (by simp only [List.length_cons, List.length_nil]; omega), bnd_w (by omega) (by omega), Int.toNat_natCast, List.take_length,
          room_w (by simp only [List.length_append, List.length_drop, List.length_cons, List.length_nil]; omega) (by simp only [List.length_append, List.length_drop, List.length_cons, List.length_nil]; omega)]
        refine ⟨_, _, rfl, fun _ => ⟨fun x hx => ?_, by simp only [List.length_append, List.length_drop, List.length_cons, List.length_nil, List.length_take]; omega⟩⟩
        rcases List.mem_append.1 hx with hx | hx
        · rcases List.mem_append.1 hx with hx | hx
          · exact .inl (List.mem_of_mem_take hx)
          · simp only [List.mem_singleton] at hx
            exact .inr ⟨hx, hok rfl⟩
        · exact .inl (List.mem_of_mem_drop hx)
      show ∃ r e, stdW.cnd (decide ((j : Int) < (l.length : Int))) _ _ = _ ∧ _
      by_cases h : j < l.length
      · rw [cnd_lt h]
        show ∃ r e, stdW.idx l (j : Int) _ = _ ∧ _
        rw [idx_w h]
        by_cases h1 : l[j].1 < i.1
        · rw [cnd_y (decide_eq_true h1)]
          show ∃ r e, again (IntKind.i64.wrap ((j : Int) + 1), ()) = _ ∧ _
          rw [i64_s j (by omega)]
          exact ha _ ⟨j + 1, by omega, rfl⟩ (by show _ - ((j + 1 : Nat) : Int).toNat < _ - ((j : Nat) : Int).toNat; omega)
        · rw [cnd_n (decide_eq_false h1)]; exact fin
      · have : j = l.length := by omega
        subst this
        rw [cnd_end]; exact fin
theorem r_table {l : List AInst'} (hm : ∀ i ∈ l, i.2.2.2.2.1.length ≤ 1000000) (hl : l.length ≤ 1000) : ∃ t, ref13_Table l = some t ∧ okT t := by
  show ∃ t, ref13_TableW stdW l = some t ∧ okT t
  unfold ref13_TableW
  rw [join_w]
  refine loop_P (fun o => ∃ t, o = some t ∧ okT t) (fun z => l.length + 1 - z.2.1.toNat) (fun z => ∃ (j : Nat) (acc : List AInst'), j ≤ l.length ∧ j ≤ 10 ∧ acc.length ≤ j ∧ (∀ x ∈ acc, okI x) ∧ z = (acc, ((j : Int), ()))) ⟨0, [], Nat.zero_le _, Nat.zero_le _, Nat.le_refl _, by simp, rfl⟩ (by show _ - (0 : Int).toNat < _; omega) ?_
  rintro _ ⟨j, acc, hj, hj10, hacc, hok, rfl⟩ again ha
  have fin : ∃ t, (some acc : Option (List AInst')) = some t ∧ okT t := ⟨acc, rfl, hok, by omega⟩
  show ∃ t, stdW.cnd (decide ((j : Int) < (l.length : Int))) (stdW.cnd (decide ((j : Int) < 10)) _ _) _ = some t ∧ okT t
  by_cases h : j < l.length
  · rw [cnd_lt h]
    by_cases h10 : j < 10
    · rw [cnd_y (decide_eq_true (by omega)), join_w]
      show ∃ t, stdW.idx l (j : Int) _ = some t ∧ okT t
      rw [idx_w h]
      obtain ⟨r, e, hp, hr⟩ := r_put (l := acc) (i := l[j]) (by omega) (hm _ (List.getElem_mem h))
      have nxt : ∀ a : List AInst', a.length ≤ j + 1 → (∀ x ∈ a, okI x) → ∃ t, again (a, (IntKind.i64.wrap ((j : Int) + 1), ())) = some t ∧ okT t := by
        intro a h1 h2
        rw [i64_s j (by omega)]
        exact ha _ ⟨j + 1, a, by omega, by omega, h1, h2, rfl⟩ (by show _ - ((j + 1 : Nat) : Int).toNat < _ - ((j : Nat) : Int).toNat; omega)
      show ∃ t, stdW.call (ref13_Put acc l[j]) _ = some t ∧ okT t
      rw [call_eq hp]
      by_cases he : e = 0
      · obtain ⟨h1, h2⟩ := hr he
        rw [cnd_y (by simpa using he)]
        exact nxt r (by omega) fun x hx => (h1 x hx).elim (hok x) fun h3 => h3.1 ▸ h3.2
      · rw [cnd_n (by simpa using he)]
        exact nxt acc (by omega) hok
    · rw [cnd_n (decide_eq_false (by omega))]; exact fin
  · have : j = l.length := by omega
    subst this
    rw [cnd_end]; exact fin
theorem r_insts {l : List AInst'} (hl : l.length ≤ 9223372036854775807) (hm : ∀ i ∈ l, i.2.2.2.2.1.length ≤ 9223372036854775807) : ∃ t, law20_Insts l = some t ∧ okT t := by
  show ∃ t, law20_InstsW stdW l = some t ∧ okT t
  unfold law20_InstsW
  rw [join_w]
  refine loop_P (fun o => ∃ t, o = some t ∧ okT t) (fun z => l.length + 1 - z.1.toNat) (fun z => ∃ (j : Nat) (acc : List AInst'), j ≤ l.length ∧ j ≤ 10 ∧ acc.length ≤ j ∧ (∀ x ∈ acc, x.2.2.2.2.1.length ≤ 9) ∧ z = ((j : Int), (acc, ()))) ⟨0, [], Nat.zero_le _, Nat.zero_le _, Nat.le_refl _, by simp, rfl⟩ (by show _ - (0 : Int).toNat < _; omega) ?_
  rintro _ ⟨j, acc, hj, hj10, hacc, hok, rfl⟩ again ha
  have fin : ∃ t, stdW.call (ref13_Table acc) (fun v2 => some v2) = some t ∧ okT t := by
    obtain ⟨t, h1, h2⟩ := r_table (l := acc) (fun x hx => by have := hok x hx; omega) (by omega)
    rw [call_eq h1]; exact ⟨t, rfl, h2⟩
  show ∃ t, stdW.cnd (decide ((j : Int) < (l.length : Int))) (stdW.cnd (decide ((j : Int) < 10)) _ _) _ = some t ∧ okT t
  by_cases h : j < l.length
  · rw [cnd_lt h]
    by_cases h10 : j < 10
    · rw [cnd_y (decide_eq_true (by omega))]
      show ∃ t, stdW.idx l (j : Int) _ = some t ∧ okT t
      rw [idx_w h, join_w]
      have nxt : ∀ x : AInst', x.2.2.2.2.1.length ≤ 9 → ∃ t, stdW.room (acc.length + 1) 56 (again (IntKind.i64.wrap ((j : Int) + 1), (acc ++ [x], ()))) = some t ∧ okT t := by
        intro x hx
        rw [room_w (by omega) (by omega), i64_s j (by omega)]
        refine ha _ ⟨j + 1, acc ++ [x], by omega, by omega, by simp; omega, fun y hy => ?_, rfl⟩ (by show _ - ((j + 1 : Nat) : Int).toNat < _ - ((j : Nat) : Int).toNat; omega)
        rcases List.mem_append.1 hy with hy | hy
        · exact hok y hy
        · simp only [List.mem_singleton] at hy; exact hy ▸ hx
      have hmj := hm _ (List.getElem_mem h)
      by_cases h9 : 9 < l[j].2.2.2.2.1.length
      · rw [cnd_y (decide_eq_true (by omega)), bnd_w (by omega) (by omega)]
        exact nxt (l[j].1, (l[j].2.1, (l[j].2.2.1, (l[j].2.2.2.1, (l[j].2.2.2.2.1.take 9, ()))))) (by show (l[j].2.2.2.2.1.take 9).length ≤ 9; rw [List.length_take]; omega)
      · rw [cnd_n (decide_eq_false (by omega))]
        exact nxt l[j] (by omega)
    · rw [cnd_n (decide_eq_false (by omega))]; exact fin
  · have : j = l.length := by omega
    subst this
    rw [cnd_end]; exact fin
end Go.Proofs.Ytbpbkmngbhgpfaa

namespace Go.Proofs.Ytbpbkmngbhgpfaa
open Go Go.Vc Go.RowKit
/-! ### vectors, books -/
abbrev Leg := AUnit'
def VInv (l : List Leg) : Prop := (∀ x ∈ l, (1 ≤ x.1 ∧ x.1 ≤ 8) ∧ x.2.1 ≠ 0) ∧ (l.map (·.1)).Pairwise (· < ·)
instance (l : List Leg) : Decidable (VInv l) := by unfold VInv; infer_instance
def isV (l : List Leg) : Bool := decide (VInv l)
theorem isV_bad {l : List Leg} {i : Nat} (hi : i < l.length) (h : ¬ ((1 ≤ l[i].1 ∧ l[i].1 ≤ 8) ∧ l[i].2.1 ≠ 0)) : isV l = false :=
  decide_eq_false fun hp => h (hp.1 _ (List.getElem_mem hi))
theorem isV_bad1 {l : List Leg} {i : Nat} (hi : i < l.length) (h0 : 0 < i) (h : ¬ (l[i - 1]'(by omega)).1 < l[i].1) : isV l = false :=
  decide_eq_false fun hp => h (by
    have := List.pairwise_iff_getElem.1 hp.2 (i - 1) i (by simp; omega) (by simpa using hi) (by omega)
    simpa using this)
theorem isV_next {l : List Leg} {i : Nat} (hi : i < l.length) (inv : VInv (l.take i)) (h1 : (1 ≤ l[i].1 ∧ l[i].1 ≤ 8) ∧ l[i].2.1 ≠ 0) (h2 : ∀ h0 : 0 < i, (l[i - 1]'(by omega)).1 < l[i].1) : VInv (l.take (i + 1)) := by
  rw [List.take_succ_eq_append_getElem hi]
  refine ⟨fun x hx => ?_, ?_⟩
  · rcases List.mem_append.1 hx with hx | hx
    · exact inv.1 x hx
    · simp only [List.mem_singleton] at hx; rw [hx]; exact h1
  · show ((l.take i ++ [l[i]]).map (·.1)).Pairwise (· < ·)
    rw [List.map_append]
    refine List.pairwise_append.2 ⟨inv.2, by simp, fun a ha b hb => ?_⟩
    simp only [List.map_cons, List.map_nil, List.mem_singleton] at hb
    subst hb
    obtain ⟨k, hk, hka⟩ := List.mem_iff_getElem.1 ha
    have hk' : k < i := by simp at hk; omega
    have h3 := h2 (by omega)
    by_cases hki : k = i - 1
    · subst hki; rw [← hka]; simpa using h3
    · have h4 := List.pairwise_iff_getElem.1 inv.2 k (i - 1) (by simpa using hk) (by simp; omega) (by omega)
      rw [hka] at h4
      refine Int.lt_trans h4 ?_
      simpa using h3
theorem isV_end {l : List Leg} (h : VInv (l.take l.length)) : isV l = true := by rw [List.take_length] at h; exact decide_eq_true h
def lastV (l : List Leg) (i : Nat) : Int := if h : 0 < i ∧ i ≤ l.length then (l[i - 1]'(by omega)).1 else 0
theorem lastV_s {l : List Leg} {i : Nat} (h : i < l.length) : lastV l (i + 1) = l[i].1 := by
  unfold lastV; rw [dif_pos ⟨by omega, by omega⟩]; rfl
theorem r_isV {l : List Leg} (hl : l.length ≤ 1000000) : vec_Is l = some (isV l) := by
  show vec_IsW stdW l = _
  unfold vec_IsW
  refine loop_ai (N := l.length) (by omega) (fun i => (lastV l i, ((i : Int), ()))) (fun i => VInv (l.take i)) (some (isV l)) (by unfold lastV; simp) (by simp [VInv]) ?_ ?_
  · intro h again
    show stdW.cnd (decide ((l.length : Int) < (l.length : Int))) _ _ = _
    rw [cnd_end, isV_end h]
  · intro i hi inv again ha
    show stdW.cnd (decide ((i : Int) < (l.length : Int))) (stdW.idx l (i : Int) _) _ = _
    rw [cnd_lt hi, idx_w hi]
    refine join_g fun k hk => ?_
    have kt : k (true, ()) = some false := by subst hk; rfl
    have kf : k (false, ()) = again (lastV l (i + 1), (((i + 1 : Nat) : Int), ())) := by rw [← i64_s i (by omega), lastV_s hi]; subst hk; rfl
    clear hk
    show stdW.cnd (decide (l[i].1 ≤ lastV l i)) _ _ = _
    by_cases h1 : l[i].1 ≤ lastV l i
    · rw [cnd_y (decide_eq_true h1), kt]
      unfold lastV at h1
      by_cases h0 : 0 < i
      · rw [dif_pos ⟨h0, by omega⟩] at h1
        rw [isV_bad1 hi h0 (by omega)]
      · rw [dif_neg (by omega)] at h1
        rw [isV_bad hi (by omega)]
    · rw [cnd_n (decide_eq_false h1)]
      by_cases h2 : 8 < l[i].1
      · rw [cnd_y (decide_eq_true h2), kt, isV_bad hi (by omega)]
      · rw [cnd_n (decide_eq_false h2)]
        by_cases h3 : l[i].2.1 = 0
        · rw [show (l[i].2.1 == 0) = true by simpa using h3, kt, isV_bad hi (by simp [h3])]
        · rw [show (l[i].2.1 == 0) = false by simpa using h3, kf]
          have hpos : 1 ≤ l[i].1 := by
            unfold lastV at h1
            by_cases h0 : 0 < i
            · rw [dif_pos ⟨h0, by omega⟩] at h1
              have := (inv.1 (l[i - 1]'(by omega)) (List.mem_iff_getElem.2 ⟨i - 1, by simp; omega, by simp⟩)).1.1
              omega
            · rw [dif_neg (by omega)] at h1; omega
          refine ha (isV_next hi inv ⟨⟨hpos, by omega⟩, h3⟩ fun h0 => ?_)
          unfold lastV at h1
          rw [dif_pos ⟨h0, by omega⟩] at h1; omega
theorem r_isV11 {l : List Leg} (hl : l.length ≤ 1000000) : ref11_Is l = some (isV l) := by
  show ref11_IsW stdW l = _
  unfold ref11_IsW
  refine loop_n (N := l.length) (by omega) (fun i _ => VInv (l.take i)) (some (isV l)) (by simp [VInv]) ?_ ?_
  · rintro _ again h
    rw [cnd_end, isV_end h]
  · rintro i hi _ inv again ha
    rw [cnd_lt hi]
    refine join_g fun k hk => ?_
    have kt : k (true, ()) = some false := by subst hk; rfl
    have kf : k (false, ()) = again (((i + 1 : Nat) : Int), ()) := by rw [← i64_s i (by omega)]; subst hk; rfl
    clear hk
    rw [idx_w hi]
    by_cases h1 : l[i].1 < 1
    · rw [cnd_y (decide_eq_true h1), kt, isV_bad hi (by omega)]
    rw [cnd_n (decide_eq_false h1), idx_w hi]
    by_cases h2 : 8 < l[i].1
    · rw [cnd_y (decide_eq_true h2), kt, isV_bad hi (by omega)]
    rw [cnd_n (decide_eq_false h2), idx_w hi]
    by_cases h3 : l[i].2.1 = 0
    · rw [cnd_y (by simpa using h3), kt, isV_bad hi (by simp [h3])]
    rw [cnd_n (by simpa using h3)]
    by_cases h0 : 0 < i
    · rw [cnd_y (decide_eq_true (by omega)), i64_pred i h0 (by rw [maxLen_eq]; omega), idx_w (by omega), idx_w hi]
      by_cases h4 : l[i].1 ≤ (l[i - 1]'(by omega)).1
      · rw [decide_eq_true h4, kt, isV_bad1 hi h0 (by omega)]
      · rw [decide_eq_false h4, kf]
        exact ha _ (isV_next hi inv ⟨by omega, h3⟩ fun _ => by omega)
    · rw [cnd_n (decide_eq_false (by omega)), kf]
      exact ha _ (isV_next hi inv ⟨by omega, h3⟩ fun h => absurd h h0)
/-! what moves make -/
def legZ (i : AInst') (q : Int) : Int := (i.2.2.2.1 - i.2.2.1) * i.2.1 * q
theorem mul_abs {a b A B : Int} (ha : -A ≤ a ∧ a ≤ A) (hb : -B ≤ b ∧ b ≤ B) : -(A * B) ≤ a * b ∧ a * b ≤ A * B := by
  have h1 : a.natAbs ≤ A.toNat := by omega
  have h2 : b.natAbs ≤ B.toNat := by omega
  have h3 : (a * b).natAbs ≤ A.toNat * B.toNat := by rw [Int.natAbs_mul]; exact Nat.mul_le_mul h1 h2
  have h4 : ((A.toNat * B.toNat : Nat) : Int) = A * B := by
    rw [Int.natCast_mul, Int.toNat_of_nonneg (by omega), Int.toNat_of_nonneg (by omega)]
  omega
theorem unit_bd {i : AInst'} (h : okI i) : -140737488355328 ≤ (i.2.2.2.1 - i.2.2.1) * i.2.1 ∧ (i.2.2.2.1 - i.2.2.1) * i.2.1 ≤ 140737488355328 := by
  obtain ⟨h1, h2, h3, _⟩ := h
  exact mul_abs (A := 2147483648) (B := 65536) (by omega) (by omega)
theorem legZ_bd {i : AInst'} (h : okI i) {q : Int} (hq : I64 q) : -1298074214633706907132624082305024 ≤ legZ i q ∧ legZ i q ≤ 1298074214633706907132624082305024 := by
  unfold I64 at hq
  exact mul_abs (A := 140737488355328) (B := 9223372036854775808) (unit_bd h) (by omega)
theorem findI_mem {t : List AInst'} {id : Int} {i : AInst'} (h : findI t id = some i) : i ∈ t := List.mem_of_find?_eq_some h
theorem okT.len {t : List AInst'} (h : okT t) : t.length ≤ 1000000 := by have := h.2; omega
theorem r_one {t : List AInst'} (ht : okT t) {x : Leg} (hq : I64 x.2.1) : mark_one t x = some (match findI t x.1 with | some i => (wide (legZ i x.2.1), (0, ())) | none => ((0, (0, ())), (11, ()))) := by
  show mark_oneW stdW t x = _
  unfold mark_oneW
  rw [call_eq (r_find ht.len fun i hi => by have := (ht.1 i hi).2.2.2; omega)]
  cases h : findI t x.1 with
  | none => exact cnd_y (by decide) _ _
  | some i =>
    have hi := ht.1 i (findI_mem h)
    have hb := unit_bd hi
    show stdW.cnd (!true) _ (stdW.call (wide_Mul (IntKind.i64.wrap (i.2.2.2.1 - i.2.2.1)) i.2.1) _) = _
    obtain ⟨h1, h2, h3, _⟩ := hi
    rw [cnd_n (by decide), IntWalk.i64_in _ (by omega), call_eq (r_wMul (by unfold I64; omega) (by unfold I64; omega)), call_eq (r_wTimes (by unfold I64; omega) hq)]
    rfl
def legsZ (t : List AInst') : List Leg → Option Int
  | [] => some 0
  | x :: l => match findI t x.1 with
    | none => none
    | some i => match legsZ t l with
      | none => none
      | some z => some (legZ i x.2.1 + z)
def gainP (t : List AInst') (l : List Leg) : Int × Int × Unit :=
  if isV l = true then (match legsZ t l with | none => (0, (11, ())) | some z => fits64 z) else (0, (3, ()))
def okL (l : List Leg) : Prop := ∀ x ∈ l, I64 x.2.1
theorem r_gain {t : List AInst'} (ht : okT t) {l : List Leg} (hq : okL l) (hl : l.length ≤ 1000) : mark_Gain t l = some (gainP t l) := by
  show mark_GainW stdW t l = _
  unfold mark_GainW gainP
  rw [call_eq (r_isV (by omega))]
  by_cases hv : isV l = true
  · rw [hv, cnd_n (by decide), if_pos rfl]
    have e0 : (match legsZ t l with | none => (0, (11, ())) | some z => fits64 z) = (match legsZ t l with | none => (0, (11, ())) | some z => fits64 (0 + z)) := by
      cases legsZ t l <;> simp
    rw [e0]
    refine loop_list (l := l) (by omega) (fun i (s : List WideWide' × Unit) => s.1.length = i ∧ (∀ w ∈ s.1, wOk w) ∧ -(1298074214633706907132624082305024 * (i : Int)) ≤ sumW s.1 ∧ sumW s.1 ≤ 1298074214633706907132624082305024 * (i : Int))
      (s0 := (([] : List WideWide'), ())) (fun l' (s : List WideWide' × Unit) => some (match legsZ t l' with | none => (0, (11, ())) | some z => fits64 (sumW s.1 + z))) ⟨rfl, by simp, by simp [sumW], by simp [sumW]⟩ ?_ ?_
    · rintro ⟨ws, ⟨⟩⟩ again ⟨h1, h2, h3, h4⟩
      simp only at h1 h2 h3 h4
      have hin : In128 (sumW ws) := by unfold In128; omega
      have ea : wide_Add ws = some (wide (sumW ws), (0, ())) := by rw [r_wAdd ws h2 (by omega)]; unfold fit; rw [if_pos hin]
      rw [cnd_end]
      show stdW.call (wide_Add ws) _ = some (fits64 (sumW ws + 0))
      rw [call_eq ea, Int.add_zero]
      show stdW.cnd ((0 : Int) != 0) _ (stdW.call (wide_Int (wide (sumW ws))) _) = _
      rw [cnd_n (by decide), call_eq (r_wInt hin)]
    · rintro i hi ⟨ws, ⟨⟩⟩ ⟨h1, h2, h3, h4⟩ again ha
      simp only at h1 h2 h3 h4
      have hqi := hq _ (List.getElem_mem hi)
      rw [cnd_lt hi, idx_w hi, call_eq (r_one ht hqi)]
      show _ = some (match legsZ t (l[i] :: l.drop (i + 1)) with | none => (0, (11, ())) | some z => fits64 (sumW ws + z))
      rw [legsZ]
      cases hf : findI t l[i].1 with
      | none =>
        show stdW.cnd ((11 : Int) != 0) _ _ = _
        rw [cnd_y (by decide)]
      | some x =>
        have hb := legZ_bd (ht.1 x (findI_mem hf)) hqi
        have hI : In128 (legZ x l[i].2.1) := by unfold In128; omega
        show stdW.cnd ((0 : Int) != 0) _ (stdW.room (ws.length + 1) 16 (again (IntKind.i64.wrap ((i : Int) + 1), (ws ++ [wide (legZ x l[i].2.1)], ())))) = _
        have hs : sumW (ws ++ [wide (legZ x l[i].2.1)]) = sumW ws + legZ x l[i].2.1 := by rw [sumW_app, sumW_one, wv_wide]
        rw [cnd_n (by decide), room_w (by omega) (by omega), i64_s i (by omega), ha (ws ++ [wide (legZ x l[i].2.1)], ()) ⟨by simp [h1], fun w hw => ?_, by simp only [hs]; omega, by simp only [hs]; omega⟩]
        · show some (match legsZ t (l.drop (i + 1)) with | none => (0, (11, ())) | some z => fits64 (sumW (ws ++ [wide (legZ x l[i].2.1)]) + z)) = _
          rw [hs]
          cases legsZ t (l.drop (i + 1)) with
          | none => rfl
          | some z => show some (fits64 _) = some (fits64 _); rw [Int.add_assoc]
        · rcases List.mem_append.1 hw with hw | hw
          · exact h2 w hw
          · simp only [List.mem_singleton] at hw; exact hw ▸ wide_ok _ hI
  · have hv : isV l = false := by simpa using hv
    rw [hv, cnd_y (by decide), if_neg (by simp)]
end Go.Proofs.Ytbpbkmngbhgpfaa

namespace Go.Proofs.Ytbpbkmngbhgpfaa
open Go Go.Vc Go.RowKit
/-! ### books -/
def BInv (l : List APos') : Prop := (∀ p ∈ l, p.2.1 ≠ [] ∧ VInv p.2.1) ∧ SrtA (l.map (·.1))
instance (l : List APos') : Decidable (BInv l) := by unfold BInv SrtA; infer_instance
def isB (l : List APos') : Bool := decide (BInv l)
theorem isB_bad0 {l : List APos'} {i : Nat} (hi : i < l.length) (h : ¬ (l[i].2.1 ≠ [] ∧ VInv l[i].2.1)) : isB l = false :=
  decide_eq_false fun hp => h (hp.1 _ (List.getElem_mem hi))
theorem isB_bad1 {l : List APos'} {i : Nat} (hi : i < l.length) (h0 : 0 < i) (h : ¬ ltA (l[i - 1]'(by omega)).1 l[i].1) : isB l = false :=
  decide_eq_false fun hp => h (by
    have := List.pairwise_iff_getElem.1 hp.2 (i - 1) i (by simp; omega) (by simpa using hi) (by omega)
    simpa using this)
theorem isB_next {l : List APos'} {i : Nat} (hi : i < l.length) (inv : BInv (l.take i)) (h1 : l[i].2.1 ≠ [] ∧ VInv l[i].2.1) (h2 : ∀ h0 : 0 < i, ltA (l[i - 1]'(by omega)).1 l[i].1) : BInv (l.take (i + 1)) := by
  rw [List.take_succ_eq_append_getElem hi]
  refine ⟨fun x hx => ?_, ?_⟩
  · rcases List.mem_append.1 hx with hx | hx
    · exact inv.1 x hx
    · simp only [List.mem_singleton] at hx; rw [hx]; exact h1
  · show SrtA ((l.take i ++ [l[i]]).map (·.1))
    rw [List.map_append]
    refine List.pairwise_append.2 ⟨inv.2, by simp, fun a ha b hb => ?_⟩
    simp only [List.map_cons, List.map_nil, List.mem_singleton] at hb
    subst hb
    obtain ⟨k, hk, hka⟩ := List.mem_iff_getElem.1 ha
    have hk' : k < i := by simp at hk; omega
    have h3 := h2 (by omega)
    by_cases hki : k = i - 1
    · subst hki; rw [← hka]; simpa using h3
    · have h4 := List.pairwise_iff_getElem.1 inv.2 k (i - 1) (by simpa using hk) (by simp; omega) (by omega)
      rw [hka] at h4
      refine ltA_tr h4 ?_
      simpa using h3
theorem isB_end {l : List APos'} (h : BInv (l.take l.length)) : isB l = true := by rw [List.take_length] at h; exact decide_eq_true h
def okB (l : List APos') : Prop := (∀ p ∈ l, okL p.2.1 ∧ p.2.1.length ≤ 12) ∧ l.length ≤ 12
theorem r_isB {l : List APos'} (hb : okB l) : book_Is l = some (isB l) := by
  have hl := hb.2
  show book_IsW stdW l = _
  unfold book_IsW
  refine loop_n (N := l.length) (by omega) (fun i _ => BInv (l.take i)) (some (isB l)) (by simp [BInv]) ?_ ?_
  · rintro _ again h
    rw [cnd_end, isB_end h]
  · rintro i hi _ inv again ha
    rw [cnd_lt hi, idx_w hi]
    refine join_g fun k hk => ?_
    have kt : k (true, ()) = some false := by subst hk; rfl
    have kf : k (false, ()) = again (((i + 1 : Nat) : Int), ()) := by rw [← i64_s i (by omega)]; subst hk; rfl
    clear hk
    have hli := (hb.1 _ (List.getElem_mem hi)).2
    by_cases h1 : l[i].2.1 = []
    · rw [cnd_y (by simp [h1]), both_w, kt, isB_bad0 hi (by simp [h1])]
    rw [cnd_n (by simpa using h1), call_eq (r_isV (by omega))]
    by_cases hv : VInv l[i].2.1
    · rw [show isV l[i].2.1 = true from decide_eq_true hv, cnd_n (by decide)]
      by_cases h0 : 0 < i
      · rw [cnd_y (decide_eq_true (by omega)), i64_pred i h0 (by rw [maxLen_eq]; omega), idx_w (by omega), call_eq (r_lessA _ _), both_w]
        by_cases h2 : ltA (l[i - 1]'(by omega)).1 l[i].1
        · rw [decide_eq_true h2]
          exact kf.trans (ha _ (isB_next hi inv ⟨h1, hv⟩ fun _ => h2))
        · rw [decide_eq_false h2, isB_bad1 hi h0 h2]; exact kt
      · rw [cnd_n (decide_eq_false (by omega)), both_w]
        exact kf.trans (ha _ (isB_next hi inv ⟨h1, hv⟩ fun h => absurd h h0))
    · rw [show isV l[i].2.1 = false from decide_eq_false hv, cnd_y (by decide), both_w, kt, isB_bad0 hi fun h => hv h.2]
theorem r_isB19 {l : List APos'} (hb : okB l) : ref19_Is l = some (isB l) := by
  have hl := hb.2
  show ref19_IsW stdW l = _
  unfold ref19_IsW
  refine loop_n (N := l.length) (by omega) (fun i _ => BInv (l.take i)) (some (isB l)) (by simp [BInv]) ?_ ?_
  · rintro _ again h
    rw [cnd_end, isB_end h]
  · rintro i hi _ inv again ha
    rw [cnd_lt hi]
    refine join_g fun k hk => ?_
    have kt : k (true, ()) = some false := by subst hk; rfl
    have kf : k (false, ()) = again (((i + 1 : Nat) : Int), ()) := by rw [← i64_s i (by omega)]; subst hk; rfl
    clear hk
    have hli := (hb.1 _ (List.getElem_mem hi)).2
    rw [idx_w hi]
    by_cases h1 : l[i].2.1 = []
    · rw [cnd_y (by simp [h1]), both_w, kt, isB_bad0 hi (by simp [h1])]
    rw [cnd_n (by simpa using h1), idx_w hi, call_eq (r_isV11 (by omega))]
    by_cases hv : VInv l[i].2.1
    · rw [show isV l[i].2.1 = true from decide_eq_true hv, cnd_n (by decide)]
      by_cases h0 : 0 < i
      · rw [cnd_y (decide_eq_true (by omega)), i64_pred i h0 (by rw [maxLen_eq]; omega), idx_w (by omega), idx_w hi, call_eq (r_less15 _ _), both_w]
        by_cases h2 : ltA (l[i - 1]'(by omega)).1 l[i].1
        · rw [decide_eq_true h2]
          exact kf.trans (ha _ (isB_next hi inv ⟨h1, hv⟩ fun _ => h2))
        · rw [decide_eq_false h2, isB_bad1 hi h0 h2]; exact kt
      · rw [cnd_n (decide_eq_false (by omega)), both_w]
        exact kf.trans (ha _ (isB_next hi inv ⟨h1, hv⟩ fun h => absurd h h0))
    · rw [show isV l[i].2.1 = false from decide_eq_false hv, cnd_y (by decide), both_w, kt, isB_bad0 hi fun h => hv h.2]
theorem r_few11 (l : List Leg) (hl : l.length ≤ 9223372036854775807) : law11_Few l = some (l.take 12) := by
  show law11_FewW stdW l = _
  unfold law11_FewW
  by_cases h : 12 < l.length
  · rw [cnd_y (decide_eq_true (by omega)), bnd_w (by omega) (by omega)]; rfl
  · rw [cnd_n (decide_eq_false (by omega)), List.take_of_length_le (by omega)]
def fewPos (p : APos') : APos' := (p.1, (p.2.1.take 12, ()))
def few19 (l : List APos') : List APos' := (l.take 12).map fewPos
theorem few19_ok {l : List APos'} (h : ∀ p ∈ l, okL p.2.1) : okB (few19 l) := by
  unfold few19
  refine ⟨fun p hp => ?_, by rw [List.length_map, List.length_take]; omega⟩
  obtain ⟨x, hx, rfl⟩ := List.mem_map.1 hp
  have hx := h x (List.mem_of_mem_take hx)
  exact ⟨fun y hy => hx y (List.mem_of_mem_take hy), by show (x.2.1.take 12).length ≤ 12; rw [List.length_take]; omega⟩
theorem r_few19 (l : List APos') (hl : l.length ≤ 9223372036854775807) (hm : ∀ p ∈ l, p.2.1.length ≤ 9223372036854775807) : law19_Few l = some (few19 l) := by
  show law19_FewW stdW l = _
  unfold law19_FewW
  rw [join_w]
  refine loop_az (N := min l.length 12) (by omega) (fun i => ((i : Int), ((l.take i).map fewPos, ()))) _ rfl ?_ ?_
  · intro again
    have e : (l.take (min l.length 12)).map fewPos = few19 l := by
      unfold few19; rw [Nat.min_comm, ← List.take_take, List.take_length]
    have g : (some ((l.take (min l.length 12)).map fewPos) : Option (List APos')) = some (few19 l) := by rw [e]
    show stdW.cnd (decide (((min l.length 12 : Nat) : Int) < (l.length : Int))) (stdW.cnd (decide (((min l.length 12 : Nat) : Int) < 12)) _ (some ((l.take (min l.length 12)).map fewPos))) (some ((l.take (min l.length 12)).map fewPos)) = _
    by_cases h : (min l.length 12 : Nat) < l.length
    · rw [cnd_lt h, cnd_n (decide_eq_false (by omega))]; exact g
    · rw [cnd_n (decide_eq_false (by omega))]; exact g
  · intro i hi again ha
    have hi1 : i < l.length := by omega
    show stdW.cnd (decide ((i : Int) < (l.length : Int))) (stdW.cnd (decide ((i : Int) < 12)) (stdW.idx l (i : Int) _) _) _ = _
    rw [cnd_lt hi1, cnd_y (decide_eq_true (by omega)), idx_w hi1, idx_w hi1, call_eq (r_few11 _ (hm _ (List.getElem_mem hi1)))]
    show stdW.room (((l.take i).map fewPos).length + 1) 40 (again (IntKind.i64.wrap ((i : Int) + 1), ((l.take i).map fewPos ++ [fewPos l[i]], ()))) = _
    have : ((l.take i).map fewPos).length ≤ 12 := by rw [List.length_map, List.length_take]; omega
    rw [room_w (by omega) (by omega), i64_s i (by omega)]
    rw [List.take_succ_eq_append_getElem hi1, List.map_append] at ha
    exact ha
/-! ### flows -/
def flowsGo (t : List AInst') : List APos' → List AFlow' → List AFlow' × Int × Unit
  | [], acc => (acc, 0, ())
  | p :: l, acc => if (gainP t p.2.1).2.1 = 0 then (if (gainP t p.2.1).1 = 0 then flowsGo t l acc else flowsGo t l (acc ++ [(p.1, (gainP t p.2.1).1, ())])) else ([], (gainP t p.2.1).2)
def flowsP (t : List AInst') (l : List APos') : List AFlow' × Int × Unit := if isB l = true then flowsGo t l [] else ([], 3, ())
theorem r_flows {t : List AInst'} {l : List APos'} (ht : okT t) (hb : okB l) : mark_Flows t l = some (flowsP t l) := by
  have hl := hb.2
  show mark_FlowsW stdW t l = _
  unfold mark_FlowsW flowsP
  rw [call_eq (r_isB hb)]
  by_cases hp : isB l = true
  · rw [hp, cnd_n (by decide), if_pos rfl]
    refine loop_list (l := l) (by omega) (s0 := (([] : List AFlow'), ())) (fun i (s : List AFlow' × Unit) => s.1.length ≤ i) (fun l' (s : List AFlow' × Unit) => some (flowsGo t l' s.1)) (Nat.le_refl _) ?_ ?_
    · rintro ⟨acc, ⟨⟩⟩ again _
      rw [cnd_end]; rfl
    · rintro i hi ⟨acc, ⟨⟩⟩ hacc again ha
      simp only at hacc
      rw [cnd_lt hi]
      refine join_g fun k hk => ?_
      have kk : ∀ v : List AFlow', v.length ≤ i + 1 → k (v, ()) = some (flowsGo t (l.drop (i + 1)) v) := by
        intro v hv
        subst hk
        show again (IntKind.i64.wrap ((i : Int) + 1), (v, ())) = _
        rw [i64_s i (by omega)]
        exact ha (v, ()) hv
      clear hk ha
      obtain ⟨h1, h2⟩ := hb.1 _ (List.getElem_mem hi)
      rw [idx_w hi, call_eq (r_gain ht h1 (by omega))]
      show _ = some (flowsGo t (l[i] :: l.drop (i + 1)) acc)
      rw [flowsGo]
      by_cases he : (gainP t l[i].2.1).2.1 = 0
      · rw [cnd_n (by simp [he]), if_pos he]
        by_cases h0 : (gainP t l[i].2.1).1 = 0
        · rw [cnd_n (by simp [h0]), if_pos h0]; exact kk acc (by omega)
        · rw [cnd_y (by simp [h0]), if_neg h0]
          show stdW.room (acc.length + 1) 24 (k (acc ++ [(l[i].1, (gainP t l[i].2.1).1, ())], ())) = _
          rw [room_w (by omega) (by omega)]
          exact kk _ (by simp; omega)
      · rw [cnd_y (by simp [he]), if_neg he]
  · have hp : isB l = false := by simpa using hp
    rw [hp, cnd_y (by decide), if_neg (by simp)]
theorem fits64_ok {z : Int} (h : (fits64 z).2.1 = 0) : (fits64 z).1 = z ∧ I64 z := by
  unfold fits64 at h ⊢
  by_cases hI : I64 z
  · rw [if_pos hI]; exact ⟨rfl, hI⟩
  · rw [if_neg hI] at h; simp at h
theorem gain_ok {t : List AInst'} {l : List Leg} (h : (gainP t l).2.1 = 0) : ∃ z, isV l = true ∧ legsZ t l = some z ∧ (gainP t l).1 = z ∧ I64 z := by
  unfold gainP at h ⊢
  by_cases hv : isV l = true
  · rw [if_pos hv] at h ⊢
    cases hz : legsZ t l with
    | none => rw [hz] at h; simp at h
    | some z =>
      rw [hz] at h
      obtain ⟨h1, h2⟩ := fits64_ok h
      exact ⟨z, hv, rfl, h1, h2⟩
  · rw [if_neg hv] at h; simp at h
def gv (t : List AInst') (p : APos') : Int := (gainP t p.2.1).1
def gF (t : List AInst') (p : APos') : AFlow' := (p.1, (gv t p, ()))
def gFs (t : List AInst') (l : List APos') : List AFlow' := (l.filter fun p => decide (gv t p ≠ 0)).map (gF t)
theorem flowsGo_ok (t : List AInst') : ∀ (l : List APos') (acc : List AFlow'), (flowsGo t l acc).2.1 = 0 → (flowsGo t l acc).1 = acc ++ gFs t l ∧ ∀ p ∈ l, (gainP t p.2.1).2.1 = 0
  | [], acc, _ => by simp [flowsGo, gFs]
  | p :: l, acc, h => by
    unfold flowsGo at h ⊢
    by_cases he : (gainP t p.2.1).2.1 = 0
    · rw [if_pos he] at h ⊢
      by_cases h0 : (gainP t p.2.1).1 = 0
      · rw [if_pos h0] at h ⊢
        obtain ⟨h1, h2⟩ := flowsGo_ok t l _ h
        refine ⟨?_, fun x hx => ?_⟩
        · rw [h1]; unfold gFs; rw [List.filter_cons, if_neg (by unfold gv; simp [h0])]
        · rcases List.mem_cons.1 hx with rfl | hx
          · exact he
          · exact h2 x hx
      · rw [if_neg h0] at h ⊢
        obtain ⟨h1, h2⟩ := flowsGo_ok t l _ h
        refine ⟨?_, fun x hx => ?_⟩
        · rw [h1]; unfold gFs; rw [List.filter_cons, if_pos (by unfold gv; simp [h0])]; simp; rfl
        · rcases List.mem_cons.1 hx with rfl | hx
          · exact he
          · exact h2 x hx
    · rw [if_neg he] at h; exact absurd h he
theorem flowsGo_len (t : List AInst') : ∀ (l : List APos') (acc : List AFlow'), (flowsGo t l acc).1.length ≤ acc.length + l.length
  | [], acc => by simp [flowsGo]
  | p :: l, acc => by
    unfold flowsGo
    split
    · split
      · have := flowsGo_len t l acc; simp; omega
      · have := flowsGo_len t l (acc ++ [(p.1, (gainP t p.2.1).1, ())]); simp at this ⊢; omega
    · simp
theorem flowsGo_bad (t : List AInst') : ∀ (l : List APos') (acc : List AFlow'), (flowsGo t l acc).2.1 ≠ 0 → (flowsGo t l acc).1 = []
  | [], acc, h => by simp [flowsGo] at h
  | p :: l, acc, h => by
    unfold flowsGo at h ⊢
    by_cases he : (gainP t p.2.1).2.1 = 0
    · rw [if_pos he] at h ⊢
      by_cases h0 : (gainP t p.2.1).1 = 0
      · rw [if_pos h0] at h ⊢; exact flowsGo_bad t l _ h
      · rw [if_neg h0] at h ⊢; exact flowsGo_bad t l _ h
    · rw [if_neg he]
theorem flows_ok {t : List AInst'} {l : List APos'} (h : (flowsP t l).2.1 = 0) : isB l = true ∧ (flowsP t l).1 = gFs t l ∧ ∀ p ∈ l, (gainP t p.2.1).2.1 = 0 := by
  unfold flowsP at h ⊢
  by_cases hp : isB l = true
  · rw [if_pos hp] at h ⊢
    obtain ⟨h1, h2⟩ := flowsGo_ok t l _ h
    exact ⟨hp, by rw [h1, List.nil_append], h2⟩
  · rw [if_neg hp] at h; simp at h
theorem flows_bad {t : List AInst'} {l : List APos'} (h : (flowsP t l).2.1 ≠ 0) : (flowsP t l).1 = [] := by
  unfold flowsP at h ⊢
  by_cases hp : isB l = true
  · rw [if_pos hp] at h ⊢; exact flowsGo_bad t l _ h
  · rw [if_neg hp]
theorem flows_len (t : List AInst') (l : List APos') : (flowsP t l).1.length ≤ l.length := by
  unfold flowsP
  split
  · have := flowsGo_len t l []; simpa using this
  · simp
theorem flows_okF {t : List AInst'} {l : List APos'} (h : (flowsP t l).2.1 = 0) : okF (flowsP t l).1 := by
  obtain ⟨_, h1, h2⟩ := flows_ok h
  rw [h1]
  intro x hx
  obtain ⟨p, hp, rfl⟩ := List.mem_map.1 hx
  obtain ⟨z, _, _, h3, h4⟩ := gain_ok (h2 p (List.mem_filter.1 hp).1)
  show I64 (gainP t p.2.1).1
  rw [h3]; exact h4
/-! ### settlements -/
def settleP (t : List AInst') (l : List APos') (p : List AFlow') : List AFlow' × Int × Unit :=
  if isP p = true then (if (flowsP t l).2.1 = 0 then payP p (flowsP t l).1 else ([], (flowsP t l).2)) else ([], 3, ())
theorem r_settle {t : List AInst'} {l : List APos'} {p : List AFlow'} (ht : okT t) (hb : okB l) (hp : okF p) (hl : p.length ≤ 1000) : mark_Settle t l p = some (settleP t l p) := by
  show mark_SettleW stdW t l p = _
  unfold mark_SettleW settleP
  rw [call_eq (r_is (by omega))]
  by_cases h : isP p = true
  · rw [h, cnd_n (by decide), if_pos rfl, call_eq (r_flows ht hb)]
    by_cases he : (flowsP t l).2.1 = 0
    · have := flows_len t l
      have := hb.2
      rw [cnd_n (by simp [he]), if_pos he, call_eq (r_pay hp (flows_okF he) (by omega))]
    · rw [cnd_y (by simp [he]), if_neg he]
  · have h : isP p = false := by simpa using h
    rw [h, cnd_y (by decide), if_neg (by simp)]
theorem payGo_bad (all : List AFlow') : ∀ (us : List AUnit') (acc : List AFlow'), (payGo all us acc).2.1 ≠ 0 → (payGo all us acc).1 = []
  | [], acc, h => by simp [payGo] at h
  | u :: us, acc, h => by
    unfold payGo at h ⊢
    by_cases hI : I64 (sumU all u)
    · rw [if_pos hI] at h ⊢
      by_cases h0 : sumU all u ≠ 0
      · rw [if_pos h0] at h ⊢; exact payGo_bad all us _ h
      · rw [if_neg h0] at h ⊢; exact payGo_bad all us _ h
    · rw [if_neg hI]
theorem payP_bad {l f : List AFlow'} (h : (payP l f).2.1 ≠ 0) : (payP l f).1 = [] := by
  unfold payP at h ⊢
  by_cases hp : isP l = true
  · rw [if_pos hp] at h ⊢; exact payGo_bad _ _ _ h
  · rw [if_neg hp]
theorem settle_bad {t : List AInst'} {l : List APos'} {p : List AFlow'} (h : (settleP t l p).2.1 ≠ 0) : (settleP t l p).1 = [] := by
  unfold settleP at h ⊢
  by_cases hp : isP p = true
  · rw [if_pos hp] at h ⊢
    by_cases he : (flowsP t l).2.1 = 0
    · rw [if_pos he] at h ⊢; exact payP_bad h
    · rw [if_neg he]
  · rw [if_neg hp]
theorem settle_ok {t : List AInst'} {l : List APos'} {p : List AFlow'} (h : (settleP t l p).2.1 = 0) : isP p = true ∧ (flowsP t l).2.1 = 0 ∧ settleP t l p = payP p (flowsP t l).1 := by
  unfold settleP at h ⊢
  by_cases hp : isP p = true
  · rw [if_pos hp] at h ⊢
    by_cases he : (flowsP t l).2.1 = 0
    · exact ⟨hp, he, by rw [if_pos he]⟩
    · rw [if_neg he] at h; exact absurd h he
  · rw [if_neg hp] at h; simp at h
theorem settle_len (t : List AInst') (l : List APos') (p : List AFlow') : (settleP t l p).1.length ≤ p.length + l.length := by
  unfold settleP
  split
  · split
    · have := payP_len p (flowsP t l).1
      have := flows_len t l
      omega
    · simp
  · simp
theorem r_lives20 : law20_lives = some true := by
  show law20_livesW stdW = _
  unfold law20_livesW
  have ht : okT [(1, (10, (5, (7, ([], ())))))] := by
    refine ⟨fun i hi => ?_, by simp⟩
    simp only [List.mem_singleton] at hi
    subst hi
    unfold okI; simp
  have hg : gainP [(1, (10, (5, (7, ([], ())))))] [(1, (3, ()))] = (60, (0, ())) := by decide +kernel
  have e := r_gain ht (l := [(1, (3, ()))]) (by intro x hx; simp only [List.mem_singleton] at hx; subst hx; show I64 3; unfold I64; omega) (by simp)
  rw [hg] at e
  rw [call_eq e]
  rfl
end Go.Proofs.Ytbpbkmngbhgpfaa

namespace Go.Proofs.Ytbpbkmngbhgpfaa
open Go Go.Vc Go.RowKit
/-! ### there and back -/
def backI (i : AInst') : AInst' := (i.1, (i.2.1, (i.2.2.2.1, (i.2.2.1, (i.2.2.2.2.1, ())))))
theorem backT_ok {t : List AInst'} (h : okT t) : okT (t.map backI) := by
  refine ⟨fun i hi => ?_, by rw [List.length_map]; exact h.2⟩
  obtain ⟨x, hx, rfl⟩ := List.mem_map.1 hi
  obtain ⟨h1, h2, h3, h4⟩ := h.1 x hx
  exact ⟨h1, h3, h2, h4⟩
theorem findI_back (t : List AInst') (id : Int) : findI (t.map backI) id = (findI t id).map backI := by
  induction t with
  | nil => rfl
  | cons x t ih =>
    rw [List.map_cons, findI_cons, findI_cons, ih]
    show (if x.1 = id then _ else _) = _
    split <;> rfl
theorem legZ_back (i : AInst') (q : Int) : legZ (backI i) q = -(legZ i q) := by
  show (i.2.2.1 - i.2.2.2.1) * i.2.1 * q = -((i.2.2.2.1 - i.2.2.1) * i.2.1 * q)
  rw [← Int.neg_mul, ← Int.neg_mul, Int.neg_sub]
theorem legsZ_back (t : List AInst') : ∀ l : List Leg, legsZ (t.map backI) l = (legsZ t l).map fun z => -z
  | [] => rfl
  | x :: l => by
    rw [legsZ, legsZ, findI_back, legsZ_back t l]
    cases findI t x.1 with
    | none => rfl
    | some i =>
      cases legsZ t l with
      | none => rfl
      | some z =>
        show some (legZ (backI i) x.2.1 + -z) = some (-(legZ i x.2.1 + z))
        rw [legZ_back]; congr 1; omega
theorem sumU_gFs (t : List AInst') (u : AUnit') : ∀ l : List APos', sumU (gFs t l) u = sumBy (fun p => if p.1 = u then gv t p else 0) l
  | [] => rfl
  | p :: l => by
    rw [sumBy_cons, ← sumU_gFs t u l]
    unfold gFs
    rw [List.filter_cons]
    by_cases h0 : gv t p = 0
    · rw [if_neg (by simp [h0]), h0]; simp
    · rw [if_pos (by simp [h0]), List.map_cons, sumU_cons]; rfl
theorem gFs_back {t : List AInst'} {l : List APos'} (h1 : ∀ p ∈ l, (gainP t p.2.1).2.1 = 0) (h2 : ∀ p ∈ l, (gainP (t.map backI) p.2.1).2.1 = 0) (u : AUnit') :
    sumU (gFs (t.map backI) l) u = -(sumU (gFs t l) u) := by
  rw [sumU_gFs, sumU_gFs]
  have key : ∀ p ∈ l, gv (t.map backI) p = -(gv t p) := by
    intro p hp
    obtain ⟨z, _, e1, e2, _⟩ := gain_ok (h1 p hp)
    obtain ⟨z', _, e1', e2', _⟩ := gain_ok (h2 p hp)
    rw [legsZ_back, e1] at e1'
    have : -z = z' := by simpa using e1'
    unfold gv; rw [e2, e2', this]
  clear h1 h2
  induction l with
  | nil => rfl
  | cons p l ih =>
    rw [sumBy_cons, sumBy_cons, ih fun q hq => key q (by simp [hq])]
    by_cases hu : p.1 = u
    · rw [if_pos hu, if_pos hu, key p (by simp)]; omega
    · rw [if_neg hu, if_neg hu]; omega
theorem keys_get {l : List AFlow'} (hn : (l.map (·.1)).Nodup) : l = (l.map (·.1)).map fun u => ((u, (getP l u, ())) : AFlow') := by
  induction l with
  | nil => rfl
  | cons x l ih =>
    obtain ⟨h1, h2⟩ := List.nodup_cons.1 hn
    rw [List.map_cons, List.map_cons, getP, if_pos rfl]
    congr 1
    have : (l.map (·.1)).map (fun u => ((u, (getP (x :: l) u, ())) : AFlow')) = (l.map (·.1)).map fun u => ((u, (getP l u, ())) : AFlow') := by
      refine List.map_congr_left fun u hu => ?_
      rw [getP, if_neg fun e => h1 (by show x.1 ∈ _; rw [e]; exact hu)]
    rw [this]; exact ih h2
theorem keys_mem {l : List AFlow'} (h : isP l = true) (u : AUnit') : u ∈ l.map (·.1) ↔ getP l u ≠ 0 := by
  constructor
  · intro hu e
    obtain ⟨x, hx, rfl⟩ := List.mem_map.1 hu
    have := keys_get (isP_nd h)
    rw [this] at hx
    obtain ⟨v, hv, hvx⟩ := List.mem_map.1 hx
    have h1 := (of_decide_eq_true h).1 x (by rw [this]; exact hx)
    rw [← hvx] at h1 e
    exact h1 e
  · intro hu
    refine Classical.byContradiction fun hn => hu (getP_none fun x hx e => hn (List.mem_map.2 ⟨x, hx, e⟩))
theorem purse_ext {a b : List AFlow'} (ha : isP a = true) (hb : isP b = true) (h : ∀ u, getP a u = getP b u) : a = b := by
  have e : a.map (·.1) = b.map (·.1) := srt_ext (of_decide_eq_true ha).2 (of_decide_eq_true hb).2 fun u => by rw [keys_mem ha, keys_mem hb, h]
  rw [keys_get (isP_nd ha), keys_get (isP_nd hb), e]
  exact List.map_congr_left fun u _ => by rw [h]
theorem settle_back {t : List AInst'} {l : List APos'} {p : List AFlow'} (h1 : (settleP t l p).2.1 = 0) (h2 : (settleP (t.map backI) l (settleP t l p).1).2.1 = 0) :
    (settleP (t.map backI) l (settleP t l p).1).1 = p := by
  obtain ⟨hp, hf, e1⟩ := settle_ok h1
  obtain ⟨hq, hg, e2⟩ := settle_ok h2
  rw [e2] at h2 ⊢
  rw [e1] at h1 h2 hq ⊢
  obtain ⟨_, r1, _⟩ := payP_ok h1
  obtain ⟨_, r2, _⟩ := payP_ok h2
  obtain ⟨_, f1, k1⟩ := flows_ok hf
  obtain ⟨_, f2, k2⟩ := flows_ok hg
  rw [r2]
  refine purse_ext (resP_is (units_srt _)) hp fun u => ?_
  rw [resP_get, sumU_app, f2, gFs_back k1 k2, ← getP_sum (isP_nd hq), r1, resP_get, sumU_app, f1, getP_sum (isP_nd hp)]
  omega
theorem r_back {t : List AInst'} {l : List APos'} {p : List AFlow'} (ht : t.length ≤ 9223372036854775807) (htm : ∀ i ∈ t, i.2.2.2.2.1.length ≤ 9223372036854775807)
    (hl : l.length ≤ 9223372036854775807) (hlm : ∀ x ∈ l, x.2.1.length ≤ 9223372036854775807) (hlo : ∀ x ∈ l, okL x.2.1) (hp : okF p) (hpl : p.length ≤ 9223372036854775807) : law20_MarkBack t l p = some true := by
  show law20_MarkBackW stdW t l p = _
  unfold law20_MarkBackW
  obtain ⟨t', e1, ht'⟩ := r_insts ht htm
  rw [call_eq e1, call_eq (r_few19 l hl hlm), call_eq (r_few17 p hpl)]
  have hb := few19_ok hlo
  have hp' := hp.take 20
  have hpl' : (p.take 20).length ≤ 20 := by rw [List.length_take]; omega
  generalize few19 l = b at *
  generalize p.take 20 = q at *
  clear ht htm hl hlm hlo hp hpl e1
  have htl := ht'.2
  refine loop_az (N := t'.length) (by omega) (fun i => ((i : Int), (b, ((t'.take i).map backI, ())))) _ rfl ?_ ?_
  · intro again
    have hq := settle_len t' b q
    have hbl := hb.2
    show stdW.cnd (decide ((t'.length : Int) < (t'.length : Int))) _ (stdW.call (mark_Settle t' b q) fun v7 => stdW.cnd (v7.2.1 != 0) _ (stdW.call (mark_Settle ((t'.take t'.length).map backI) b v7.1) _)) = _
    rw [cnd_end, List.take_length, call_eq (r_settle ht' hb hp' (by omega))]
    by_cases h1 : (settleP t' b q).2.1 = 0
    · obtain ⟨hq1, hf, e⟩ := settle_ok h1
      have hok : okF (settleP t' b q).1 := by
        rw [e] at h1 ⊢
        obtain ⟨_, r1, r2⟩ := payP_ok h1
        rw [r1]; exact resP_ok r2
      rw [cnd_n (by simp [h1]), call_eq (r_settle (backT_ok ht') hb hok (by omega))]
      by_cases h2 : (settleP (t'.map backI) b (settleP t' b q).1).2.1 = 0
      · rw [cnd_n (by simp [h2]), settle_back h1 h2, call_eq (r_same (by omega)), cnd_y rfl, call_eq r_lives20]
      · rw [cnd_y (by simp [h2]), call_eq r_lives20]
    · rw [cnd_y (by simp [h1]), settle_bad h1]
      show stdW.cnd true _ _ = _
      rw [cnd_y rfl, call_eq r_lives20]
  · intro i hi again ha
    show stdW.cnd (decide ((i : Int) < (t'.length : Int))) (stdW.idx t' (i : Int) fun x6 => stdW.room (((t'.take i).map backI).length + 1) 56 (again (IntKind.i64.wrap ((i : Int) + 1), (b, (((t'.take i).map backI) ++ [backI x6], ()))))) _ = _
    have : ((t'.take i).map backI).length ≤ 10 := by rw [List.length_map, List.length_take]; omega
    rw [cnd_lt hi, idx_w hi, room_w (by omega) (by omega), i64_s i (by omega)]
    rw [List.take_succ_eq_append_getElem hi, List.map_append] at ha
    exact ha
end Go.Proofs.Ytbpbkmngbhgpfaa

namespace Go.Vc
open Go Go.RowKit
/-! what a well formed argument is known to be -/
def DT.okD : (t : DT) → t.den → Prop
  | .int k, n => (Lit.int k n).wf = true
  | .bool, _ => True
  | .str, s => s.size ≤ maxLen
  | .slc t, l => (∀ x ∈ l, t.okD x) ∧ l.length ≤ maxLen
  | .unit, _ => True
  | .pair a b, x => a.okD x.1 ∧ b.okD x.2
theorem wf_i64 {n : Int} (h : (Lit.int .i64 n).wf = true) : -9223372036854775808 ≤ n ∧ n ≤ 9223372036854775807 := by
  simp [Lit.wf, IntKind.min, IntKind.max, IntKind.signed, IntKind.bits] at h; omega
theorem wf_u64 {n : Int} (h : (Lit.int .u64 n).wf = true) : 0 ≤ n ∧ n ≤ 18446744073709551615 := by
  simp [Lit.wf, IntKind.min, IntKind.max, IntKind.signed, IntKind.bits] at h; omega
theorem wf_u8 {n : Int} (h : (Lit.int .u8 n).wf = true) : 0 ≤ n ∧ n ≤ 255 := by
  simp [Lit.wf, IntKind.min, IntKind.max, IntKind.signed, IntKind.bits] at h; omega
end Go.Vc

namespace Go.Proofs.Ytbpbkmngbhgpfaa
open Go Go.Vc Go.RowKit
theorem okD_flows {l : DT.den (.slc tAFlow)} (h : DT.okD (.slc tAFlow) l) : okF l ∧ l.length ≤ 9223372036854775807 := by
  refine ⟨fun x hx => wf_i64 (h.1 x hx).2.1, ?_⟩
  have := h.2
  rwa [maxLen_eq] at this
end Go.Proofs.Ytbpbkmngbhgpfaa

namespace Go.Proofs.Ytbpbkmngbhgpfaa
open Go Go.Vc Go.RowKit
theorem okD_insts {l : DT.den (.slc tAInst)} (h : DT.okD (.slc tAInst) l) : (∀ i ∈ l, i.2.2.2.2.1.length ≤ 9223372036854775807) ∧ l.length ≤ 9223372036854775807 := by
  refine ⟨fun x hx => ?_, ?_⟩
  · have := (h.1 x hx).2.2.2.2.1.2
    rwa [maxLen_eq] at this
  · have := h.2
    rwa [maxLen_eq] at this
theorem okD_legs {l : DT.den (.slc tAUnit)} (h : DT.okD (.slc tAUnit) l) : okL l ∧ l.length ≤ 9223372036854775807 := by
  refine ⟨fun x hx => wf_i64 (h.1 x hx).2.1, ?_⟩
  have := h.2
  rwa [maxLen_eq] at this
theorem okD_book {l : DT.den (.slc tAPos)} (h : DT.okD (.slc tAPos) l) : (∀ p ∈ l, okL p.2.1 ∧ p.2.1.length ≤ 9223372036854775807) ∧ l.length ≤ 9223372036854775807 := by
  refine ⟨fun x hx => okD_legs (h.1 x hx).2.1, ?_⟩
  have := h.2
  rwa [maxLen_eq] at this
theorem back_true (x0 : DT.den (.slc tAInst)) (x1 : DT.den (.slc tAPos)) (x2 : DT.den (.slc tAFlow)) (o0 : DT.okD (.slc tAInst) x0) (o1 : DT.okD (.slc tAPos) x1) (o2 : DT.okD (.slc tAFlow) x2) : law20_MarkBack x0 x1 x2 = some true :=
  r_back (okD_insts o0).2 (okD_insts o0).1 (okD_book o1).2 (fun p hp => ((okD_book o1).1 p hp).2) (fun p hp => ((okD_book o1).1 p hp).1) (okD_flows o2).1 (okD_flows o2).2
end Go.Proofs.Ytbpbkmngbhgpfaa

namespace Go.Proofs.Ytbpbkmngbhgpfaa
open Go Go.Vc Go.RowKit Go.ChangeShapes Go.WideShapes Go.ChangeAt Go.Joins

theorem own : ownKnob Try.prog.godebug = none := by kernel_rfl
theorem laidOut : laidOutB Try.prog = true := by kernel_rfl
theorem trod_places {H : Type} {enc : TypeId × Value → H} {w : World} {spare : Nat → Bool} {held : Bool} {t : TypeId} {v : Value} {d : DataW H} {p : List MemPlace} (h : DataW.Trod enc Try.prog w 0 spare held t v d p) : ∀ x ∈ p, x.block < w.heap.size := by
  obtain ⟨m, hm⟩ := h; exact DataW.trod_lt m _ _ _ hm
end Go.Proofs.Ytbpbkmngbhgpfaa

/-! A program's closures over a table of who leads to whom (own work): so that 'recurses' is not reckoned by the kernel function by function. -/
namespace Go.Vc
open Go
def closT (T : List (List Nat)) : Nat → List Nat → List Nat → List Nat
  | 0, _, seen => seen.reverse
  | _, [], seen => seen.reverse
  | n + 1, f :: todo, seen => if seen.contains f then closT T n todo seen else closT T n ((T[f]?).getD [] ++ todo) (f :: seen)
theorem lead_eq {P : Program} {T : List (List Nat)} (hT : P.funcs.toList.map P.leadsTo = T) (f : Nat) : (P.funcs[f]?).elim [] P.leadsTo = (T[f]?).getD [] := by
  subst hT
  rw [List.getElem?_map, Array.getElem?_toList]
  cases P.funcs[f]? <;> rfl
theorem closureVia_eq {P : Program} {T : List (List Nat)} (hT : P.funcs.toList.map P.leadsTo = T) : ∀ n todo seen, P.closureVia n todo seen = closT T n todo seen
  | 0, _, _ => by simp only [Program.closureVia, closT]
  | n + 1, [], _ => by simp only [Program.closureVia, closT]
  | n + 1, f :: todo, seen => by
    simp only [Program.closureVia, closT]
    rw [closureVia_eq hT n, closureVia_eq hT n, lead_eq hT f]
theorem closure_eq {P : Program} {T : List (List Nat)} (hT : P.funcs.toList.map P.leadsTo = T) (f : Nat) : P.closure f = closT T (1 + (T.map fun l => l.length + 1).sum) [f] [] := by
  unfold Program.closure
  rw [closureVia_eq hT]
  subst hT
  rw [List.map_map]; rfl
theorem mem_closT {T : List (List Nat)} {p : Nat → Prop} (hp : ∀ x, p x → ∀ y ∈ (T[x]?).getD [], p y) : ∀ n todo seen, (∀ x ∈ todo, p x) → (∀ x ∈ seen, p x) → ∀ x ∈ closT T n todo seen, p x
  | 0, _, _, _, hs => by intro x hx; simp only [closT] at hx; exact hs x (by simpa using hx)
  | n + 1, [], _, _, hs => by intro x hx; simp only [closT] at hx; exact hs x (by simpa using hx)
  | n + 1, f :: todo, seen, ht, hs => by
    intro x hx
    simp only [closT] at hx
    split at hx
    · exact mem_closT hp n todo seen (fun y hy => ht y (by simp [hy])) hs x hx
    · refine mem_closT hp n _ _ (fun y hy => ?_) (fun y hy => ?_) x hx
      · rcases List.mem_append.1 hy with h | h
        · exact hp f (ht f (by simp)) y h
        · exact ht y (by simp [h])
      · rcases List.mem_cons.1 hy with rfl | h
        · exact ht y (by simp)
        · exact hs y h
/-- a rank that falls along every call (0: not ranked) -/
def okRk (T : List (List Nat)) (rk : List Nat) : Bool :=
  (List.range T.length).all fun g => (rk[g]?).getD 0 == 0 || ((T[g]?).getD []).all fun h => decide (0 < (rk[h]?).getD 0) && decide ((rk[h]?).getD 0 < (rk[g]?).getD 0)
theorem okRk_at {T : List (List Nat)} {rk : List Nat} (h : okRk T rk = true) {g y : Nat} (hg : 0 < (rk[g]?).getD 0) (hy : y ∈ (T[g]?).getD []) : 0 < (rk[y]?).getD 0 ∧ (rk[y]?).getD 0 < (rk[g]?).getD 0 := by
  have hlt : g < T.length := by
    rcases Nat.lt_or_ge g T.length with h1 | h1
    · exact h1
    · rw [List.getElem?_eq_none h1] at hy; cases hy
  have := List.all_eq_true.1 h g (List.mem_range.2 hlt)
  simp only [Bool.or_eq_true, beq_iff_eq, List.all_eq_true, Bool.and_eq_true, decide_eq_true_eq] at this
  rcases this with h0 | h0
  · omega
  · exact h0 y hy
theorem recurses_no {P : Program} {T : List (List Nat)} {rk : List Nat} {f : Nat} (hT : P.funcs.toList.map P.leadsTo = T) (hk : okRk T rk = true) (hf : 0 < (rk[f]?).getD 0) (hu : P.unfollowed f = false) : P.recurses f = false := by
  unfold Program.recurses
  rw [hu, Bool.false_or, List.any_eq_false]
  intro g hg
  rw [closure_eq hT] at hg
  have hg0 : 0 < (rk[g]?).getD 0 := mem_closT (p := fun x => 0 < (rk[x]?).getD 0) (fun x hx y hy => (okRk_at hk hx hy).1) _ _ _ (by intro x hx; simp only [List.mem_singleton] at hx; subst hx; exact hf) (by intro x hx; cases hx) g hg
  simp only [Bool.not_eq_true, List.any_eq_false]
  intro h hh
  rw [lead_eq hT] at hh
  obtain ⟨h1, h2⟩ := okRk_at hk hg0 hh
  rw [closure_eq hT]
  cases hc : (closT T (1 + (T.map fun l => l.length + 1).sum) [h] []).contains g with
  | false => rfl
  | true =>
    have hm := List.contains_iff_mem.1 hc
    have := mem_closT (p := fun x => 0 < (rk[x]?).getD 0 ∧ (rk[x]?).getD 0 ≤ (rk[h]?).getD 0) (fun x hx y hy => by have := okRk_at hk hx.1 hy; exact ⟨this.1, by omega⟩) _ _ _ (by intro x hx; simp only [List.mem_singleton] at hx; subst hx; exact ⟨h1, Nat.le_refl _⟩) (by intro x hx; cases hx) g hm
    omega
end Go.Vc

namespace Go.Proofs.Ytbpbkmngbhgpfaa
open Go Go.Vc
def leadsT : List (List Nat) := [[], [], [1], [11, 11, 12, 12, 13, 14], [11, 11, 15, 16, 17, 18, 19, 21, 22, 20, 12, 23, 13, 14], [11, 24, 17, 14, 23, 13, 14, 18, 18, 15, 15, 16, 14], [25, 26, 27, 11, 28, 29, 30, 31, 32, 33, 13, 13, 34], [25, 27, 11, 32, 34, 32, 13, 34], [25, 27, 11, 35, 36, 34, 30, 34, 22, 20, 16, 32, 22, 22, 20, 34], [37, 38, 39, 40, 39, 40, 41, 18, 43, 18, 43, 42, 44, 20, 40], [37, 38, 39, 46, 45, 40, 36, 36, 15, 15, 47, 49, 49, 48, 18, 18, 39, 46, 46, 45, 39, 18, 18, 40], [], [16, 50, 51, 53, 52], [], [24, 18, 18, 16], [54, 55], [56], [57], [], [], [42], [43, 59, 58], [43, 58], [17, 60, 43, 58, 61, 62, 62], [63, 16, 12], [64], [], [26], [65, 66, 55, 67], [68, 69, 62], [35, 28], [70, 69, 62], [16, 30, 12], [17, 31, 23], [28], [65, 56], [72, 71], [27, 11], [], [47, 73, 74, 75, 24], [39, 18, 18, 49, 48], [48], [76, 58], [59, 59, 77], [43, 43, 78, 43, 43, 42, 78], [41, 13], [], [35, 16], [], [79], [80], [81, 82], [54, 55, 83], [], [], [84, 85], [], [], [77, 86, 87, 88, 86, 88, 86], [], [57], [89], [], [54, 54, 90, 83], [91], [], [92, 94, 93], [54], [], [95, 44, 58, 61], [68, 57], [96], [97, 54, 55], [98], [98, 99, 99, 94, 93, 67], [35, 100, 101, 101], [86], [], [77, 86], [], [], [103, 102], [56, 56], [67], [104, 104], [105], [], [], [], [59, 58], [84, 84, 54, 84, 85], [106, 95], [107, 108], [109, 54, 109, 110, 110, 104, 112, 111, 105], [54, 54, 109, 109, 110, 112, 112, 111], [], [114, 115, 113], [], [99, 99, 116, 117], [], [118, 63], [35, 49, 119, 120, 121, 122, 123], [124, 125, 126, 127, 128, 129, 130, 131, 102, 102], [132, 133], [], [], [134, 134], [136, 135], [137], [112, 138, 138], [], [138, 138], [], [], [139, 139], [140, 140], [141], [], [65], [142, 118, 97, 52], [56], [79], [], [143, 144], [], [145, 145], [146, 147], [148, 148, 148, 149], [], [], [], [], [], [], [], [], [], [], [], [], [], [], [150], [], [151], [], [103], [], [149], [152, 152, 152], [], [153, 153, 153], [], [], [], [], [], [], [], [], [], [], [], [], [], [], [], [], [], [], []]
def rankT : List Nat := [1, 1, 2, 0, 0, 0, 0, 0, 0, 0, 0, 1, 0, 1, 0, 4, 2, 2, 1, 1, 4, 3, 3, 5, 0, 5, 1, 2, 5, 6, 6, 6, 0, 7, 6, 2, 5, 3, 1, 0, 0, 2, 3, 2, 4, 3, 1, 3, 1, 2, 2, 0, 4, 1, 1, 3, 1, 1, 2, 1, 2, 4, 1, 4, 4, 1, 4, 2, 1, 5, 2, 4, 4, 4, 4, 7, 2, 1, 2, 1, 1, 0, 2, 3, 2, 2, 1, 1, 1, 3, 3, 3, 3, 3, 3, 1, 3, 1, 3, 1, 5, 6, 0, 2, 1, 1, 2, 2, 2, 2, 1, 2, 1, 1, 2, 2, 2, 1, 2, 5, 2, 2, 1, 4, 1, 2, 4, 4, 1, 1, 1, 1, 1, 1, 1, 1, 1, 1, 1, 1, 1, 1, 2, 1, 3, 1, 3, 1, 3, 2, 1, 2, 1, 1, 1, 1, 1, 1, 1, 1, 1, 1, 1, 1, 1, 1, 1, 1, 1, 1, 1]
set_option maxRecDepth 1000000 in
theorem leads_ok : Try.prog.funcs.toList.map Try.prog.leadsTo = leadsT := by kernel_rfl
set_option maxRecDepth 1000000 in
theorem rank_ok : okRk leadsT rankT = true := by kernel_rfl
end Go.Proofs.Ytbpbkmngbhgpfaa
