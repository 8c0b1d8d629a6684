import Derived.Test.YtnldhkhnfodplaaB4
import Derived.Laws.Bits64
import Derived.Laws.Bits64b
import Derived.Test.YtnldhkhnfodplaaRows
import Derived.Laws.Externs
namespace Go.Proofs.Ytnldhkhnfodplaa
open Go Go.Vc Go.RowKit Go.Lib
/-! ### A number's bytes (plain) -/
theorem i64c (z : Int) (h : -9223372036854775808 ≤ z ∧ z < 9223372036854775808) : IntKind.i64.wrap z = z := IntWalk.i64_in z (by omega)
def encU (u : Nat) : List Int := if h : u < 128 then [(u : Int)] else ((u % 128 + 128 : Nat) : Int) :: encU (u / 128)
termination_by u
decreasing_by omega
theorem encU_lt {u : Nat} (h : u < 128) : encU u = [(u : Int)] := by rw [encU, dif_pos h]
theorem encU_ge {u : Nat} (h : 128 ≤ u) : encU u = ((u % 128 + 128 : Nat) : Int) :: encU (u / 128) := by rw [encU, dif_neg (by omega)]
theorem encU_len : ∀ (k u : Nat), u < 128 ^ (k + 1) → (encU u).length ≤ k + 1
  | k, u, h => by
    rcases Nat.lt_or_ge u 128 with hu | hu
    · rw [encU_lt hu]; simp
    · rw [encU_ge hu]
      cases k with
      | zero => simp at h; omega
      | succ k =>
        have := encU_len k (u / 128) (by rw [Nat.pow_succ] at h; omega)
        simp; omega
theorem encU_len10 {u : Nat} (h : u < 18446744073709551616) : (encU u).length ≤ 10 := encU_len 9 u (by omega)

theorem u64c (z : Int) (h : 0 ≤ z ∧ z < 18446744073709551616) : IntKind.u64.wrap z = z := IntWalk.u64_in z (by omega)
theorem u8c (z : Int) (h : 0 ≤ z ∧ z < 256) : IntKind.u8.wrap z = z := IntWalk.u8_in z (by omega)
theorem tmodN (u : Nat) : (u : Int).tmod 128 = ((u % 128 : Nat) : Int) := by rw [Int.tmod_eq_emod_of_nonneg (by omega)]; omega
theorem tdivN (u : Nat) : (u : Int).tdiv 128 = ((u / 128 : Nat) : Int) := by rw [Int.tdiv_eq_ediv_of_nonneg (by omega)]; omega

/-- what a number folds to -/
def fold (n : Int) : Nat := if 0 ≤ n then 2 * n.toNat else 2 * (-(n + 1)).toNat + 1

theorem fold_lt (n : Int) (hn : -9223372036854775808 ≤ n ∧ n ≤ 9223372036854775807) : fold n < 18446744073709551616 := by unfold fold; split <;> omega

def encs (l : List Int) : List Int := l.flatMap fun n => encU (fold n)
theorem encU_pos (u : Nat) : 0 < (encU u).length := by
  rcases Nat.lt_or_ge u 128 with h | h
  · rw [encU_lt h]; simp
  · rw [encU_ge h]; simp
def Is64 (n : Int) : Prop := -9223372036854775808 ≤ n ∧ n ≤ 9223372036854775807

def uNext (sh u : Nat) (b : Int) : Nat := u ||| (b.toNat % 128 * 2 ^ sh % 18446744073709551616)
theorem uNext_lt {sh u : Nat} {b : Int} (hu : u < 18446744073709551616) : uNext sh u b < 18446744073709551616 := by
  have h1 : b.toNat % 128 * 2 ^ sh % 18446744073709551616 < 2 ^ 64 := by omega
  have := Nat.or_lt_two_pow (show u < 2 ^ 64 by omega) h1
  unfold uNext; omega
theorem uNext_bits {sh u : Nat} {b : Int} (hu : u < 18446744073709551616) (hs : sh ≤ 63) (hb : 0 ≤ b ∧ b < 256) :
    bits BinOp.or IntKind.u64 (u : Int) (IntKind.u64.wrap (IntKind.u64.wrap (bits BinOp.and IntKind.u8 b 127) * 2 ^ min (Int.toNat (sh : Int)) IntKind.u64.bits)) = (uNext sh u b : Int) := by
  have h : ∀ n : Fin 256, bits BinOp.and IntKind.u8 ((n.val : Nat) : Int) 127 = ((n.val % 128 : Nat) : Int) := by decide +kernel
  have h1 := h ⟨b.toNat, by omega⟩
  have hbn : ((b.toNat : Nat) : Int) = b := by omega
  dsimp only at h1
  rw [hbn] at h1
  have hm : min (Int.toNat (sh : Int)) IntKind.u64.bits = sh := by
    have : IntKind.u64.bits = 64 := by decide +kernel
    rw [this, Int.toNat_natCast]
    exact Nat.min_eq_left (by omega)
  rw [h1, hm, u64c ((b.toNat % 128 : Nat) : Int) (by omega), IntKind.wrap_u64]
  have e : (((b.toNat % 128 : Nat) : Int) * 2 ^ sh % 18446744073709551616) = ((b.toNat % 128 * 2 ^ sh % 18446744073709551616 : Nat) : Int) := by
    have e0 : ((2 ^ sh : Nat) : Int) = (2 : Int) ^ sh := by rw [Int.natCast_pow]; rfl
    rw [← e0, ← Int.natCast_mul]; omega
  rw [e, bits_or_u64_nat _ _ hu (by omega)]
  rfl

/-- a number's groups -/
def numS : Nat → Nat → List Int → Option Nat × List Int × Int
  | _, _, [] => (none, [], 4)
  | sh, u, b :: r => if 63 < sh ∨ (sh = 63 ∧ 1 < b) ∨ (b = 0 ∧ 0 < sh) then (none, [], 3) else if b < 128 then (some (uNext sh u b), r, 0) else numS (sh + 7) (uNext sh u b) r

def unf (u : Nat) : Int := if u % 2 = 0 then ((u / 2 : Nat) : Int) else -((u / 2 : Nat) : Int) - 1
theorem xor_i64_0 (a : Nat) (h : a < 9223372036854775808) : bits .xor .i64 (a : Int) 0 = (a : Int) := by
  have h1 : (BitVec.ofInt 64 (a : Int)).toNat = a := by
    rw [BitVec.ofInt_natCast, BitVec.toNat_ofNat]; exact Nat.mod_eq_of_lt (by omega)
  show IntKind.i64.wrap ((BitVec.ofInt 64 (a : Int) ^^^ BitVec.ofInt 64 0).toNat : Int) = _
  have h2 : BitVec.ofInt 64 0 = 0#64 := by decide
  rw [h2, BitVec.xor_zero, h1, i64c _ (by omega)]
theorem xor_i64_1 (a : Nat) (h : a < 9223372036854775808) : bits .xor .i64 (a : Int) (-1) = -(a : Int) - 1 := by
  have h1 : (BitVec.ofInt 64 (a : Int)).toNat = a := by
    rw [BitVec.ofInt_natCast, BitVec.toNat_ofNat]; exact Nat.mod_eq_of_lt (by omega)
  show IntKind.i64.wrap ((BitVec.ofInt 64 (a : Int) ^^^ BitVec.ofInt 64 (-1)).toNat : Int) = _
  have h2 : BitVec.ofInt 64 (-1) = BitVec.allOnes 64 := by decide
  rw [h2, BitVec.xor_allOnes, BitVec.toNat_not, h1, IntKind.wrap_i64]
  omega
theorem unf_bits (u : Nat) (hu : u < 18446744073709551616) : bits BinOp.xor IntKind.i64 (IntKind.i64.wrap ((u : Int).fdiv (2 ^ min (Int.toNat 1) IntKind.u64.bits))) (IntKind.i64.wrap (0 - IntKind.i64.wrap (bits BinOp.and IntKind.u64 (u : Int) 1))) = unf u := by
  have e : (2 : Int) ^ min (Int.toNat 1) IntKind.u64.bits = 2 := by decide +kernel
  have e1 : bits BinOp.and IntKind.u64 (u : Int) 1 = ((u % 2 : Nat) : Int) := by
    have := bits_and_u64_nat u 1 hu (by decide)
    rw [Nat.and_one_is_mod] at this
    exact this
  rw [e, e1, Int.fdiv_eq_ediv_of_nonneg _ (by omega), show (u : Int) / 2 = ((u / 2 : Nat) : Int) by omega, i64c ((u / 2 : Nat) : Int) (by omega), i64c ((u % 2 : Nat) : Int) (by omega), i64c _ (by omega)]
  unfold unf
  by_cases h : u % 2 = 0
  · rw [if_pos h, h]; exact xor_i64_0 _ (by omega)
  · have h1 : u % 2 = 1 := by omega
    rw [if_neg h, h1]; exact xor_i64_1 _ (by omega)
/-- what a reading of a number answers, and what is left, and the error -/
def rdInt (bs : List Int) (e lo hi : Int) : Int × List Int × Int :=
  if e ≠ 0 then (0, bs, e) else
  match numS 0 0 bs with
  | (none, r, e') => (0, r, e')
  | (some u, r, e') => if unf u < lo ∨ hi < unf u then (0, [], 7) else (unf u, r, e')
theorem numS_lt : ∀ (bs : List Int) (sh u : Nat), u < 18446744073709551616 → ∀ x, (numS sh u bs).1 = some x → x < 18446744073709551616
  | [], sh, u, hu, x, h => by simp [numS] at h
  | b :: r, sh, u, hu, x, h => by
    unfold numS at h
    split at h
    · simp at h
    · split at h
      · simp at h; rw [← h]; exact uNext_lt hu
      · exact numS_lt r _ _ (uNext_lt hu) x h

theorem or_add (acc x k : Nat) (h : acc < 2 ^ k) : acc ||| (x * 2 ^ k) = acc + x * 2 ^ k := by
  rw [Nat.mul_comm, Nat.or_comm, ← Nat.two_pow_add_eq_or_of_lt h, Nat.add_comm]
theorem uNext_add {sh acc b : Nat} (ha : acc < 2 ^ sh) (hx : b % 128 * 2 ^ sh < 18446744073709551616) : uNext sh acc (b : Int) = acc + b % 128 * 2 ^ sh := by
  unfold uNext
  rw [Int.toNat_natCast, Nat.mod_eq_of_lt hx, or_add _ _ _ ha]
theorem pow_split (sh : Nat) (h : sh ≤ 64) : 2 ^ (64 - sh) * 2 ^ sh = 18446744073709551616 := by
  rw [← Nat.pow_add, Nat.sub_add_cancel h]

theorem groups (v P acc : Nat) : acc + v % 128 * P + v / 128 * (128 * P) = acc + v * P := by
  have h : v * P = (128 * (v / 128) + v % 128) * P := by congr 1; omega
  have h2 : v / 128 * (128 * P) = 128 * (v / 128) * P := by rw [← Nat.mul_assoc, Nat.mul_comm (v / 128) 128]
  rw [h, h2, Nat.add_mul]; omega
/-- what was written is read -/
theorem numS_enc : ∀ (k v acc : Nat) (r : List Int), k ≤ 9 → acc < 2 ^ (7 * k) → v < 2 ^ (64 - 7 * k) → (0 < k → 0 < v) → numS (7 * k) acc (encU v ++ r) = (some (acc + v * 2 ^ (7 * k)), r, 0) := by
  intro k
  have main : ∀ m k, 9 - k = m → ∀ (v acc : Nat) (r : List Int), k ≤ 9 → acc < 2 ^ (7 * k) → v < 2 ^ (64 - 7 * k) → (0 < k → 0 < v) → numS (7 * k) acc (encU v ++ r) = (some (acc + v * 2 ^ (7 * k)), r, 0) := by
    intro m
    induction m with
    | zero =>
      intro k hk v acc r h9 ha hv hp
      have : k = 9 := by omega
      subst this
      have hv' : v < 2 := hv
      have h1 : v = 1 := by have := hp (by omega); omega
      subst h1
      rw [encU_lt (by omega)]
      have e := uNext_add (sh := 63) (acc := acc) (b := 1) ha (by decide)
      simp only [List.cons_append, List.nil_append]
      unfold numS
      rw [if_neg (by omega), if_pos (by omega)]
      rw [show ((1 : Nat) : Int) = 1 from rfl] at e ⊢
      rw [e]
    | succ m ih =>
      intro k hk v acc r h9 ha hv hp
      have hk9 : k < 9 := by omega
      rcases Nat.lt_or_ge v 128 with h | h
      · rw [encU_lt h]
        simp only [List.cons_append, List.nil_append]
        unfold numS
        rw [if_neg (by omega), if_pos (by omega)]
        have hb : v % 128 * 2 ^ (7 * k) < 18446744073709551616 := by
          rw [← pow_split (7 * k) (by omega)]
          exact Nat.mul_lt_mul_of_pos_right (by rw [Nat.mod_eq_of_lt h]; exact hv) (Nat.pow_pos (by decide))
        rw [uNext_add ha hb, Nat.mod_eq_of_lt h]
      · rw [encU_ge h]
        simp only [List.cons_append]
        unfold numS
        rw [if_neg (by omega), if_neg (by omega)]
        have hmod : (v % 128 + 128) % 128 = v % 128 := by omega
        have hvd : v % 128 * 2 ^ (7 * k) < 18446744073709551616 := by
          rw [← pow_split (7 * k) (by omega)]
          exact Nat.mul_lt_mul_of_pos_right (Nat.lt_of_le_of_lt (Nat.mod_le _ _) hv) (Nat.pow_pos (by decide))
        have e := uNext_add (sh := 7 * k) (acc := acc) (b := v % 128 + 128) ha (by rw [hmod]; exact hvd)
        rw [e, hmod]
        have hpow : 2 ^ (7 * (k + 1)) = 128 * 2 ^ (7 * k) := by rw [show 7 * (k + 1) = 7 + 7 * k by omega, Nat.pow_add]
        have hacc : acc + v % 128 * 2 ^ (7 * k) < 2 ^ (7 * (k + 1)) := by
          rw [hpow]
          have : v % 128 * 2 ^ (7 * k) ≤ 127 * 2 ^ (7 * k) := Nat.mul_le_mul_right _ (by omega)
          omega
        have hv2 : v / 128 < 2 ^ (64 - 7 * (k + 1)) := by
          rw [Nat.div_lt_iff_lt_mul (by decide)]
          have : 2 ^ (64 - 7 * (k + 1)) * 128 = 2 ^ (64 - 7 * k) := by rw [show 64 - 7 * k = (64 - 7 * (k + 1)) + 7 by omega, Nat.pow_add]
          omega
        have := ih (k + 1) (by omega) (v / 128) _ r (by omega) hacc hv2 (by omega)
        rw [show 7 * k + 7 = 7 * (k + 1) by omega, this, hpow]
        rw [groups v (2 ^ (7 * k)) acc]
  exact main _ k rfl

/-- bytes that are read are those of the number -/
theorem numS_canon : ∀ (bs : List Int) (k acc u : Nat) (r : List Int) (e : Int), (∀ b ∈ bs, 0 ≤ b ∧ b < 256) → k ≤ 10 → acc < 2 ^ (7 * k) → numS (7 * k) acc bs = (some u, r, e) →
    ∃ v, bs = encU v ++ r ∧ u = acc + v * 2 ^ (7 * k) ∧ (0 < k → 0 < v) ∧ k ≤ 9 ∧ v < 2 ^ (64 - 7 * k) ∧ e = 0
  | [], _, _, _, _, _, _, _, _, h => by simp [numS] at h
  | b :: bs, k, acc, u, r, e, hb, hk, ha, h => by
    have hb0 := hb b (by simp)
    obtain ⟨n, rfl⟩ := Int.eq_ofNat_of_zero_le hb0.1
    unfold numS at h
    split at h
    · simp at h
    · rename_i hc
      have hk9 : k ≤ 9 := by omega
      have hbound : n % 128 * 2 ^ (7 * k) < 18446744073709551616 := by
        rcases Nat.lt_or_ge k 9 with h9 | h9
        · have h1 : n % 128 * 2 ^ (7 * k) ≤ 127 * 2 ^ (7 * k) := Nat.mul_le_mul_right _ (by omega)
          have h2 : 2 ^ (7 * k) ≤ 2 ^ 56 := Nat.pow_le_pow_right (by decide) (by omega)
          have h3 : (2 : Nat) ^ 56 = 72057594037927936 := by decide
          omega
        · have : k = 9 := by omega
          subst this
          have hn1 : n ≤ 1 := by omega
          have h3 : (2 : Nat) ^ (7 * 9) = 9223372036854775808 := by decide
          rw [h3]; omega
      rw [uNext_add ha hbound] at h
      split at h
      · rename_i hlt
        simp only [Prod.mk.injEq, Option.some.injEq] at h
        obtain ⟨rfl, rfl, rfl⟩ := h
        have hn : n < 128 := by omega
        refine ⟨n, by rw [encU_lt hn]; rfl, by rw [Nat.mod_eq_of_lt hn], by omega, hk9, ?_, rfl⟩
        rw [Nat.mod_eq_of_lt hn, ← pow_split (7 * k) (by omega)] at hbound
        exact Nat.lt_of_mul_lt_mul_right hbound
      · rename_i hge
        have hn : 128 ≤ n ∧ n < 256 := by omega
        have hpow : 2 ^ (7 * (k + 1)) = 128 * 2 ^ (7 * k) := by rw [show 7 * (k + 1) = 7 + 7 * k by omega, Nat.pow_add]
        have hacc : acc + n % 128 * 2 ^ (7 * k) < 2 ^ (7 * (k + 1)) := by
          rw [hpow]
          have : n % 128 * 2 ^ (7 * k) ≤ 127 * 2 ^ (7 * k) := Nat.mul_le_mul_right _ (by omega)
          omega
        rw [show 7 * k + 7 = 7 * (k + 1) by omega] at h
        obtain ⟨v, h1, h2, h3, h4, h5, h6⟩ := numS_canon bs (k + 1) _ u r e (fun b hb' => hb b (by simp [hb'])) (by omega) hacc h
        have hv0 := h3 (by omega)
        refine ⟨128 * v + (n - 128), ?_, ?_, fun _ => by omega, hk9, ?_, h6⟩
        · rw [encU_ge (by omega), h1]
          have e1 : (128 * v + (n - 128)) % 128 + 128 = n := by omega
          have e2 : (128 * v + (n - 128)) / 128 = v := by omega
          rw [e1, e2]; rfl
        · rw [h2, hpow]
          have e1 : n % 128 = (128 * v + (n - 128)) % 128 := by omega
          have e2 : v = (128 * v + (n - 128)) / 128 := by omega
          have := groups (128 * v + (n - 128)) (2 ^ (7 * k)) acc
          rw [← e1, ← e2] at this
          exact this
        · have h7 : 2 ^ (64 - 7 * k) = 128 * 2 ^ (64 - 7 * (k + 1)) := by rw [show 64 - 7 * k = 7 + (64 - 7 * (k + 1)) by omega, Nat.pow_add]
          rw [h7]; omega

theorem unf_fold (n : Int) : unf (fold n) = n := by unfold unf fold; split <;> split <;> omega
theorem fold_unf (u : Nat) : fold (unf u) = u := by unfold unf fold; split <;> split <;> omega
theorem unf_is (u : Nat) (h : u < 18446744073709551616) : Is64 (unf u) := by unfold unf Is64; split <;> omega

theorem rdInt_enc (n : Int) (hn : Is64 n) (lo hi : Int) (r : List Int) (h : lo ≤ n ∧ n ≤ hi) : rdInt (encU (fold n) ++ r) 0 lo hi = (n, r, 0) := by
  have := numS_enc 0 (fold n) 0 r (by omega) (by decide) (by simpa using fold_lt n hn) (by omega)
  simp only [Nat.mul_zero, Nat.pow_zero, Nat.mul_one, Nat.zero_add] at this
  unfold rdInt
  rw [if_neg (by simp), this]
  simp only [unf_fold]
  rw [if_neg (by omega)]
theorem numS_none : ∀ (bs : List Int) (sh u : Nat) (r : List Int), numS sh u bs = (none, r, 0) → False
  | [], sh, u, r, h => by simp [numS] at h
  | b :: bs, sh, u, r, h => by
    unfold numS at h
    split at h
    · simp at h
    · split at h
      · simp at h
      · exact numS_none bs _ _ r h
/-- a reading of any number: what is left, and the bytes that it took -/
theorem rdInt_canon (bs : List Int) (hb : ∀ b ∈ bs, 0 ≤ b ∧ b < 256) (n : Int) (r : List Int) (lo hi : Int) (h : rdInt bs 0 lo hi = (n, r, 0)) : bs = encU (fold n) ++ r ∧ Is64 n := by
  unfold rdInt at h
  rw [if_neg (by simp)] at h
  cases hN : numS 0 0 bs with
  | mk o p =>
    obtain ⟨r', e'⟩ := p
    rw [hN] at h
    cases o with
    | none =>
      simp only [Prod.mk.injEq] at h
      obtain ⟨_, rfl, rfl⟩ := h
      exfalso
      exact numS_none bs 0 0 _ hN
    | some u =>
      simp only at h
      split at h
      · simp at h
      · simp only [Prod.mk.injEq] at h
        obtain ⟨rfl, rfl, rfl⟩ := h
        obtain ⟨v, h1, h2, _, _, h5, _⟩ := numS_canon bs 0 0 u r' 0 hb (by omega) (by decide) hN
        simp only [Nat.mul_zero, Nat.pow_zero, Nat.mul_one, Nat.zero_add] at h2
        subst h2
        exact ⟨by rw [fold_unf]; exact h1, unf_is _ (by simpa using h5)⟩
theorem rdInt_canon' (bs : List Int) (e lo hi : Int) (hb : ∀ b ∈ bs, 0 ≤ b ∧ b < 256) (he : e = 0) (h : (rdInt bs e lo hi).2.2 = 0) : bs = encU (fold (rdInt bs e lo hi).1) ++ (rdInt bs e lo hi).2.1 ∧ Is64 (rdInt bs e lo hi).1 := by
  subst he
  refine rdInt_canon bs hb _ _ lo hi ?_
  exact Prod.ext rfl (Prod.ext rfl h)
theorem numS_sub : ∀ (bs : List Int) (sh u : Nat), ∀ z ∈ (numS sh u bs).2.1, z ∈ bs
  | [], sh, u, z, h => by simp [numS] at h
  | b :: bs, sh, u, z, h => by
    unfold numS at h
    split at h
    · simp at h
    · split at h
      · exact List.mem_cons.2 (.inr h)
      · exact List.mem_cons.2 (.inr (numS_sub bs _ _ z h))
theorem rdInt_bytes (bs : List Int) (e lo hi : Int) (hb : ∀ z ∈ bs, 0 ≤ z ∧ z < 256) : ∀ z ∈ (rdInt bs e lo hi).2.1, 0 ≤ z ∧ z < 256 := by
  intro z hz
  refine hb z ?_
  have hs := numS_sub bs 0 0 z
  unfold rdInt at hz
  split at hz
  · exact hz
  · cases hN : numS 0 0 bs with
    | mk o p =>
      rw [hN] at hz hs
      cases o with
      | none => exact hs hz
      | some u =>
        simp only at hz
        split at hz
        · simp at hz
        · exact hs hz
theorem rdInt_err (bs : List Int) (e lo hi : Int) (h : (rdInt bs e lo hi).2.2 = 0) : e = 0 := by
  unfold rdInt at h
  split at h
  · exact h
  · omega
theorem xor_ones (x : Nat) (h : x < 18446744073709551616) : x ^^^ 18446744073709551615 = 18446744073709551615 - x := by
  have h1 : (BitVec.ofNat 64 x ^^^ BitVec.allOnes 64).toNat = x ^^^ 18446744073709551615 := by
    rw [BitVec.toNat_xor, BitVec.toNat_ofNat, BitVec.toNat_allOnes, Nat.mod_eq_of_lt (by simpa using h)]
  have h2 : BitVec.ofNat 64 x ^^^ BitVec.allOnes 64 = ~~~ BitVec.ofNat 64 x := by rw [BitVec.xor_allOnes]
  rw [← h1, h2, BitVec.toNat_not, BitVec.toNat_ofNat, Nat.mod_eq_of_lt (by simpa using h)]
theorem fold_bits (n : Int) (hn : Is64 n) : bits BinOp.xor IntKind.u64 (IntKind.u64.wrap (IntKind.i64.wrap (n * 2 ^ min (Int.toNat 1) IntKind.i64.bits))) (IntKind.u64.wrap (n.fdiv (2 ^ min (Int.toNat 63) IntKind.i64.bits))) = (fold n : Int) := by
  have e1 : (2 : Int) ^ min (Int.toNat 1) IntKind.i64.bits = 2 := by decide +kernel
  have e2 : (2 : Int) ^ min (Int.toNat 63) IntKind.i64.bits = 9223372036854775808 := by decide +kernel
  unfold Is64 at hn
  rw [e1, e2, IntKind.wrap_i64, IntKind.wrap_u64, IntKind.wrap_u64, Int.fdiv_eq_ediv_of_nonneg _ (by omega)]
  unfold fold
  by_cases h : 0 ≤ n
  · rw [if_pos h]
    have a1 : n / 9223372036854775808 % 18446744073709551616 = ((0 : Nat) : Int) := by omega
    rw [a1, show ((n * 2 + 9223372036854775808) % 18446744073709551616 - 9223372036854775808) % 18446744073709551616 = ((2 * n.toNat : Nat) : Int) by omega, bits_xor_u64_nat _ _ (by omega) (by omega), Nat.xor_zero]
  · rw [if_neg h]
    have a1 : n / 9223372036854775808 % 18446744073709551616 = ((18446744073709551615 : Nat) : Int) := by omega
    rw [a1, show ((n * 2 + 9223372036854775808) % 18446744073709551616 - 9223372036854775808) % 18446744073709551616 = (((n * 2 + 18446744073709551616).toNat : Nat) : Int) by omega, bits_xor_u64_nat _ _ (by omega) (by omega), xor_ones _ (by omega)]
    omega
theorem or128 (u : Nat) : bits BinOp.or IntKind.u8 (IntKind.u8.wrap (u : Int)) 128 = ((u % 128 + 128 : Nat) : Int) := by
  have h : ∀ n : Fin 256, bits BinOp.or IntKind.u8 ((n.val : Nat) : Int) 128 = ((n.val % 128 + 128 : Nat) : Int) := by decide +kernel
  have h1 := h ⟨u % 256, by omega⟩
  rw [IntKind.wrap_u8, show (u : Int) % 256 = ((u % 256 : Nat) : Int) by omega, h1]
  dsimp only
  omega
end Go.Proofs.Ytnldhkhnfodplaa

namespace Go.Proofs.Ytnldhkhnfodplaa
open Go.Vc
def tab : List TI := [
  ⟨false, .other, 0, 0, false, [], none⟩,
  ⟨false, .other, 0, 0, false, [], none⟩,
  ⟨true, .int .i64, 1, 8, false, [.int .i64 0], some [.int .i64]⟩,
  ⟨true, .int .i64, 1, 8, false, [.int .i64 0], some [.int .i64]⟩,
  ⟨true, .bool, 1, 1, false, [.bool false], some [.bool]⟩,
  ⟨true, .int .u8, 1, 1, false, [.int .u8 0], some [.int .u8]⟩,
  ⟨false, .other, 0, 0, false, [], none⟩,
  ⟨false, .other, 0, 0, false, [], none⟩,
  ⟨false, .other, 0, 0, false, [], none⟩,
  ⟨true, .string, 1, 16, false, [.string .empty], some [.str]⟩,
  ⟨false, .other, 0, 0, false, [], none⟩,
  ⟨false, .other, 0, 0, false, [], none⟩,
  ⟨true, .int .u64, 1, 8, false, [.int .u64 0], some [.int .u64]⟩,
  ⟨false, .other, 0, 0, false, [], none⟩,
  ⟨false, .other, 0, 0, false, [], none⟩,
  ⟨false, .other, 0, 0, false, [], none⟩,
  ⟨false, .other, 0, 0, false, [], none⟩,
  ⟨false, .other, 0, 0, false, [], none⟩,
  ⟨false, .other, 0, 0, false, [], none⟩,
  ⟨false, .other, 0, 0, false, [], none⟩,
  ⟨false, .other, 0, 0, false, [], none⟩,
  ⟨true, .int .i32, 1, 4, false, [.int .i32 0], some [.int .i32]⟩,
  ⟨true, .struct [(0, 3, 1), (1, 2, 1), (2, 3, 1), (3, 3, 1)], 4, 32, true, [.int .i64 0, .int .i64 0, .int .i64 0, .int .i64 0], some [.int .i64, .int .i64, .int .i64, .int .i64]⟩,
  ⟨true, .struct [(0, 3, 1), (1, 2, 1), (2, 3, 1), (3, 3, 1)], 4, 32, true, [.int .i64 0, .int .i64 0, .int .i64 0, .int .i64 0], some [.int .i64, .int .i64, .int .i64, .int .i64]⟩,
  ⟨true, .slice 3, 1, 24, false, [.slice none 0 0], none⟩,
  ⟨true, .int .i64, 1, 8, false, [.int .i64 0], some [.int .i64]⟩,
  ⟨false, .other, 0, 0, false, [], none⟩,
  ⟨false, .other, 0, 0, false, [], none⟩,
  ⟨false, .other, 0, 0, false, [], none⟩,
  ⟨false, .other, 0, 0, false, [], none⟩,
  ⟨false, .other, 0, 0, false, [], none⟩,
  ⟨false, .other, 0, 0, false, [], none⟩,
  ⟨false, .other, 0, 0, false, [], none⟩,
  ⟨false, .other, 0, 0, false, [], none⟩,
  ⟨false, .other, 0, 0, false, [], none⟩,
  ⟨false, .other, 0, 0, false, [], none⟩,
  ⟨false, .other, 0, 0, false, [], none⟩,
  ⟨false, .other, 0, 0, false, [], none⟩,
  ⟨true, .slice 44, 1, 24, false, [.slice none 0 0], none⟩,
  ⟨true, .ptr 63, 1, 8, false, [.pointer none], none⟩,
  ⟨false, .other, 0, 0, false, [], none⟩,
  ⟨true, .slice 5, 1, 24, false, [.slice none 0 0], none⟩,
  ⟨true, .slice 2, 1, 24, false, [.slice none 0 0], none⟩,
  ⟨true, .struct [(0, 3, 1), (1, 42, 1), (2, 9, 1), (3, 2, 1), (4, 2, 1), (5, 3, 1)], 6, 72, true, [.int .i64 0, .slice none 0 0, .string .empty, .int .i64 0, .int .i64 0, .int .i64 0], none⟩,
  ⟨true, .struct [(0, 3, 1), (1, 42, 1), (2, 9, 1), (3, 2, 1), (4, 2, 1), (5, 3, 1)], 6, 72, true, [.int .i64 0, .slice none 0 0, .string .empty, .int .i64 0, .int .i64 0, .int .i64 0], none⟩,
  ⟨false, .other, 0, 0, false, [], none⟩,
  ⟨false, .other, 0, 0, false, [], none⟩,
  ⟨false, .other, 0, 0, false, [], none⟩,
  ⟨false, .other, 0, 0, false, [], none⟩,
  ⟨false, .other, 0, 0, false, [], none⟩,
  ⟨false, .other, 0, 0, false, [], none⟩,
  ⟨false, .other, 0, 0, false, [], none⟩,
  ⟨false, .other, 0, 0, false, [], none⟩,
  ⟨false, .other, 0, 0, false, [], none⟩,
  ⟨false, .other, 0, 0, false, [], none⟩,
  ⟨true, .ptr 65, 1, 8, false, [.pointer none], none⟩,
  ⟨false, .other, 0, 0, false, [], none⟩,
  ⟨false, .other, 0, 0, false, [], none⟩,
  ⟨false, .other, 0, 0, false, [], none⟩,
  ⟨false, .other, 0, 0, false, [], none⟩,
  ⟨false, .other, 0, 0, false, [], none⟩,
  ⟨false, .other, 0, 0, false, [], none⟩,
  ⟨true, .struct [(0, 4, 1), (1, 41, 1)], 2, 32, true, [.bool false, .slice none 0 0], none⟩,
  ⟨true, .struct [(0, 4, 1), (1, 41, 1)], 2, 32, true, [.bool false, .slice none 0 0], none⟩,
  ⟨true, .struct [(0, 4, 1), (1, 41, 1), (2, 25, 1)], 3, 40, true, [.bool false, .slice none 0 0, .int .i64 0], none⟩,
  ⟨true, .struct [(0, 4, 1), (1, 41, 1), (2, 25, 1)], 3, 40, true, [.bool false, .slice none 0 0, .int .i64 0], none⟩,
  ⟨false, .other, 0, 0, false, [], none⟩,
  ⟨true, .slice 23, 1, 24, false, [.slice none 0 0], none⟩,
  ⟨true, .slice 152, 1, 24, false, [.slice none 0 0], none⟩,
  ⟨true, .slice 147, 1, 24, false, [.slice none 0 0], none⟩,
  ⟨true, .slice 149, 1, 24, false, [.slice none 0 0], none⟩,
  ⟨true, .slice 188, 1, 24, false, [.slice none 0 0], none⟩,
  ⟨true, .slice 154, 1, 24, false, [.slice none 0 0], none⟩,
  ⟨true, .slice 158, 1, 24, false, [.slice none 0 0], none⟩,
  ⟨true, .slice 221, 1, 24, false, [.slice none 0 0], none⟩,
  ⟨true, .slice 131, 1, 24, false, [.slice none 0 0], none⟩,
  ⟨true, .slice 224, 1, 24, false, [.slice none 0 0], none⟩,
  ⟨true, .struct [(0, 3, 1), (1, 67, 1), (2, 68, 1), (3, 69, 1), (4, 70, 1), (5, 71, 1), (6, 72, 1), (7, 73, 1), (8, 74, 1), (9, 74, 1), (10, 75, 1), (11, 76, 1)], 12, 272, true, [.int .i64 0, .slice none 0 0, .slice none 0 0, .slice none 0 0, .slice none 0 0, .slice none 0 0, .slice none 0 0, .slice none 0 0, .slice none 0 0, .slice none 0 0, .slice none 0 0, .slice none 0 0], none⟩,
  ⟨true, .struct [(0, 3, 1), (1, 67, 1), (2, 68, 1), (3, 69, 1), (4, 70, 1), (5, 71, 1), (6, 72, 1), (7, 73, 1), (8, 74, 1), (9, 74, 1), (10, 75, 1), (11, 76, 1)], 12, 272, true, [.int .i64 0, .slice none 0 0, .slice none 0 0, .slice none 0 0, .slice none 0 0, .slice none 0 0, .slice none 0 0, .slice none 0 0, .slice none 0 0, .slice none 0 0, .slice none 0 0, .slice none 0 0], none⟩,
  ⟨true, .slice 160, 1, 24, false, [.slice none 0 0], none⟩,
  ⟨false, .other, 0, 0, false, [], none⟩,
  ⟨false, .other, 0, 0, false, [], none⟩,
  ⟨false, .other, 0, 0, false, [], none⟩,
  ⟨false, .other, 0, 0, false, [], none⟩,
  ⟨true, .struct [(0, 3, 1), (1, 3, 1)], 2, 16, true, [.int .i64 0, .int .i64 0], some [.int .i64, .int .i64]⟩,
  ⟨true, .struct [(0, 3, 1), (1, 3, 1)], 2, 16, true, [.int .i64 0, .int .i64 0], some [.int .i64, .int .i64]⟩,
  ⟨true, .struct [(0, 4, 1), (1, 41, 1)], 2, 32, true, [.bool false, .slice none 0 0], none⟩,
  ⟨true, .struct [(0, 4, 1), (1, 41, 1)], 2, 32, true, [.bool false, .slice none 0 0], none⟩,
  ⟨false, .other, 0, 0, false, [], none⟩,
  ⟨false, .other, 0, 0, false, [], none⟩,
  ⟨false, .other, 0, 0, false, [], none⟩,
  ⟨false, .other, 0, 0, false, [], none⟩,
  ⟨true, .int .u64, 1, 8, false, [.int .u64 0], some [.int .u64]⟩,
  ⟨true, .struct [(0, 2, 1), (1, 92, 1)], 2, 16, true, [.int .i64 0, .int .u64 0], some [.int .i64, .int .u64]⟩,
  ⟨true, .struct [(0, 2, 1), (1, 92, 1)], 2, 16, true, [.int .i64 0, .int .u64 0], some [.int .i64, .int .u64]⟩,
  ⟨false, .other, 0, 0, false, [], none⟩,
  ⟨false, .other, 0, 0, false, [], none⟩,
  ⟨false, .other, 0, 0, false, [], none⟩,
  ⟨false, .other, 0, 0, false, [], none⟩,
  ⟨true, .slice 174, 1, 24, false, [.slice none 0 0], none⟩,
  ⟨false, .other, 0, 0, false, [], none⟩,
  ⟨false, .other, 0, 0, false, [], none⟩,
  ⟨false, .other, 0, 0, false, [], none⟩,
  ⟨false, .other, 0, 0, false, [], none⟩,
  ⟨true, .struct [(0, 3, 1), (1, 3, 1), (2, 3, 1), (3, 85, 2), (5, 85, 2), (7, 3, 1), (8, 3, 1), (9, 3, 1), (10, 3, 1), (11, 2, 1), (12, 2, 1), (13, 42, 1)], 14, 128, true, [.int .i64 0, .int .i64 0, .int .i64 0, .int .i64 0, .int .i64 0, .int .i64 0, .int .i64 0, .int .i64 0, .int .i64 0, .int .i64 0, .int .i64 0, .int .i64 0, .int .i64 0, .slice none 0 0], none⟩,
  ⟨true, .struct [(0, 3, 1), (1, 3, 1), (2, 3, 1), (3, 85, 2), (5, 85, 2), (7, 3, 1), (8, 3, 1), (9, 3, 1), (10, 3, 1), (11, 2, 1), (12, 2, 1), (13, 42, 1)], 14, 128, true, [.int .i64 0, .int .i64 0, .int .i64 0, .int .i64 0, .int .i64 0, .int .i64 0, .int .i64 0, .int .i64 0, .int .i64 0, .int .i64 0, .int .i64 0, .int .i64 0, .int .i64 0, .slice none 0 0], none⟩,
  ⟨false, .other, 0, 0, false, [], none⟩,
  ⟨false, .other, 0, 0, false, [], none⟩,
  ⟨false, .other, 0, 0, false, [], none⟩,
  ⟨false, .other, 0, 0, false, [], none⟩,
  ⟨false, .other, 0, 0, false, [], none⟩,
  ⟨false, .other, 0, 0, false, [], none⟩,
  ⟨false, .other, 0, 0, false, [], none⟩,
  ⟨false, .other, 0, 0, false, [], none⟩,
  ⟨false, .other, 0, 0, false, [], none⟩,
  ⟨false, .other, 0, 0, false, [], none⟩,
  ⟨false, .other, 0, 0, false, [], none⟩,
  ⟨false, .other, 0, 0, false, [], none⟩,
  ⟨false, .other, 0, 0, false, [], none⟩,
  ⟨false, .other, 0, 0, false, [], none⟩,
  ⟨true, .slice 163, 1, 24, false, [.slice none 0 0], none⟩,
  ⟨true, .struct [(0, 25, 1), (1, 42, 1), (2, 99, 1), (3, 120, 1)], 4, 80, true, [.int .i64 0, .slice none 0 0, .slice none 0 0, .slice none 0 0], none⟩,
  ⟨true, .struct [(0, 25, 1), (1, 42, 1), (2, 99, 1), (3, 120, 1)], 4, 80, true, [.int .i64 0, .slice none 0 0, .slice none 0 0, .slice none 0 0], none⟩,
  ⟨false, .other, 0, 0, false, [], none⟩,
  ⟨false, .other, 0, 0, false, [], none⟩,
  ⟨false, .other, 0, 0, false, [], none⟩,
  ⟨false, .other, 0, 0, false, [], none⟩,
  ⟨false, .other, 0, 0, false, [], none⟩,
  ⟨false, .other, 0, 0, false, [], none⟩,
  ⟨false, .other, 0, 0, false, [], none⟩,
  ⟨true, .struct [(0, 85, 2), (2, 2, 1)], 3, 24, true, [.int .i64 0, .int .i64 0, .int .i64 0], some [.int .i64, .int .i64, .int .i64]⟩,
  ⟨true, .struct [(0, 85, 2), (2, 2, 1)], 3, 24, true, [.int .i64 0, .int .i64 0, .int .i64 0], some [.int .i64, .int .i64, .int .i64]⟩,
  ⟨false, .other, 0, 0, false, [], none⟩,
  ⟨false, .other, 0, 0, false, [], none⟩,
  ⟨false, .other, 0, 0, false, [], none⟩,
  ⟨false, .other, 0, 0, false, [], none⟩,
  ⟨false, .other, 0, 0, false, [], none⟩,
  ⟨false, .other, 0, 0, false, [], none⟩,
  ⟨false, .other, 0, 0, false, [], none⟩,
  ⟨false, .other, 0, 0, false, [], none⟩,
  ⟨false, .other, 0, 0, false, [], none⟩,
  ⟨false, .other, 0, 0, false, [], none⟩,
  ⟨false, .other, 0, 0, false, [], none⟩,
  ⟨false, .other, 0, 0, false, [], none⟩,
  ⟨false, .other, 0, 0, false, [], none⟩,
  ⟨false, .other, 0, 0, false, [], none⟩,
  ⟨true, .struct [(0, 3, 1), (1, 2, 1), (2, 2, 1)], 3, 24, true, [.int .i64 0, .int .i64 0, .int .i64 0], some [.int .i64, .int .i64, .int .i64]⟩,
  ⟨true, .struct [(0, 3, 1), (1, 2, 1), (2, 2, 1)], 3, 24, true, [.int .i64 0, .int .i64 0, .int .i64 0], some [.int .i64, .int .i64, .int .i64]⟩,
  ⟨true, .struct [(0, 3, 1), (1, 3, 1), (2, 3, 1), (3, 24, 1)], 4, 48, true, [.int .i64 0, .int .i64 0, .int .i64 0, .slice none 0 0], none⟩,
  ⟨true, .struct [(0, 3, 1), (1, 3, 1), (2, 3, 1), (3, 24, 1)], 4, 48, true, [.int .i64 0, .int .i64 0, .int .i64 0, .slice none 0 0], none⟩,
  ⟨false, .other, 0, 0, false, [], none⟩,
  ⟨true, .struct [(0, 3, 1), (1, 2, 1), (2, 2, 1), (3, 2, 1), (4, 42, 1)], 5, 56, true, [.int .i64 0, .int .i64 0, .int .i64 0, .int .i64 0, .slice none 0 0], none⟩,
  ⟨true, .struct [(0, 3, 1), (1, 2, 1), (2, 2, 1), (3, 2, 1), (4, 42, 1)], 5, 56, true, [.int .i64 0, .int .i64 0, .int .i64 0, .int .i64 0, .slice none 0 0], none⟩,
  ⟨true, .struct [(0, 3, 1), (1, 85, 2), (3, 3, 1), (4, 2, 1), (5, 2, 1)], 6, 48, true, [.int .i64 0, .int .i64 0, .int .i64 0, .int .i64 0, .int .i64 0, .int .i64 0], some [.int .i64, .int .i64, .int .i64, .int .i64, .int .i64, .int .i64]⟩,
  ⟨true, .struct [(0, 3, 1), (1, 85, 2), (3, 3, 1), (4, 2, 1), (5, 2, 1)], 6, 48, true, [.int .i64 0, .int .i64 0, .int .i64 0, .int .i64 0, .int .i64 0, .int .i64 0], some [.int .i64, .int .i64, .int .i64, .int .i64, .int .i64, .int .i64]⟩,
  ⟨true, .struct [(0, 3, 1), (1, 2, 1)], 2, 16, true, [.int .i64 0, .int .i64 0], some [.int .i64, .int .i64]⟩,
  ⟨true, .struct [(0, 3, 1), (1, 2, 1)], 2, 16, true, [.int .i64 0, .int .i64 0], some [.int .i64, .int .i64]⟩,
  ⟨true, .struct [(0, 3, 1), (1, 85, 2), (3, 85, 2), (5, 156, 2), (7, 2, 1), (8, 3, 1), (9, 3, 1), (10, 3, 1)], 11, 88, true, [.int .i64 0, .int .i64 0, .int .i64 0, .int .i64 0, .int .i64 0, .int .i64 0, .int .i64 0, .int .i64 0, .int .i64 0, .int .i64 0, .int .i64 0], some [.int .i64, .int .i64, .int .i64, .int .i64, .int .i64, .int .i64, .int .i64, .int .i64, .int .i64, .int .i64, .int .i64]⟩,
  ⟨true, .struct [(0, 3, 1), (1, 85, 2), (3, 85, 2), (5, 156, 2), (7, 2, 1), (8, 3, 1), (9, 3, 1), (10, 3, 1)], 11, 88, true, [.int .i64 0, .int .i64 0, .int .i64 0, .int .i64 0, .int .i64 0, .int .i64 0, .int .i64 0, .int .i64 0, .int .i64 0, .int .i64 0, .int .i64 0], some [.int .i64, .int .i64, .int .i64, .int .i64, .int .i64, .int .i64, .int .i64, .int .i64, .int .i64, .int .i64, .int .i64]⟩,
  ⟨true, .struct [(0, 105, 14), (14, 122, 4)], 18, 208, true, [.int .i64 0, .int .i64 0, .int .i64 0, .int .i64 0, .int .i64 0, .int .i64 0, .int .i64 0, .int .i64 0, .int .i64 0, .int .i64 0, .int .i64 0, .int .i64 0, .int .i64 0, .slice none 0 0, .int .i64 0, .slice none 0 0, .slice none 0 0, .slice none 0 0], none⟩,
  ⟨true, .struct [(0, 105, 14), (14, 122, 4)], 18, 208, true, [.int .i64 0, .int .i64 0, .int .i64 0, .int .i64 0, .int .i64 0, .int .i64 0, .int .i64 0, .int .i64 0, .int .i64 0, .int .i64 0, .int .i64 0, .int .i64 0, .int .i64 0, .slice none 0 0, .int .i64 0, .slice none 0 0, .slice none 0 0, .slice none 0 0], none⟩,
  ⟨true, .slice 200, 1, 24, false, [.slice none 0 0], none⟩,
  ⟨true, .struct [(0, 85, 2), (2, 2, 1), (3, 161, 1)], 4, 48, true, [.int .i64 0, .int .i64 0, .int .i64 0, .slice none 0 0], none⟩,
  ⟨true, .struct [(0, 85, 2), (2, 2, 1), (3, 161, 1)], 4, 48, true, [.int .i64 0, .int .i64 0, .int .i64 0, .slice none 0 0], none⟩,
  ⟨false, .other, 0, 0, false, [], none⟩,
  ⟨false, .other, 0, 0, false, [], none⟩,
  ⟨false, .other, 0, 0, false, [], none⟩,
  ⟨false, .other, 0, 0, false, [], none⟩,
  ⟨false, .other, 0, 0, false, [], none⟩,
  ⟨false, .other, 0, 0, false, [], none⟩,
  ⟨false, .other, 0, 0, false, [], none⟩,
  ⟨false, .other, 0, 0, false, [], none⟩,
  ⟨false, .other, 0, 0, false, [], none⟩,
  ⟨true, .struct [(0, 85, 2), (2, 85, 2), (4, 2, 1)], 5, 40, true, [.int .i64 0, .int .i64 0, .int .i64 0, .int .i64 0, .int .i64 0], some [.int .i64, .int .i64, .int .i64, .int .i64, .int .i64]⟩,
  ⟨true, .struct [(0, 85, 2), (2, 85, 2), (4, 2, 1)], 5, 40, true, [.int .i64 0, .int .i64 0, .int .i64 0, .int .i64 0, .int .i64 0], some [.int .i64, .int .i64, .int .i64, .int .i64, .int .i64]⟩,
  ⟨false, .other, 0, 0, false, [], none⟩,
  ⟨true, .ptr 179, 1, 8, false, [.pointer none], none⟩,
  ⟨true, .slice 94, 1, 24, false, [.slice none 0 0], none⟩,
  ⟨true, .struct [(0, 177, 1)], 1, 24, true, [.slice none 0 0], none⟩,
  ⟨true, .struct [(0, 177, 1)], 1, 24, true, [.slice none 0 0], none⟩,
  ⟨false, .other, 0, 0, false, [], none⟩,
  ⟨false, .other, 0, 0, false, [], none⟩,
  ⟨false, .other, 0, 0, false, [], none⟩,
  ⟨false, .other, 0, 0, false, [], none⟩,
  ⟨false, .other, 0, 0, false, [], none⟩,
  ⟨false, .other, 0, 0, false, [], none⟩,
  ⟨false, .other, 0, 0, false, [], none⟩,
  ⟨true, .struct [(0, 85, 2), (2, 85, 2), (4, 4, 1)], 5, 40, true, [.int .i64 0, .int .i64 0, .int .i64 0, .int .i64 0, .bool false], some [.int .i64, .int .i64, .int .i64, .int .i64, .bool]⟩,
  ⟨true, .struct [(0, 85, 2), (2, 85, 2), (4, 4, 1)], 5, 40, true, [.int .i64 0, .int .i64 0, .int .i64 0, .int .i64 0, .bool false], some [.int .i64, .int .i64, .int .i64, .int .i64, .bool]⟩,
  ⟨false, .other, 0, 0, false, [], none⟩,
  ⟨false, .other, 0, 0, false, [], none⟩,
  ⟨false, .other, 0, 0, false, [], none⟩,
  ⟨false, .other, 0, 0, false, [], none⟩,
  ⟨true, .ptr 195, 1, 8, false, [.pointer none], none⟩,
  ⟨true, .struct [(0, 41, 1), (1, 3, 1)], 2, 32, true, [.slice none 0 0, .int .i64 0], none⟩,
  ⟨true, .struct [(0, 41, 1), (1, 3, 1)], 2, 32, true, [.slice none 0 0, .int .i64 0], none⟩,
  ⟨false, .other, 0, 0, false, [], none⟩,
  ⟨false, .other, 0, 0, false, [], none⟩,
  ⟨false, .other, 0, 0, false, [], none⟩,
  ⟨true, .struct [(0, 3, 1), (1, 3, 1), (2, 2, 1)], 3, 24, true, [.int .i64 0, .int .i64 0, .int .i64 0], some [.int .i64, .int .i64, .int .i64]⟩,
  ⟨true, .struct [(0, 3, 1), (1, 3, 1), (2, 2, 1)], 3, 24, true, [.int .i64 0, .int .i64 0, .int .i64 0], some [.int .i64, .int .i64, .int .i64]⟩,
  ⟨false, .other, 0, 0, false, [], none⟩,
  ⟨false, .other, 0, 0, false, [], none⟩,
  ⟨false, .other, 0, 0, false, [], none⟩,
  ⟨false, .other, 0, 0, false, [], none⟩,
  ⟨false, .other, 0, 0, false, [], none⟩,
  ⟨false, .other, 0, 0, false, [], none⟩,
  ⟨false, .other, 0, 0, false, [], none⟩,
  ⟨false, .other, 0, 0, false, [], none⟩,
  ⟨true, .slice 85, 1, 24, false, [.slice none 0 0], none⟩,
  ⟨false, .other, 0, 0, false, [], none⟩,
  ⟨false, .other, 0, 0, false, [], none⟩,
  ⟨false, .other, 0, 0, false, [], none⟩,
  ⟨false, .other, 0, 0, false, [], none⟩,
  ⟨false, .other, 0, 0, false, [], none⟩,
  ⟨false, .other, 0, 0, false, [], none⟩,
  ⟨false, .other, 0, 0, false, [], none⟩,
  ⟨false, .other, 0, 0, false, [], none⟩,
  ⟨true, .int .u64, 1, 8, false, [.int .u64 0], some [.int .u64]⟩,
  ⟨true, .slice 156, 1, 24, false, [.slice none 0 0], none⟩,
  ⟨true, .struct [(0, 85, 2), (2, 219, 1)], 3, 40, true, [.int .i64 0, .int .i64 0, .slice none 0 0], none⟩,
  ⟨true, .struct [(0, 85, 2), (2, 219, 1)], 3, 40, true, [.int .i64 0, .int .i64 0, .slice none 0 0], none⟩,
  ⟨false, .other, 0, 0, false, [], none⟩,
  ⟨true, .struct [(0, 85, 2), (2, 161, 1)], 3, 40, true, [.int .i64 0, .int .i64 0, .slice none 0 0], none⟩,
  ⟨true, .struct [(0, 85, 2), (2, 161, 1)], 3, 40, true, [.int .i64 0, .int .i64 0, .slice none 0 0], none⟩,
  ⟨false, .other, 0, 0, false, [], none⟩,
  ⟨false, .other, 0, 0, false, [], none⟩,
  ⟨false, .other, 0, 0, false, [], none⟩,
  ⟨false, .other, 0, 0, false, [], none⟩,
  ⟨false, .other, 0, 0, false, [], none⟩,
  ⟨false, .other, 0, 0, false, [], none⟩,
  ⟨false, .other, 0, 0, false, [], none⟩,
  ⟨false, .other, 0, 0, false, [], none⟩,
  ⟨false, .other, 0, 0, false, [], none⟩,
  ⟨false, .other, 0, 0, false, [], none⟩,
  ⟨false, .other, 0, 0, false, [], none⟩,
  ⟨false, .other, 0, 0, false, [], none⟩,
  ⟨true, .ptr 105, 1, 8, false, [.pointer none], none⟩,
  ⟨false, .other, 0, 0, false, [], none⟩,
  ⟨false, .other, 0, 0, false, [], none⟩,
  ⟨false, .other, 0, 0, false, [], none⟩,
  ⟨true, .slice 75, 1, 24, false, [.slice none 0 0], none⟩,
  ⟨false, .other, 0, 0, false, [], none⟩,
  ⟨true, .map 85 4, 1, 8, false, [.map none], none⟩,
  ⟨false, .other, 0, 0, false, [], none⟩,
  ⟨false, .other, 0, 0, false, [], none⟩,
  ⟨false, .other, 0, 0, false, [], none⟩,
  ⟨false, .other, 0, 0, false, [], none⟩,
  ⟨true, .struct [(0, 2, 1), (1, 94, 2)], 3, 24, true, [.int .i64 0, .int .i64 0, .int .u64 0], some [.int .i64, .int .i64, .int .u64]⟩,
  ⟨true, .struct [(0, 2, 1), (1, 94, 2)], 3, 24, true, [.int .i64 0, .int .i64 0, .int .u64 0], some [.int .i64, .int .i64, .int .u64]⟩,
  ⟨false, .other, 0, 0, false, [], none⟩,
  ⟨false, .other, 0, 0, false, [], none⟩,
  ⟨false, .other, 0, 0, false, [], none⟩,
  ⟨false, .other, 0, 0, false, [], none⟩,
  ⟨true, .struct [(0, 92, 1), (1, 92, 1)], 2, 16, true, [.int .u64 0, .int .u64 0], some [.int .u64, .int .u64]⟩,
  ⟨true, .struct [(0, 92, 1), (1, 92, 1)], 2, 16, true, [.int .u64 0, .int .u64 0], some [.int .u64, .int .u64]⟩,
  ⟨false, .other, 0, 0, false, [], none⟩,
  ⟨false, .other, 0, 0, false, [], none⟩,
  ⟨false, .other, 0, 0, false, [], none⟩,
  ⟨false, .other, 0, 0, false, [], none⟩,
  ⟨false, .other, 0, 0, false, [], none⟩,
  ⟨false, .other, 0, 0, false, [], none⟩,
  ⟨true, .ptr 249, 1, 8, false, [.pointer none], none⟩,
  ⟨false, .other, 0, 0, false, [], none⟩,
  ⟨false, .other, 0, 0, false, [], none⟩,
  ⟨false, .other, 0, 0, false, [], none⟩,
  ⟨true, .int .i64, 1, 8, false, [.int .i64 0], some [.int .i64]⟩,
  ⟨false, .other, 0, 0, false, [], none⟩,
  ⟨false, .other, 0, 0, false, [], none⟩,
  ⟨false, .other, 0, 0, false, [], none⟩,
  ⟨false, .other, 0, 0, false, [], none⟩,
  ⟨false, .other, 0, 0, false, [], none⟩,
  ⟨false, .other, 0, 0, false, [], none⟩,
  ⟨false, .other, 0, 0, false, [], none⟩,
  ⟨true, .int .u32, 1, 4, false, [.int .u32 0], some [.int .u32]⟩,
  ⟨false, .other, 0, 0, false, [], none⟩,
  ⟨true, .int .u64, 1, 8, false, [.int .u64 0], some [.int .u64]⟩,
  ⟨false, .other, 0, 0, false, [], none⟩,
  ⟨false, .other, 0, 0, false, [], none⟩,
  ⟨false, .other, 0, 0, false, [], none⟩,
  ⟨true, .ptr 3, 1, 8, false, [.pointer none], none⟩,
  ⟨false, .other, 0, 0, false, [], none⟩,
  ⟨true, .ptr 276, 1, 8, false, [.pointer none], none⟩,
  ⟨false, .other, 0, 0, false, [], none⟩,
  ⟨false, .other, 0, 0, false, [], none⟩,
  ⟨false, .other, 0, 0, false, [], none⟩,
  ⟨false, .other, 0, 0, false, [], none⟩,
  ⟨false, .other, 0, 0, false, [], none⟩,
  ⟨false, .other, 0, 0, false, [], none⟩,
  ⟨false, .other, 0, 0, false, [], none⟩,
  ⟨false, .other, 0, 0, false, [], none⟩,
  ⟨false, .other, 0, 0, false, [], none⟩,
  ⟨false, .other, 0, 0, false, [], none⟩,
  ⟨false, .other, 0, 0, false, [], none⟩,
  ⟨true, .ptr 5, 1, 8, false, [.pointer none], none⟩,
  ⟨false, .other, 0, 0, false, [], none⟩,
  ⟨false, .other, 0, 0, false, [], none⟩,
  ⟨false, .other, 0, 0, false, [], none⟩,
  ⟨false, .other, 0, 0, false, [], none⟩,
  ⟨false, .other, 0, 0, false, [], none⟩]

theorem tab_ok : TableOk Try.prog tab := tableOk_of (by kernel_rfl)
end Go.Proofs.Ytnldhkhnfodplaa

namespace Go.Proofs.Ytnldhkhnfodplaa
open Go Go.Vc Go.RowKit
theorem mixedP : Try.prog.follows .mixedOrders = true := by decide +kernel
theorem es_ok {f : FuncId} {fn : Func} {c : Code} {A : DT} {Q : QT} (F : Wd → A.den → Option Q.den) (C : ESs) (hC : ESsOk Try.prog C) (O : DTs) (JC JL : List (Nat × DJ))
    (hf : Try.prog.funcs[f]? = some fn) (hb : fn.body = some c) (hn : (fn.name == "runtime.NumGoroutine") = false) (hl : loopsOk (cuts (JC.map (·.1))) c = true) (hq : Q.ok = true)
    (h : ∀ W x, evF W tab C O JC JL fn A Q x = F W x) : ECok Try.prog f (.es ⟨A, Q, F stdW⟩) :=
  ⟨hq, fun x q hx => evF_ct tab_ok hC mixedP hf hb hn hl fun _ => (h stdW x).trans hx⟩
theorem ls_ok {f : FuncId} {fn : Func} {c : Code} {A : List PK} {B E : List BK} {Q : LQT} (F : Wd → (pkT A (inT A B)).den → Option (Q.den × (bkT E .unit).den)) (C : ESs) (hC : ESsOk Try.prog C) (O : DTs) (JC JL : List (Nat × DJ))
    (hf : Try.prog.funcs[f]? = some fn) (hb : fn.body = some c) (hn : (fn.name == "runtime.NumGoroutine") = false) (hl : loopsOk (cuts (JC.map (·.1))) c = true) (hq : Q.ok = true) (hBE : tysE B E = true) (hB : (B.all fun B => B.cells.all CK.cok) = true) (hE : (E.all fun B => B.cells.all CK.cok) = true)
    (h : ∀ W z, evFL W tab C O JC JL fn A B E Q z = F W z) : ECok Try.prog f (.ls ⟨A, B, E, Q, F stdW⟩) :=
  ⟨hq, hBE, hE, fun z o hz => evFL_ct tab_ok hC mixedP hf hb hn hl hBE hB ((h stdW z).trans hz)⟩
end Go.Proofs.Ytnldhkhnfodplaa

namespace Go.Vc
open Go Go.RowKit
end Go.Vc
namespace Go.Proofs.Ytnldhkhnfodplaa
open Go Go.Vc Go.RowKit
end Go.Proofs.Ytnldhkhnfodplaa

namespace Go.Proofs.Ytnldhkhnfodplaa
open Go Go.Vc Go.RowKit
set_option maxRecDepth 100000
@[reducible] def tAUnit : DT := (.pair (.int .i64) (.pair (.int .i64) .unit))
abbrev AUnit' := Int × Int × Unit
@[reducible] def tACommand : DT := (.pair (.int .i64) (.pair (.int .i64) (.pair (.int .i64) (.pair tAUnit (.pair tAUnit (.pair (.int .i64) (.pair (.int .i64) (.pair (.int .i64) (.pair (.int .i64) (.pair (.int .i64) (.pair (.int .i64) (.pair (.slc (.int .i64)) .unit))))))))))))
abbrev ACommand' := Int × Int × Int × AUnit' × AUnit' × Int × Int × Int × Int × Int × Int × (List Int) × Unit
noncomputable def ref01_CutW (W : Wd) (b : List Int) (n : Int) : Option (List Int) := 
 W.cnd (decide (n < (b.length : Int))) (W.bnd n b.length fun h1 => some (b.take h1))
  (some b)
noncomputable def ref01_Cut (b : List Int) (n : Int) : Option (List Int) := ref01_CutW stdW b n
noncomputable def ref01_Cut_s : ES := ⟨(.pair (.slc (.int .u8)) (.pair (.int .i64) .unit)), (.v (.slc (.int .u8))), fun x => ref01_Cut x.1 x.2.1⟩
theorem ref01_Cut_ok : ECok Try.prog 35 (.es ref01_Cut_s)   := es_ok (A := (.pair (.slc (.int .u8)) (.pair (.int .i64) .unit))) (Q := (.v (.slc (.int .u8)))) (fun W x => ref01_CutW W x.1 x.2.1) [] trivial [] [] [] Try.func35 rfl (by decide +kernel) rfl rfl (fun W x => by kernel_rfl)
noncomputable def slices_Clonebyte_byteW (W : Wd) (s : List Int) : Option (List Int) := W.nilq (List.isEmpty s) fun g1 => 
 W.cnd (Go.Vc.notIf false g1) (some [])
  (W.room ((0 : Nat) + s.length) 1 (some ([] ++ s)))
noncomputable def slices_Clonebyte_byte (s : List Int) : Option (List Int) := slices_Clonebyte_byteW stdW s
noncomputable def slices_Clonebyte_byte_s : ES := ⟨(.pair (.slc (.int .u8)) .unit), (.own 5 (.int .u8)), fun x => slices_Clonebyte_byte x.1⟩
theorem slices_Clonebyte_byte_ok : ECok Try.prog 86 (.es slices_Clonebyte_byte_s)   := es_ok (A := (.pair (.slc (.int .u8)) .unit)) (Q := (.own 5 (.int .u8))) (fun W x => slices_Clonebyte_byteW W x.1) [] trivial [] [] [] Try.func86 rfl (by decide +kernel) rfl rfl (fun W x => by kernel_rfl)
noncomputable def pack_OpenW (W : Wd) (b : List Int) : Option ((Bool × (List Int) × Int × Unit) × (Unit)) := W.call (slices_Clonebyte_byte b) fun v1 => some ((true, (v1, (0, ()))), ())
noncomputable def pack_Open (b : List Int) : Option ((Bool × (List Int) × Int × Unit) × (Unit)) := pack_OpenW stdW b
noncomputable def pack_Open_s : LS := ⟨[.v (.slc (.int .u8))], [], [], (.obj ⟨65, [.v .bool, .v (.slc (.int .u8)), .v (.int .i64)]⟩), fun x => pack_Open x.1⟩
theorem pack_Open_ok : ECok Try.prog 36 (.ls pack_Open_s)   := ls_ok (A := [.v (.slc (.int .u8))]) (B := []) (E := []) (Q := (.obj ⟨65, [.v .bool, .v (.slc (.int .u8)), .v (.int .i64)]⟩)) (fun W x => pack_OpenW W x.1) [(86, .es slices_Clonebyte_byte_s)] ⟨slices_Clonebyte_byte_ok, trivial⟩ [] [] [] Try.func36 rfl (by decide +kernel) rfl rfl rfl rfl rfl (fun W x => by kernel_rfl)
noncomputable def pack_Reader_goodW (W : Wd) (r0 : Bool) (r1 : List Int) (r2 : Int) : Option (Bool × (Bool × (List Int) × Int × Unit)) := 
 W.cnd r0 (some ((r2 == 0), (r0, (r1, (r2, ())))))
  (some (false, (r0, (r1, (r2, ())))))
noncomputable def pack_Reader_good (r0 : Bool) (r1 : List Int) (r2 : Int) : Option (Bool × (Bool × (List Int) × Int × Unit)) := pack_Reader_goodW stdW r0 r1 r2
noncomputable def pack_Reader_good_s : LS := ⟨[.ptr], [⟨65, [.v .bool, .v (.slc (.int .u8)), .v (.int .i64)]⟩], [⟨65, [.v .bool, .v (.slc (.int .u8)), .v (.int .i64)]⟩], (.q (.v .bool)), fun x => pack_Reader_good x.1 x.2.1 x.2.2.1⟩
theorem pack_Reader_good_ok : ECok Try.prog 87 (.ls pack_Reader_good_s)   := ls_ok (A := [.ptr]) (B := [⟨65, [.v .bool, .v (.slc (.int .u8)), .v (.int .i64)]⟩]) (E := [⟨65, [.v .bool, .v (.slc (.int .u8)), .v (.int .i64)]⟩]) (Q := (.q (.v .bool))) (fun W x => pack_Reader_goodW W x.1 x.2.1 x.2.2.1) [] trivial [] [] [] Try.func87 rfl (by decide +kernel) rfl rfl rfl rfl rfl (fun W x => by kernel_rfl)
noncomputable def pack_Reader_failW (W : Wd) (e : Int) (r0 : Bool) (r1 : List Int) (r2 : Int) : Option (Unit × (Bool × (List Int) × Int × Unit)) := some ((), (r0, ([], (e, ()))))
noncomputable def pack_Reader_fail (e : Int) (r0 : Bool) (r1 : List Int) (r2 : Int) : Option (Unit × (Bool × (List Int) × Int × Unit)) := pack_Reader_failW stdW e r0 r1 r2
noncomputable def pack_Reader_fail_s : LS := ⟨[.ptr, .v (.int .i64)], [⟨65, [.v .bool, .v (.slc (.int .u8)), .v (.int .i64)]⟩], [⟨65, [.v .bool, .v (.slc (.int .u8)), .v (.int .i64)]⟩], (.q .unit), fun x => pack_Reader_fail x.1 x.2.1 x.2.2.1 x.2.2.2.1⟩
theorem pack_Reader_fail_ok : ECok Try.prog 90 (.ls pack_Reader_fail_s)   := ls_ok (A := [.ptr, .v (.int .i64)]) (B := [⟨65, [.v .bool, .v (.slc (.int .u8)), .v (.int .i64)]⟩]) (E := [⟨65, [.v .bool, .v (.slc (.int .u8)), .v (.int .i64)]⟩]) (Q := (.q .unit)) (fun W x => pack_Reader_failW W x.1 x.2.1 x.2.2.1 x.2.2.2.1) [] trivial [] [] [] Try.func90 rfl (by decide +kernel) rfl rfl rfl rfl rfl (fun W x => by kernel_rfl)
noncomputable def pack_Reader_numberW (W : Wd) (r0 : Bool) (r1 : List Int) (r2 : Int) : Option ((Int × Bool × Unit) × (Bool × (List Int) × Int × Unit)) := 
 W.loop (fun (z1 : Int × Int × Bool × List (Int) × Int × Unit) again2 => 
  W.cnd ((z1.2.2.2.1.length : Int) == 0) (W.call (pack_Reader_fail 4 z1.2.2.1 z1.2.2.2.1 z1.2.2.2.2.1) fun v3 => some ((0, (false, ())), (v3.2.1, (v3.2.2.1, v3.2.2.2))))
   (W.idx z1.2.2.2.1 0 fun x4 => W.bnd 1 z1.2.2.2.1.length fun h5 => 
   W.join (fun (z6 : Bool × Unit) => 
    W.cnd z6.1 (W.call (pack_Reader_fail 3 z1.2.2.1 ((z1.2.2.2.1.take z1.2.2.2.1.length).drop h5) z1.2.2.2.2.1) fun v7 => some ((0, (false, ())), (v7.2.1, (v7.2.2.1, v7.2.2.2))))
     (W.nn z1.2.1 (
     W.cnd (decide (x4 < 128)) (some (((Go.bits Go.BinOp.or Go.IntKind.u64 z1.1 (IntKind.u64.wrap ((IntKind.u64.wrap (Go.bits Go.BinOp.and Go.IntKind.u8 x4 127)) * (2 ^ (Min.min (Int.toNat z1.2.1) (Go.IntKind.bits Go.IntKind.u64)))))), (true, ())), (z1.2.2.1, (((z1.2.2.2.1.take z1.2.2.2.1.length).drop h5), z1.2.2.2.2))))
      ((again2 ((Go.bits Go.BinOp.or Go.IntKind.u64 z1.1 (IntKind.u64.wrap ((IntKind.u64.wrap (Go.bits Go.BinOp.and Go.IntKind.u8 x4 127)) * (2 ^ (Min.min (Int.toNat z1.2.1) (Go.IntKind.bits Go.IntKind.u64)))))), ((IntKind.i64.wrap (z1.2.1 + 7)), (z1.2.2.1, (((z1.2.2.2.1.take z1.2.2.2.1.length).drop h5), z1.2.2.2.2)))))))))
    fun k8 => 
    W.cnd (decide (63 < z1.2.1)) ((k8 (true, ())))
     (
     W.cnd (z1.2.1 == 63) (
      W.cnd (decide (1 < x4)) ((k8 (true, ())))
       (
       W.cnd (x4 == 0) ((k8 ((decide (0 < z1.2.1)), ())))
        ((k8 (false, ())))))
      (
      W.cnd (x4 == 0) ((k8 ((decide (0 < z1.2.1)), ())))
       ((k8 (false, ())))))))
  (0, (0, (r0, (r1, (r2, ())))))
noncomputable def pack_Reader_number (r0 : Bool) (r1 : List Int) (r2 : Int) : Option ((Int × Bool × Unit) × (Bool × (List Int) × Int × Unit)) := pack_Reader_numberW stdW r0 r1 r2
noncomputable def pack_Reader_number_s : LS := ⟨[.ptr], [⟨65, [.v .bool, .v (.slc (.int .u8)), .v (.int .i64)]⟩], [⟨65, [.v .bool, .v (.slc (.int .u8)), .v (.int .i64)]⟩], (.q (.pair (.v (.int .u64)) (.pair (.v .bool) .unit))), fun x => pack_Reader_number x.1 x.2.1 x.2.2.1⟩
theorem pack_Reader_number_ok : ECok Try.prog 88 (.ls pack_Reader_number_s)   := ls_ok (A := [.ptr]) (B := [⟨65, [.v .bool, .v (.slc (.int .u8)), .v (.int .i64)]⟩]) (E := [⟨65, [.v .bool, .v (.slc (.int .u8)), .v (.int .i64)]⟩]) (Q := (.q (.pair (.v (.int .u64)) (.pair (.v .bool) .unit)))) (fun W x => pack_Reader_numberW W x.1 x.2.1 x.2.2.1) [(90, .ls pack_Reader_fail_s)] ⟨pack_Reader_fail_ok, trivial⟩ [] [(500048, ⟨[(48, .t .bool)], [], []⟩)] [(4, ⟨[(4, .t (.int .u64)), (5, .t (.int .i64))], [(0, [.t .bool, .t (.slc (.int .u8)), .t (.int .i64)])], []⟩)] Try.func88 rfl (by decide +kernel) rfl rfl rfl rfl rfl (fun W x => by kernel_rfl)
noncomputable def pack_unfoldedW (W : Wd) (u : Int) : Option Int := W.nn 1 (some (Go.bits Go.BinOp.xor Go.IntKind.i64 (IntKind.i64.wrap (Int.fdiv u (2 ^ (Min.min (Int.toNat 1) (Go.IntKind.bits Go.IntKind.u64))))) (IntKind.i64.wrap (0 - (IntKind.i64.wrap (Go.bits Go.BinOp.and Go.IntKind.u64 u 1))))))
noncomputable def pack_unfolded (u : Int) : Option Int := pack_unfoldedW stdW u
noncomputable def pack_unfolded_s : ES := ⟨(.pair (.int .u64) .unit), (.v (.int .i64)), fun x => pack_unfolded x.1⟩
theorem pack_unfolded_ok : ECok Try.prog 89 (.es pack_unfolded_s)   := es_ok (A := (.pair (.int .u64) .unit)) (Q := (.v (.int .i64))) (fun W x => pack_unfoldedW W x.1) [] trivial [] [] [] Try.func89 rfl (by decide +kernel) rfl rfl (fun W x => by kernel_rfl)
noncomputable def pack_Reader_IntW (W : Wd) (lo : Int) (hi : Int) (r0 : Bool) (r1 : List Int) (r2 : Int) : Option (Int × (Bool × (List Int) × Int × Unit)) := W.call (pack_Reader_good r0 r1 r2) fun v1 => 
 W.cnd (!v1.1) (some (0, (v1.2.1, (v1.2.2.1, v1.2.2.2))))
  (W.call (pack_Reader_number v1.2.1 v1.2.2.1 v1.2.2.2.1) fun v2 => W.call (pack_unfolded v2.1.1) fun v3 => 
  W.cnd (!v2.1.2.1) (some (0, (v2.2.1, (v2.2.2.1, v2.2.2.2))))
   (
   W.join (fun (z4 : Bool × Unit) => 
    W.cnd z4.1 (W.call (pack_Reader_fail 7 v2.2.1 v2.2.2.1 v2.2.2.2.1) fun v5 => some (0, (v5.2.1, (v5.2.2.1, v5.2.2.2))))
     (some (v3, (v2.2.1, (v2.2.2.1, v2.2.2.2)))))
    fun k6 => 
    W.cnd (decide (v3 < lo)) ((k6 (true, ())))
     ((k6 ((decide (hi < v3)), ())))))
noncomputable def pack_Reader_Int (lo : Int) (hi : Int) (r0 : Bool) (r1 : List Int) (r2 : Int) : Option (Int × (Bool × (List Int) × Int × Unit)) := pack_Reader_IntW stdW lo hi r0 r1 r2
noncomputable def pack_Reader_Int_s : LS := ⟨[.ptr, .v (.int .i64), .v (.int .i64)], [⟨65, [.v .bool, .v (.slc (.int .u8)), .v (.int .i64)]⟩], [⟨65, [.v .bool, .v (.slc (.int .u8)), .v (.int .i64)]⟩], (.q (.v (.int .i64))), fun x => pack_Reader_Int x.1 x.2.1 x.2.2.1 x.2.2.2.1 x.2.2.2.2.1⟩
theorem pack_Reader_Int_ok : ECok Try.prog 37 (.ls pack_Reader_Int_s)   := ls_ok (A := [.ptr, .v (.int .i64), .v (.int .i64)]) (B := [⟨65, [.v .bool, .v (.slc (.int .u8)), .v (.int .i64)]⟩]) (E := [⟨65, [.v .bool, .v (.slc (.int .u8)), .v (.int .i64)]⟩]) (Q := (.q (.v (.int .i64)))) (fun W x => pack_Reader_IntW W x.1 x.2.1 x.2.2.1 x.2.2.2.1 x.2.2.2.2.1) [(87, .ls pack_Reader_good_s), (88, .ls pack_Reader_number_s), (89, .es pack_unfolded_s), (90, .ls pack_Reader_fail_s)] ⟨pack_Reader_good_ok, pack_Reader_number_ok, pack_unfolded_ok, pack_Reader_fail_ok, trivial⟩ [] [(500023, ⟨[(23, .t .bool)], [], []⟩)] [] Try.func37 rfl (by decide +kernel) rfl rfl rfl rfl rfl (fun W x => by kernel_rfl)
noncomputable def cmd_smallW (W : Wd) (to_ : Int) (r0 : Bool) (r1 : List Int) (r2 : Int) : Option (Int × (Bool × (List Int) × Int × Unit)) := W.call (pack_Reader_Int 0 to_ r0 r1 r2) fun v1 => some (v1.1, (v1.2.1, (v1.2.2.1, v1.2.2.2)))
noncomputable def cmd_small (to_ : Int) (r0 : Bool) (r1 : List Int) (r2 : Int) : Option (Int × (Bool × (List Int) × Int × Unit)) := cmd_smallW stdW to_ r0 r1 r2
noncomputable def cmd_small_s : LS := ⟨[.ptr, .v (.int .i64)], [⟨65, [.v .bool, .v (.slc (.int .u8)), .v (.int .i64)]⟩], [⟨65, [.v .bool, .v (.slc (.int .u8)), .v (.int .i64)]⟩], (.q (.v (.int .i64))), fun x => cmd_small x.1 x.2.1 x.2.2.1 x.2.2.2.1⟩
theorem cmd_small_ok : ECok Try.prog 129 (.ls cmd_small_s)   := ls_ok (A := [.ptr, .v (.int .i64)]) (B := [⟨65, [.v .bool, .v (.slc (.int .u8)), .v (.int .i64)]⟩]) (E := [⟨65, [.v .bool, .v (.slc (.int .u8)), .v (.int .i64)]⟩]) (Q := (.q (.v (.int .i64)))) (fun W x => cmd_smallW W x.1 x.2.1 x.2.2.1 x.2.2.2.1) [(37, .ls pack_Reader_Int_s)] ⟨pack_Reader_Int_ok, trivial⟩ [] [] [] Try.func129 rfl (by decide +kernel) rfl rfl rfl rfl rfl (fun W x => by kernel_rfl)
noncomputable def cmd_FieldsW (W : Wd) (op : Int) : Option ByteArray := 
 W.join (fun (z1 : Bool × Unit) => 
  W.cnd z1.1 (some (ByteArray.mk (Array.mk (77 :: (81 :: [])))))
   (
   W.cnd (op == 2) (some (ByteArray.mk (Array.mk (73 :: (81 :: (80 :: (78 :: [])))))))
    (
    W.cnd (op == 3) (some (ByteArray.mk (Array.mk (65 :: (80 :: (81 :: []))))))
     (
     W.cnd (op == 4) (some (ByteArray.mk (Array.mk (85 :: (77 :: (68 :: []))))))
      (
      W.join (fun (z2 : Bool × Unit) => 
       W.cnd z2.1 (some (ByteArray.mk (Array.mk (85 :: []))))
        (
        W.join (fun (z3 : Bool × Unit) => 
         W.cnd z3.1 (some (ByteArray.mk (Array.mk (85 :: (79 :: (73 :: (81 :: (80 :: []))))))))
          (
          W.join (fun (z4 : Bool × Unit) => 
           W.cnd z4.1 (some (ByteArray.mk (Array.mk (68 :: []))))
            (
            W.cnd (op == 12) (some (ByteArray.mk (Array.mk (85 :: (73 :: (78 :: []))))))
             (
             W.cnd (op == 13) (some (ByteArray.mk (Array.mk (68 :: (79 :: (81 :: []))))))
              (
              W.cnd (op == 14) (some (ByteArray.mk (Array.mk (73 :: (80 :: [])))))
               (
               W.cnd (op == 15) (some (ByteArray.mk (Array.mk (65 :: (80 :: [])))))
                (
                W.join (fun (z5 : Bool × Unit) => 
                 W.cnd z5.1 (some (ByteArray.mk (Array.mk (85 :: (65 :: (84 :: (81 :: [])))))))
                  (
                  W.join (fun (z6 : Bool × Unit) => 
                   W.cnd z6.1 (some (ByteArray.mk (Array.mk (85 :: (79 :: [])))))
                    (
                    W.join (fun (z7 : Bool × Unit) => 
                     W.cnd z7.1 (some (ByteArray.mk (Array.mk (77 :: []))))
                      (some (ByteArray.mk (Array.mk []))))
                     fun k8 => 
                     W.join (fun (z9 : Bool × Unit) => 
                      W.cnd z9.1 ((k8 z9))
                       (
                       W.join (fun (z10 : Bool × Unit) => 
                        W.cnd z10.1 ((k8 z10))
                         ((k8 ((op == 31), ()))))
                        fun k11 => (k11 ((op == 25), ()))))
                      fun k12 => (k12 ((op == 23), ()))))
                   fun k13 => 
                   W.join (fun (z14 : Bool × Unit) => 
                    W.cnd z14.1 ((k13 z14))
                     ((k13 ((op == 20), ()))))
                    fun k15 => (k15 ((op == 19), ()))))
                 fun k16 => 
                 W.join (fun (z17 : Bool × Unit) => 
                  W.cnd z17.1 ((k16 z17))
                   ((k16 ((op == 18), ()))))
                  fun k18 => (k18 ((op == 17), ()))))))))
           fun k19 => 
           W.join (fun (z20 : Bool × Unit) => 
            W.cnd z20.1 ((k19 z20))
             (
             W.join (fun (z21 : Bool × Unit) => 
              W.cnd z21.1 ((k19 z21))
               ((k19 ((op == 11), ()))))
              fun k22 => (k22 ((op == 10), ()))))
            fun k23 => (k23 ((op == 9), ()))))
         fun k24 => 
         W.join (fun (z25 : Bool × Unit) => 
          W.cnd z25.1 ((k24 z25))
           (
           W.join (fun (z26 : Bool × Unit) => 
            W.cnd z26.1 ((k24 z26))
             ((k24 ((op == 24), ()))))
            fun k27 => (k27 ((op == 8), ()))))
          fun k28 => (k28 ((op == 7), ()))))
       fun k29 => 
       W.join (fun (z30 : Bool × Unit) => 
        W.cnd z30.1 ((k29 z30))
         (
         W.join (fun (z31 : Bool × Unit) => 
          W.cnd z31.1 ((k29 z31))
           (
           W.join (fun (z32 : Bool × Unit) => 
            W.cnd z32.1 ((k29 z32))
             (
             W.join (fun (z33 : Bool × Unit) => 
              W.cnd z33.1 ((k29 z33))
               (
               W.join (fun (z34 : Bool × Unit) => 
                W.cnd z34.1 ((k29 z34))
                 ((k29 ((op == 29), ()))))
                fun k35 => (k35 ((op == 28), ()))))
              fun k36 => (k36 ((op == 27), ()))))
            fun k37 => (k37 ((op == 26), ()))))
          fun k38 => (k38 ((op == 22), ()))))
        fun k39 => (k39 ((op == 5), ())))))))
  fun k40 => 
  W.join (fun (z41 : Bool × Unit) => 
   W.cnd z41.1 ((k40 z41))
    (
    W.join (fun (z42 : Bool × Unit) => 
     W.cnd z42.1 ((k40 z42))
      ((k40 ((op == 21), ()))))
     fun k43 => (k43 ((op == 6), ()))))
   fun k44 => (k44 ((op == 1), ()))
noncomputable def cmd_Fields (op : Int) : Option ByteArray := cmd_FieldsW stdW op
noncomputable def cmd_Fields_s : ES := ⟨(.pair (.int .i64) .unit), (.v .str), fun x => cmd_Fields x.1⟩
theorem cmd_Fields_ok : ECok Try.prog 65 (.es cmd_Fields_s)   := es_ok (A := (.pair (.int .i64) .unit)) (Q := (.v .str)) (fun W x => cmd_FieldsW W x.1) [] trivial [] [(500004, ⟨[(4, .t .bool)], [], []⟩), (500014, ⟨[(14, .t .bool)], [], []⟩), (500021, ⟨[(21, .t .bool)], [], []⟩), (500025, ⟨[(25, .t .bool)], [], []⟩), (500037, ⟨[(37, .t .bool)], [], []⟩), (500040, ⟨[(40, .t .bool)], [], []⟩), (500043, ⟨[(43, .t .bool)], [], []⟩)] [] Try.func65 rfl (by decide +kernel) rfl rfl (fun W x => by kernel_rfl)
noncomputable def cmd_placeW (W : Wd) (r0 : Bool) (r1 : List Int) (r2 : Int) : Option (AUnit' × (Bool × (List Int) × Int × Unit)) := W.call (cmd_small 16 r0 r1 r2) fun v1 => W.call (cmd_small 16 v1.2.1 v1.2.2.1 v1.2.2.2.1) fun v2 => some ((v1.1, (v2.1, ())), (v2.2.1, (v2.2.2.1, v2.2.2.2)))
noncomputable def cmd_place (r0 : Bool) (r1 : List Int) (r2 : Int) : Option (AUnit' × (Bool × (List Int) × Int × Unit)) := cmd_placeW stdW r0 r1 r2
noncomputable def cmd_place_s : LS := ⟨[.ptr], [⟨65, [.v .bool, .v (.slc (.int .u8)), .v (.int .i64)]⟩], [⟨65, [.v .bool, .v (.slc (.int .u8)), .v (.int .i64)]⟩], (.q (.v tAUnit)), fun x => cmd_place x.1 x.2.1 x.2.2.1⟩
theorem cmd_place_ok : ECok Try.prog 173 (.ls cmd_place_s)   := ls_ok (A := [.ptr]) (B := [⟨65, [.v .bool, .v (.slc (.int .u8)), .v (.int .i64)]⟩]) (E := [⟨65, [.v .bool, .v (.slc (.int .u8)), .v (.int .i64)]⟩]) (Q := (.q (.v tAUnit))) (fun W x => cmd_placeW W x.1 x.2.1 x.2.2.1) [(129, .ls cmd_small_s)] ⟨cmd_small_ok, trivial⟩ [] [] [] Try.func173 rfl (by decide +kernel) rfl rfl rfl rfl rfl (fun W x => by kernel_rfl)
noncomputable def pack_Reader_ErrW (W : Wd) (r0 : Bool) (r1 : List Int) (r2 : Int) : Option (Int × (Bool × (List Int) × Int × Unit)) := 
 W.cnd (!r0) (some (1, (r0, (r1, (r2, ())))))
  (some (r2, (r0, (r1, (r2, ())))))
noncomputable def pack_Reader_Err (r0 : Bool) (r1 : List Int) (r2 : Int) : Option (Int × (Bool × (List Int) × Int × Unit)) := pack_Reader_ErrW stdW r0 r1 r2
noncomputable def pack_Reader_Err_s : LS := ⟨[.ptr], [⟨65, [.v .bool, .v (.slc (.int .u8)), .v (.int .i64)]⟩], [⟨65, [.v .bool, .v (.slc (.int .u8)), .v (.int .i64)]⟩], (.q (.v (.int .i64))), fun x => pack_Reader_Err x.1 x.2.1 x.2.2.1⟩
theorem pack_Reader_Err_ok : ECok Try.prog 41 (.ls pack_Reader_Err_s)   := ls_ok (A := [.ptr]) (B := [⟨65, [.v .bool, .v (.slc (.int .u8)), .v (.int .i64)]⟩]) (E := [⟨65, [.v .bool, .v (.slc (.int .u8)), .v (.int .i64)]⟩]) (Q := (.q (.v (.int .i64)))) (fun W x => pack_Reader_ErrW W x.1 x.2.1 x.2.2.1) [] trivial [] [] [] Try.func41 rfl (by decide +kernel) rfl rfl rfl rfl rfl (fun W x => by kernel_rfl)
noncomputable def cmd_numbersW (W : Wd) (to_ : Int) (r0 : Bool) (r1 : List Int) (r2 : Int) : Option ((List Int) × (Bool × (List Int) × Int × Unit)) := 
 W.join (fun (z1 : Bool × List (Int) × Int × List (Int) × Unit) => some (z1.2.2.2.1, (z1.1, (z1.2.1, (z1.2.2.1, ())))))
  fun k2 => W.call (cmd_small to_ r0 r1 r2) fun v3 => 
  W.loop (fun (z4 : Int × Bool × List (Int) × Int × List (Int) × Unit) again5 => 
   W.cnd (decide (0 < z4.1)) (W.call (pack_Reader_Err z4.2.1 z4.2.2.1 z4.2.2.2.1) fun v6 => 
    W.cnd (v6.1 == 0) (W.call (pack_Reader_Int (-9223372036854775808) 9223372036854775807 v6.2.1 v6.2.2.1 v6.2.2.2.1) fun v7 => W.room (z4.2.2.2.2.1.length + (v7.1 :: []).length) 8 ((again5 ((IntKind.i64.wrap (z4.1 - 1)), (v7.2.1, (v7.2.2.1, (v7.2.2.2.1, ((z4.2.2.2.2.1 ++ (v7.1 :: [])), ()))))))))
     ((k2 (v6.2.1, (v6.2.2.1, (v6.2.2.2.1, (z4.2.2.2.2.1, ())))))))
    ((k2 (z4.2.1, (z4.2.2.1, (z4.2.2.2.1, (z4.2.2.2.2.1, ())))))))
   (v3.1, (v3.2.1, (v3.2.2.1, (v3.2.2.2.1, ([], ())))))
noncomputable def cmd_numbers (to_ : Int) (r0 : Bool) (r1 : List Int) (r2 : Int) : Option ((List Int) × (Bool × (List Int) × Int × Unit)) := cmd_numbersW stdW to_ r0 r1 r2
noncomputable def cmd_numbers_s : LS := ⟨[.ptr, .v (.int .i64)], [⟨65, [.v .bool, .v (.slc (.int .u8)), .v (.int .i64)]⟩], [⟨65, [.v .bool, .v (.slc (.int .u8)), .v (.int .i64)]⟩], (.q (.own 2 (.int .i64))), fun x => cmd_numbers x.1 x.2.1 x.2.2.1 x.2.2.2.1⟩
theorem cmd_numbers_ok : ECok Try.prog 128 (.ls cmd_numbers_s)   := ls_ok (A := [.ptr, .v (.int .i64)]) (B := [⟨65, [.v .bool, .v (.slc (.int .u8)), .v (.int .i64)]⟩]) (E := [⟨65, [.v .bool, .v (.slc (.int .u8)), .v (.int .i64)]⟩]) (Q := (.q (.own 2 (.int .i64)))) (fun W x => cmd_numbersW W x.1 x.2.1 x.2.2.1 x.2.2.2.1) [(129, .ls cmd_small_s), (41, .ls pack_Reader_Err_s), (37, .ls pack_Reader_Int_s)] ⟨cmd_small_ok, pack_Reader_Err_ok, pack_Reader_Int_ok, trivial⟩ [] [(6, ⟨[(5, .row 1)], [(0, [.t .bool, .t (.slc (.int .u8)), .t (.int .i64)])], [.dead, .own 2 (.int .i64)]⟩)] [(3, ⟨[(5, .row 1), (6, .t (.int .i64))], [(0, [.t .bool, .t (.slc (.int .u8)), .t (.int .i64)])], [.dead, .own 2 (.int .i64)]⟩)] Try.func128 rfl (by decide +kernel) rfl rfl rfl rfl rfl (fun W x => by kernel_rfl)
noncomputable def cmd_takeW (W : Wd) (name : Int) (r0 : Bool) (r1 : List Int) (r2 : Int) (c0 : Int) (c1 : Int) (c2 : Int) (c3 : Int) (c4 : Int) (c5 : Int) (c6 : Int) (c7 : Int) (c8 : Int) (c9 : Int) (c10 : Int) (c11 : Int) (c12 : Int) (c13 : List Int) : Option (Unit × (Bool × (List Int) × Int × Int × Int × Int × Int × Int × Int × Int × Int × Int × Int × Int × Int × Int × (List Int) × Unit)) := 
 W.cnd (name == 77) (W.call (cmd_small 8 r0 r1 r2) fun v1 => some ((), (v1.2.1, (v1.2.2.1, (v1.2.2.2.1, (c0, (c1, (v1.1, (c3, (c4, (c5, (c6, (c7, (c8, (c9, (c10, (c11, (c12, (c13, ())))))))))))))))))))
  (
  W.cnd (name == 85) (W.call (cmd_place r0 r1 r2) fun v2 => some ((), (v2.2.1, (v2.2.2.1, (v2.2.2.2.1, (c0, (c1, (c2, (v2.1.1, (v2.1.2.1, (c5, (c6, (c7, (c8, (c9, (c10, (c11, (c12, (c13, ())))))))))))))))))))
   (
   W.cnd (name == 79) (W.call (cmd_place r0 r1 r2) fun v3 => some ((), (v3.2.1, (v3.2.2.1, (v3.2.2.2.1, (c0, (c1, (c2, (c3, (c4, (v3.1.1, (v3.1.2.1, (c7, (c8, (c9, (c10, (c11, (c12, (c13, ())))))))))))))))))))
    (
    W.cnd (name == 73) (W.call (cmd_small 8 r0 r1 r2) fun v4 => some ((), (v4.2.1, (v4.2.2.1, (v4.2.2.2.1, (c0, (c1, (c2, (c3, (c4, (c5, (c6, (v4.1, (c8, (c9, (c10, (c11, (c12, (c13, ())))))))))))))))))))
     (
     W.cnd (name == 65) (W.call (cmd_small 4 r0 r1 r2) fun v5 => some ((), (v5.2.1, (v5.2.2.1, (v5.2.2.2.1, (c0, (c1, (c2, (c3, (c4, (c5, (c6, (c7, (v5.1, (c9, (c10, (c11, (c12, (c13, ())))))))))))))))))))
      (
      W.cnd (name == 84) (W.call (cmd_small 255 r0 r1 r2) fun v6 => some ((), (v6.2.1, (v6.2.2.1, (v6.2.2.2.1, (c0, (c1, (c2, (c3, (c4, (c5, (c6, (c7, (c8, (v6.1, (c10, (c11, (c12, (c13, ())))))))))))))))))))
       (
       W.cnd (name == 68) (W.call (cmd_small 1048576 r0 r1 r2) fun v7 => some ((), (v7.2.1, (v7.2.2.1, (v7.2.2.2.1, (c0, (c1, (c2, (c3, (c4, (c5, (c6, (c7, (c8, (c9, (v7.1, (c11, (c12, (c13, ())))))))))))))))))))
        (
        W.cnd (name == 81) (W.call (pack_Reader_Int (-9223372036854775808) 9223372036854775807 r0 r1 r2) fun v8 => some ((), (v8.2.1, (v8.2.2.1, (v8.2.2.2.1, (c0, (c1, (c2, (c3, (c4, (c5, (c6, (c7, (c8, (c9, (c10, (v8.1, (c12, (c13, ())))))))))))))))))))
         (
         W.cnd (name == 80) (W.call (pack_Reader_Int (-9223372036854775808) 9223372036854775807 r0 r1 r2) fun v9 => some ((), (v9.2.1, (v9.2.2.1, (v9.2.2.2.1, (c0, (c1, (c2, (c3, (c4, (c5, (c6, (c7, (c8, (c9, (c10, (c11, (v9.1, (c13, ())))))))))))))))))))
          (
          W.cnd (name == 78) (W.call (cmd_numbers 32 r0 r1 r2) fun v10 => some ((), (v10.2.1, (v10.2.2.1, (v10.2.2.2.1, (c0, (c1, (c2, (c3, (c4, (c5, (c6, (c7, (c8, (c9, (c10, (c11, (c12, (v10.1, ())))))))))))))))))))
           (some ((), (r0, (r1, (r2, (c0, (c1, (c2, (c3, (c4, (c5, (c6, (c7, (c8, (c9, (c10, (c11, (c12, (c13, ()))))))))))))))))))))))))))))
noncomputable def cmd_take (name : Int) (r0 : Bool) (r1 : List Int) (r2 : Int) (c0 : Int) (c1 : Int) (c2 : Int) (c3 : Int) (c4 : Int) (c5 : Int) (c6 : Int) (c7 : Int) (c8 : Int) (c9 : Int) (c10 : Int) (c11 : Int) (c12 : Int) (c13 : List Int) : Option (Unit × (Bool × (List Int) × Int × Int × Int × Int × Int × Int × Int × Int × Int × Int × Int × Int × Int × Int × (List Int) × Unit)) := cmd_takeW stdW name r0 r1 r2 c0 c1 c2 c3 c4 c5 c6 c7 c8 c9 c10 c11 c12 c13
noncomputable def cmd_take_s : LS := ⟨[.ptr, .ptr, .v (.int .i32)], [⟨65, [.v .bool, .v (.slc (.int .u8)), .v (.int .i64)]⟩, ⟨105, [.v (.int .i64), .v (.int .i64), .v (.int .i64), .v (.int .i64), .v (.int .i64), .v (.int .i64), .v (.int .i64), .v (.int .i64), .v (.int .i64), .v (.int .i64), .v (.int .i64), .v (.int .i64), .v (.int .i64), .row 2 (.int .i64)]⟩], [⟨65, [.v .bool, .v (.slc (.int .u8)), .v (.int .i64)]⟩, ⟨105, [.v (.int .i64), .v (.int .i64), .v (.int .i64), .v (.int .i64), .v (.int .i64), .v (.int .i64), .v (.int .i64), .v (.int .i64), .v (.int .i64), .v (.int .i64), .v (.int .i64), .v (.int .i64), .v (.int .i64), .row 2 (.int .i64)]⟩], (.q .unit), fun x => cmd_take x.1 x.2.1 x.2.2.1 x.2.2.2.1 x.2.2.2.2.1 x.2.2.2.2.2.1 x.2.2.2.2.2.2.1 x.2.2.2.2.2.2.2.1 x.2.2.2.2.2.2.2.2.1 x.2.2.2.2.2.2.2.2.2.1 x.2.2.2.2.2.2.2.2.2.2.1 x.2.2.2.2.2.2.2.2.2.2.2.1 x.2.2.2.2.2.2.2.2.2.2.2.2.1 x.2.2.2.2.2.2.2.2.2.2.2.2.2.1 x.2.2.2.2.2.2.2.2.2.2.2.2.2.2.1 x.2.2.2.2.2.2.2.2.2.2.2.2.2.2.2.1 x.2.2.2.2.2.2.2.2.2.2.2.2.2.2.2.2.1 x.2.2.2.2.2.2.2.2.2.2.2.2.2.2.2.2.2.1⟩
theorem cmd_take_ok : ECok Try.prog 156 (.ls cmd_take_s)   := ls_ok (A := [.ptr, .ptr, .v (.int .i32)]) (B := [⟨65, [.v .bool, .v (.slc (.int .u8)), .v (.int .i64)]⟩, ⟨105, [.v (.int .i64), .v (.int .i64), .v (.int .i64), .v (.int .i64), .v (.int .i64), .v (.int .i64), .v (.int .i64), .v (.int .i64), .v (.int .i64), .v (.int .i64), .v (.int .i64), .v (.int .i64), .v (.int .i64), .row 2 (.int .i64)]⟩]) (E := [⟨65, [.v .bool, .v (.slc (.int .u8)), .v (.int .i64)]⟩, ⟨105, [.v (.int .i64), .v (.int .i64), .v (.int .i64), .v (.int .i64), .v (.int .i64), .v (.int .i64), .v (.int .i64), .v (.int .i64), .v (.int .i64), .v (.int .i64), .v (.int .i64), .v (.int .i64), .v (.int .i64), .row 2 (.int .i64)]⟩]) (Q := (.q .unit)) (fun W x => cmd_takeW W x.1 x.2.1 x.2.2.1 x.2.2.2.1 x.2.2.2.2.1 x.2.2.2.2.2.1 x.2.2.2.2.2.2.1 x.2.2.2.2.2.2.2.1 x.2.2.2.2.2.2.2.2.1 x.2.2.2.2.2.2.2.2.2.1 x.2.2.2.2.2.2.2.2.2.2.1 x.2.2.2.2.2.2.2.2.2.2.2.1 x.2.2.2.2.2.2.2.2.2.2.2.2.1 x.2.2.2.2.2.2.2.2.2.2.2.2.2.1 x.2.2.2.2.2.2.2.2.2.2.2.2.2.2.1 x.2.2.2.2.2.2.2.2.2.2.2.2.2.2.2.1 x.2.2.2.2.2.2.2.2.2.2.2.2.2.2.2.2.1 x.2.2.2.2.2.2.2.2.2.2.2.2.2.2.2.2.2.1) [(129, .ls cmd_small_s), (173, .ls cmd_place_s), (37, .ls pack_Reader_Int_s), (128, .ls cmd_numbers_s)] ⟨cmd_small_ok, cmd_place_ok, pack_Reader_Int_ok, cmd_numbers_ok, trivial⟩ [] [] [] Try.func156 rfl (by decide +kernel) rfl rfl rfl rfl rfl (fun W x => by kernel_rfl)
noncomputable def pack_Reader_EndW (W : Wd) (r0 : Bool) (r1 : List Int) (r2 : Int) : Option (Int × (Bool × (List Int) × Int × Unit)) := W.call (pack_Reader_Err r0 r1 r2) fun v1 => 
 W.cnd (v1.1 != 0) (some (v1.1, (v1.2.1, (v1.2.2.1, v1.2.2.2))))
  (
  W.cnd (decide (0 < (v1.2.2.1.length : Int))) (some (5, (v1.2.1, (v1.2.2.1, v1.2.2.2))))
   (some (0, (v1.2.1, (v1.2.2.1, v1.2.2.2)))))
noncomputable def pack_Reader_End (r0 : Bool) (r1 : List Int) (r2 : Int) : Option (Int × (Bool × (List Int) × Int × Unit)) := pack_Reader_EndW stdW r0 r1 r2
noncomputable def pack_Reader_End_s : LS := ⟨[.ptr], [⟨65, [.v .bool, .v (.slc (.int .u8)), .v (.int .i64)]⟩], [⟨65, [.v .bool, .v (.slc (.int .u8)), .v (.int .i64)]⟩], (.q (.v (.int .i64))), fun x => pack_Reader_End x.1 x.2.1 x.2.2.1⟩
theorem pack_Reader_End_ok : ECok Try.prog 39 (.ls pack_Reader_End_s)   := ls_ok (A := [.ptr]) (B := [⟨65, [.v .bool, .v (.slc (.int .u8)), .v (.int .i64)]⟩]) (E := [⟨65, [.v .bool, .v (.slc (.int .u8)), .v (.int .i64)]⟩]) (Q := (.q (.v (.int .i64)))) (fun W x => pack_Reader_EndW W x.1 x.2.1 x.2.2.1) [(41, .ls pack_Reader_Err_s)] ⟨pack_Reader_Err_ok, trivial⟩ [] [] [] Try.func39 rfl (by decide +kernel) rfl rfl rfl rfl rfl (fun W x => by kernel_rfl)
noncomputable def cmd_readW (W : Wd) (b : List Int) : Option (ACommand' × Int × Unit) := W.call (pack_Open b) fun v1 => W.call (pack_Reader_Int 1 31 v1.1.1 v1.1.2.1 v1.1.2.2.1) fun v2 => W.call (cmd_small 8 v2.2.1 v2.2.2.1 v2.2.2.2.1) fun v3 => W.call (cmd_Fields v2.1) fun v4 => 
 W.loop (fun (z5 : Bool × List (Int) × Int × Int × Int × Int × Int × Int × Int × Int × Int × Int × Int × Int × Int × Int × ByteArray × Int × List (Int) × Unit) again6 => 
  W.next z5.2.2.2.2.2.2.2.2.2.2.2.2.2.2.2.2.1 z5.2.2.2.2.2.2.2.2.2.2.2.2.2.2.2.2.2.1 (fun c8 q9 => W.call (cmd_take c8 z5.1 z5.2.1 z5.2.2.1 z5.2.2.2.1 z5.2.2.2.2.1 z5.2.2.2.2.2.1 z5.2.2.2.2.2.2.1 z5.2.2.2.2.2.2.2.1 z5.2.2.2.2.2.2.2.2.1 z5.2.2.2.2.2.2.2.2.2.1 z5.2.2.2.2.2.2.2.2.2.2.1 z5.2.2.2.2.2.2.2.2.2.2.2.1 z5.2.2.2.2.2.2.2.2.2.2.2.2.1 z5.2.2.2.2.2.2.2.2.2.2.2.2.2.1 z5.2.2.2.2.2.2.2.2.2.2.2.2.2.2.1 z5.2.2.2.2.2.2.2.2.2.2.2.2.2.2.2.1 z5.2.2.2.2.2.2.2.2.2.2.2.2.2.2.2.2.2.2.1) fun v10 => (again6 (v10.2.1, (v10.2.2.1, (v10.2.2.2.1, (v10.2.2.2.2.1, (v10.2.2.2.2.2.1, (v10.2.2.2.2.2.2.1, (v10.2.2.2.2.2.2.2.1, (v10.2.2.2.2.2.2.2.2.1, (v10.2.2.2.2.2.2.2.2.2.1, (v10.2.2.2.2.2.2.2.2.2.2.1, (v10.2.2.2.2.2.2.2.2.2.2.2.1, (v10.2.2.2.2.2.2.2.2.2.2.2.2.1, (v10.2.2.2.2.2.2.2.2.2.2.2.2.2.1, (v10.2.2.2.2.2.2.2.2.2.2.2.2.2.2.1, (v10.2.2.2.2.2.2.2.2.2.2.2.2.2.2.2.1, (v10.2.2.2.2.2.2.2.2.2.2.2.2.2.2.2.2.1, (z5.2.2.2.2.2.2.2.2.2.2.2.2.2.2.2.2.1, (q9, (v10.2.2.2.2.2.2.2.2.2.2.2.2.2.2.2.2.2.1, ())))))))))))))))))))))
   (W.call (pack_Reader_End z5.1 z5.2.1 z5.2.2.1) fun v7 => 
   W.cnd (v7.1 != 0) (some ((0, (0, (0, ((0, (0, ())), ((0, (0, ())), (0, (0, (0, (0, (0, (0, ([], ())))))))))))), (3, ())))
    (some ((z5.2.2.2.1, (z5.2.2.2.2.1, (z5.2.2.2.2.2.1, ((z5.2.2.2.2.2.2.1, (z5.2.2.2.2.2.2.2.1, ())), ((z5.2.2.2.2.2.2.2.2.1, (z5.2.2.2.2.2.2.2.2.2.1, ())), (z5.2.2.2.2.2.2.2.2.2.2.1, (z5.2.2.2.2.2.2.2.2.2.2.2.1, (z5.2.2.2.2.2.2.2.2.2.2.2.2.1, (z5.2.2.2.2.2.2.2.2.2.2.2.2.2.1, (z5.2.2.2.2.2.2.2.2.2.2.2.2.2.2.1, (z5.2.2.2.2.2.2.2.2.2.2.2.2.2.2.2.1, (z5.2.2.2.2.2.2.2.2.2.2.2.2.2.2.2.2.2.2.1, ())))))))))))), (0, ())))))
  (v3.2.1, (v3.2.2.1, (v3.2.2.2.1, (v2.1, (v3.1, (0, (0, (0, (0, (0, (0, (0, (0, (0, (0, (0, (v4, (0, ([], ())))))))))))))))))))
noncomputable def cmd_read (b : List Int) : Option (ACommand' × Int × Unit) := cmd_readW stdW b
noncomputable def cmd_read_s : ES := ⟨(.pair (.slc (.int .u8)) .unit), (.pair (.v tACommand) (.pair (.v (.int .i64)) .unit)), fun x => cmd_read x.1⟩
theorem cmd_read_ok : ECok Try.prog 118 (.es cmd_read_s)   := es_ok (A := (.pair (.slc (.int .u8)) .unit)) (Q := (.pair (.v tACommand) (.pair (.v (.int .i64)) .unit))) (fun W x => cmd_readW W x.1) [(36, .ls pack_Open_s), (37, .ls pack_Reader_Int_s), (129, .ls cmd_small_s), (65, .es cmd_Fields_s), (156, .ls cmd_take_s), (39, .ls pack_Reader_End_s)] ⟨pack_Open_ok, pack_Reader_Int_ok, cmd_small_ok, cmd_Fields_ok, cmd_take_ok, pack_Reader_End_ok, trivial⟩ [] [] [(4, ⟨[(18, .ob 0)], [(1, [.t .bool, .t (.slc (.int .u8)), .t (.int .i64)]), (2, [.t (.int .i64), .t (.int .i64), .t (.int .i64), .t (.int .i64), .t (.int .i64), .t (.int .i64), .t (.int .i64), .t (.int .i64), .t (.int .i64), .t (.int .i64), .t (.int .i64), .t (.int .i64), .t (.int .i64), .row 1])], [.itr, .own 2 (.int .i64)]⟩)] Try.func118 rfl (by decide +kernel) rfl rfl (fun W x => by kernel_rfl)
noncomputable def cmd_DecodeW (W : Wd) (b : List Int) : Option (ACommand' × Int × Unit) := W.call (cmd_read b) fun v1 => some ((v1.1.1, (v1.1.2.1, (v1.1.2.2.1, (v1.1.2.2.2.1, (v1.1.2.2.2.2.1, (v1.1.2.2.2.2.2.1, (v1.1.2.2.2.2.2.2.1, (v1.1.2.2.2.2.2.2.2.1, (v1.1.2.2.2.2.2.2.2.2.1, (v1.1.2.2.2.2.2.2.2.2.2.1, (v1.1.2.2.2.2.2.2.2.2.2.2.1, (v1.1.2.2.2.2.2.2.2.2.2.2.2.1, ())))))))))))), v1.2)
noncomputable def cmd_Decode (b : List Int) : Option (ACommand' × Int × Unit) := cmd_DecodeW stdW b
noncomputable def cmd_Decode_s : ES := ⟨(.pair (.slc (.int .u8)) .unit), (.pair (.v tACommand) (.pair (.v (.int .i64)) .unit)), fun x => cmd_Decode x.1⟩
theorem cmd_Decode_ok : ECok Try.prog 68 (.es cmd_Decode_s)   := es_ok (A := (.pair (.slc (.int .u8)) .unit)) (Q := (.pair (.v tACommand) (.pair (.v (.int .i64)) .unit))) (fun W x => cmd_DecodeW W x.1) [(118, .es cmd_read_s)] ⟨cmd_read_ok, trivial⟩ [] [] [] Try.func68 rfl (by decide +kernel) rfl rfl (fun W x => by kernel_rfl)
noncomputable def ref01_SameNumbersW (W : Wd) (a : List Int) (b : List Int) : Option Bool := 
 W.cnd ((a.length : Int) != (b.length : Int)) (some false)
  (
  W.loop (fun (z1 : Int × Unit) again2 => 
   W.cnd (decide (z1.1 < (a.length : Int))) (W.idx a z1.1 fun x3 => W.idx b z1.1 fun x4 => 
    W.cnd (x3 != x4) (some false)
     ((again2 ((IntKind.i64.wrap (z1.1 + 1)), ()))))
    (some true))
   (0, ()))
noncomputable def ref01_SameNumbers (a : List Int) (b : List Int) : Option Bool := ref01_SameNumbersW stdW a b
noncomputable def ref01_SameNumbers_s : ES := ⟨(.pair (.slc (.int .i64)) (.pair (.slc (.int .i64)) .unit)), (.v .bool), fun x => ref01_SameNumbers x.1 x.2.1⟩
theorem ref01_SameNumbers_ok : ECok Try.prog 125 (.es ref01_SameNumbers_s)   := es_ok (A := (.pair (.slc (.int .i64)) (.pair (.slc (.int .i64)) .unit))) (Q := (.v .bool)) (fun W x => ref01_SameNumbersW W x.1 x.2.1) [] trivial [(6, [], (ofL [(0, true), (1, true), (2, true), (3, true), (4, true), (5, true), (6, true), (7, true), (8, true)]))] [] [(4, ⟨[(5, .t (.int .i64))], [], []⟩)] Try.func125 rfl (by decide +kernel) rfl rfl (fun W x => by kernel_rfl)
noncomputable def pack_NewW (W : Wd) : Option ((Bool × (List Int) × Unit) × (Unit)) := some ((true, ([], ())), ())
noncomputable def pack_New : Option ((Bool × (List Int) × Unit) × (Unit)) := pack_NewW stdW
noncomputable def pack_New_s : LS := ⟨[], [], [], (.obj ⟨63, [.v .bool, .row 5 (.int .u8)]⟩), fun x => pack_New ⟩
theorem pack_New_ok : ECok Try.prog 25 (.ls pack_New_s)   := ls_ok (A := []) (B := []) (E := []) (Q := (.obj ⟨63, [.v .bool, .row 5 (.int .u8)]⟩)) (fun W x => pack_NewW W ) [] trivial [] [] [] Try.func25 rfl (by decide +kernel) rfl rfl rfl rfl rfl (fun W x => by kernel_rfl)
noncomputable def pack_Writer_okW (W : Wd) (w0 : Bool) (w1 : List Int) : Option (Bool × (Bool × (List Int) × Unit)) := some (w0, (w0, (w1, ())))
noncomputable def pack_Writer_ok (w0 : Bool) (w1 : List Int) : Option (Bool × (Bool × (List Int) × Unit)) := pack_Writer_okW stdW w0 w1
noncomputable def pack_Writer_ok_s : LS := ⟨[.ptr], [⟨63, [.v .bool, .row 5 (.int .u8)]⟩], [⟨63, [.v .bool, .row 5 (.int .u8)]⟩], (.q (.v .bool)), fun x => pack_Writer_ok x.1 x.2.1⟩
theorem pack_Writer_ok_ok : ECok Try.prog 82 (.ls pack_Writer_ok_s)   := ls_ok (A := [.ptr]) (B := [⟨63, [.v .bool, .row 5 (.int .u8)]⟩]) (E := [⟨63, [.v .bool, .row 5 (.int .u8)]⟩]) (Q := (.q (.v .bool))) (fun W x => pack_Writer_okW W x.1 x.2.1) [] trivial [] [] [] Try.func82 rfl (by decide +kernel) rfl rfl rfl rfl rfl (fun W x => by kernel_rfl)
noncomputable def pack_foldedW (W : Wd) (n : Int) : Option Int := W.nn 1 (W.nn 63 (some (Go.bits Go.BinOp.xor Go.IntKind.u64 (IntKind.u64.wrap (IntKind.i64.wrap (n * (2 ^ (Min.min (Int.toNat 1) (Go.IntKind.bits Go.IntKind.i64)))))) (IntKind.u64.wrap (Int.fdiv n (2 ^ (Min.min (Int.toNat 63) (Go.IntKind.bits Go.IntKind.i64))))))))
noncomputable def pack_folded (n : Int) : Option Int := pack_foldedW stdW n
noncomputable def pack_folded_s : ES := ⟨(.pair (.int .i64) .unit), (.v (.int .u64)), fun x => pack_folded x.1⟩
theorem pack_folded_ok : ECok Try.prog 84 (.es pack_folded_s)   := es_ok (A := (.pair (.int .i64) .unit)) (Q := (.v (.int .u64))) (fun W x => pack_foldedW W x.1) [] trivial [] [] [] Try.func84 rfl (by decide +kernel) rfl rfl (fun W x => by kernel_rfl)
noncomputable def pack_Writer_oneW (W : Wd) (u : Int) (w0 : Bool) (w1 : List Int) : Option (Unit × (Bool × (List Int) × Unit)) := 
 W.loop (fun (z1 : Int × Bool × List (Int) × Unit) again2 => 
  W.cnd (decide (128 ≤ z1.1)) (W.room (z1.2.2.1.length + ((Go.bits Go.BinOp.or Go.IntKind.u8 (IntKind.u8.wrap z1.1) 128) :: []).length) 1 (W.nn 7 ((again2 ((Int.fdiv z1.1 (2 ^ (Min.min (Int.toNat 7) (Go.IntKind.bits Go.IntKind.u64)))), (z1.2.1, ((z1.2.2.1 ++ ((Go.bits Go.BinOp.or Go.IntKind.u8 (IntKind.u8.wrap z1.1) 128) :: [])), ())))))))
   (W.room (z1.2.2.1.length + ((IntKind.u8.wrap z1.1) :: []).length) 1 (some ((), (z1.2.1, ((z1.2.2.1 ++ ((IntKind.u8.wrap z1.1) :: [])), ()))))))
  (u, (w0, (w1, ())))
noncomputable def pack_Writer_one (u : Int) (w0 : Bool) (w1 : List Int) : Option (Unit × (Bool × (List Int) × Unit)) := pack_Writer_oneW stdW u w0 w1
noncomputable def pack_Writer_one_s : LS := ⟨[.ptr, .v (.int .u64)], [⟨63, [.v .bool, .row 5 (.int .u8)]⟩], [⟨63, [.v .bool, .row 5 (.int .u8)]⟩], (.q .unit), fun x => pack_Writer_one x.1 x.2.1 x.2.2.1⟩
theorem pack_Writer_one_ok : ECok Try.prog 83 (.ls pack_Writer_one_s)   := ls_ok (A := [.ptr, .v (.int .u64)]) (B := [⟨63, [.v .bool, .row 5 (.int .u8)]⟩]) (E := [⟨63, [.v .bool, .row 5 (.int .u8)]⟩]) (Q := (.q .unit)) (fun W x => pack_Writer_oneW W x.1 x.2.1 x.2.2.1) [] trivial [] [] [(0, ⟨[(1, .t (.int .u64))], [(0, [.t .bool, .row 0])], [.own 5 (.int .u8)]⟩)] Try.func83 rfl (by decide +kernel) rfl rfl rfl rfl rfl (fun W x => by kernel_rfl)
noncomputable def pack_Writer_IntW (W : Wd) (l : List Int) (w0 : Bool) (w1 : List Int) : Option (Unit × (Bool × (List Int) × Unit)) := 
 W.join (fun (z1 : Bool × List (Int) × Unit) => some ((), (z1.1, (z1.2.1, ()))))
  fun k2 => W.call (pack_Writer_ok w0 w1) fun v3 => 
  W.cnd v3.1 (
   W.loop (fun (z4 : Int × Bool × List (Int) × Unit) again5 => 
    W.cnd (decide (z4.1 < (l.length : Int))) (W.idx l z4.1 fun x6 => W.call (pack_folded x6) fun v7 => W.call (pack_Writer_one v7 z4.2.1 z4.2.2.1) fun v8 => (again5 ((IntKind.i64.wrap (z4.1 + 1)), (v8.2.1, (v8.2.2.1, ())))))
     ((k2 (z4.2.1, (z4.2.2.1, ())))))
    (0, (v3.2.1, (v3.2.2.1, ()))))
   ((k2 (v3.2.1, (v3.2.2.1, ()))))
noncomputable def pack_Writer_Int (l : List Int) (w0 : Bool) (w1 : List Int) : Option (Unit × (Bool × (List Int) × Unit)) := pack_Writer_IntW stdW l w0 w1
noncomputable def pack_Writer_Int_s : LS := ⟨[.ptr, .v (.slc (.int .i64))], [⟨63, [.v .bool, .row 5 (.int .u8)]⟩], [⟨63, [.v .bool, .row 5 (.int .u8)]⟩], (.ptr 0), fun x => pack_Writer_Int x.1 x.2.1 x.2.2.1⟩
theorem pack_Writer_Int_ok : ECok Try.prog 26 (.ls pack_Writer_Int_s)   := ls_ok (A := [.ptr, .v (.slc (.int .i64))]) (B := [⟨63, [.v .bool, .row 5 (.int .u8)]⟩]) (E := [⟨63, [.v .bool, .row 5 (.int .u8)]⟩]) (Q := (.ptr 0)) (fun W x => pack_Writer_IntW W x.1 x.2.1 x.2.2.1) [(82, .ls pack_Writer_ok_s), (84, .es pack_folded_s), (83, .ls pack_Writer_one_s)] ⟨pack_Writer_ok_ok, pack_folded_ok, pack_Writer_one_ok, trivial⟩ [] [(7, ⟨[], [(0, [.t .bool, .row 0])], [.own 5 (.int .u8)]⟩)] [(3, ⟨[(11, .t (.int .i64))], [(0, [.t .bool, .row 0])], [.own 5 (.int .u8)]⟩)] Try.func26 rfl (by decide +kernel) rfl rfl rfl rfl rfl (fun W x => by kernel_rfl)
noncomputable def cmd_unitW (W : Wd) (u : AUnit') (w0 : Bool) (w1 : List Int) : Option (Unit × (Bool × (List Int) × Unit)) := W.call (pack_Writer_Int (u.1 :: (u.2.1 :: [])) w0 w1) fun v1 => some ((), (v1.2.1, (v1.2.2.1, ())))
noncomputable def cmd_unit (u : AUnit') (w0 : Bool) (w1 : List Int) : Option (Unit × (Bool × (List Int) × Unit)) := cmd_unitW stdW u w0 w1
noncomputable def cmd_unit_s : LS := ⟨[.ptr, .v tAUnit], [⟨63, [.v .bool, .row 5 (.int .u8)]⟩], [⟨63, [.v .bool, .row 5 (.int .u8)]⟩], (.q .unit), fun x => cmd_unit x.1 x.2.1 x.2.2.1⟩
theorem cmd_unit_ok : ECok Try.prog 126 (.ls cmd_unit_s)   := ls_ok (A := [.ptr, .v tAUnit]) (B := [⟨63, [.v .bool, .row 5 (.int .u8)]⟩]) (E := [⟨63, [.v .bool, .row 5 (.int .u8)]⟩]) (Q := (.q .unit)) (fun W x => cmd_unitW W x.1 x.2.1 x.2.2.1) [(26, .ls pack_Writer_Int_s)] ⟨pack_Writer_Int_ok, trivial⟩ [] [] [] Try.func126 rfl (by decide +kernel) rfl rfl rfl rfl rfl (fun W x => by kernel_rfl)
noncomputable def cmd_fieldW (W : Wd) (c : ACommand') (name : Int) (w0 : Bool) (w1 : List Int) : Option (Unit × (Bool × (List Int) × Unit)) := 
 W.cnd (name == 77) (W.call (pack_Writer_Int (c.2.2.1 :: []) w0 w1) fun v1 => some ((), (v1.2.1, (v1.2.2.1, ()))))
  (
  W.cnd (name == 85) (W.call (cmd_unit c.2.2.2.1 w0 w1) fun v2 => some ((), (v2.2.1, (v2.2.2.1, ()))))
   (
   W.cnd (name == 79) (W.call (cmd_unit c.2.2.2.2.1 w0 w1) fun v3 => some ((), (v3.2.1, (v3.2.2.1, ()))))
    (
    W.cnd (name == 73) (W.call (pack_Writer_Int (c.2.2.2.2.2.1 :: []) w0 w1) fun v4 => some ((), (v4.2.1, (v4.2.2.1, ()))))
     (
     W.cnd (name == 65) (W.call (pack_Writer_Int (c.2.2.2.2.2.2.1 :: []) w0 w1) fun v5 => some ((), (v5.2.1, (v5.2.2.1, ()))))
      (
      W.cnd (name == 84) (W.call (pack_Writer_Int (c.2.2.2.2.2.2.2.1 :: []) w0 w1) fun v6 => some ((), (v6.2.1, (v6.2.2.1, ()))))
       (
       W.cnd (name == 68) (W.call (pack_Writer_Int (c.2.2.2.2.2.2.2.2.1 :: []) w0 w1) fun v7 => some ((), (v7.2.1, (v7.2.2.1, ()))))
        (
        W.cnd (name == 81) (W.call (pack_Writer_Int (c.2.2.2.2.2.2.2.2.2.1 :: []) w0 w1) fun v8 => some ((), (v8.2.1, (v8.2.2.1, ()))))
         (
         W.cnd (name == 80) (W.call (pack_Writer_Int (c.2.2.2.2.2.2.2.2.2.2.1 :: []) w0 w1) fun v9 => some ((), (v9.2.1, (v9.2.2.1, ()))))
          (
          W.cnd (name == 78) (W.call (pack_Writer_Int ((c.2.2.2.2.2.2.2.2.2.2.2.1.length : Int) :: []) w0 w1) fun v10 => W.call (pack_Writer_Int c.2.2.2.2.2.2.2.2.2.2.2.1 v10.2.1 v10.2.2.1) fun v11 => some ((), (v11.2.1, (v11.2.2.1, ()))))
           (some ((), (w0, (w1, ())))))))))))))
noncomputable def cmd_field (c : ACommand') (name : Int) (w0 : Bool) (w1 : List Int) : Option (Unit × (Bool × (List Int) × Unit)) := cmd_fieldW stdW c name w0 w1
noncomputable def cmd_field_s : LS := ⟨[.ptr, .v tACommand, .v (.int .i32)], [⟨63, [.v .bool, .row 5 (.int .u8)]⟩], [⟨63, [.v .bool, .row 5 (.int .u8)]⟩], (.q .unit), fun x => cmd_field x.1 x.2.1 x.2.2.1 x.2.2.2.1⟩
theorem cmd_field_ok : ECok Try.prog 155 (.ls cmd_field_s)   := ls_ok (A := [.ptr, .v tACommand, .v (.int .i32)]) (B := [⟨63, [.v .bool, .row 5 (.int .u8)]⟩]) (E := [⟨63, [.v .bool, .row 5 (.int .u8)]⟩]) (Q := (.q .unit)) (fun W x => cmd_fieldW W x.1 x.2.1 x.2.2.1 x.2.2.2.1) [(26, .ls pack_Writer_Int_s), (126, .ls cmd_unit_s)] ⟨pack_Writer_Int_ok, cmd_unit_ok, trivial⟩ [(21, [0], (ofL [(0, true), (1, true), (2, true), (3, true), (6, true), (7, true), (4, false), (5, false), (8, false)]))] [] [] Try.func155 rfl (by decide +kernel) rfl rfl rfl rfl rfl (fun W x => by kernel_rfl)
noncomputable def pack_Writer_DoneW (W : Wd) (w0 : Bool) (w1 : List Int) : Option ((List Int) × (Bool × (List Int) × Unit)) := W.call (pack_Writer_ok w0 w1) fun v1 => 
 W.cnd (!v1.1) (some ([], (v1.2.1, (v1.2.2.1, ()))))
  (W.call (slices_Clonebyte_byte v1.2.2.1) fun v2 => some (v2, (v1.2.1, (v1.2.2.1, ()))))
noncomputable def pack_Writer_Done (w0 : Bool) (w1 : List Int) : Option ((List Int) × (Bool × (List Int) × Unit)) := pack_Writer_DoneW stdW w0 w1
noncomputable def pack_Writer_Done_s : LS := ⟨[.ptr], [⟨63, [.v .bool, .row 5 (.int .u8)]⟩], [⟨63, [.v .bool, .v (.slc (.int .u8))]⟩], (.q (.own 5 (.int .u8))), fun x => pack_Writer_Done x.1 x.2.1⟩
theorem pack_Writer_Done_ok : ECok Try.prog 33 (.ls pack_Writer_Done_s)   := ls_ok (A := [.ptr]) (B := [⟨63, [.v .bool, .row 5 (.int .u8)]⟩]) (E := [⟨63, [.v .bool, .v (.slc (.int .u8))]⟩]) (Q := (.q (.own 5 (.int .u8)))) (fun W x => pack_Writer_DoneW W x.1 x.2.1) [(82, .ls pack_Writer_ok_s), (86, .es slices_Clonebyte_byte_s)] ⟨pack_Writer_ok_ok, slices_Clonebyte_byte_ok, trivial⟩ [] [] [] Try.func33 rfl (by decide +kernel) rfl rfl rfl rfl rfl (fun W x => by kernel_rfl)
noncomputable def cmd_bytesOfW (W : Wd) (c : ACommand') : Option (List Int) := W.both (W.call (pack_New) fun v1 => W.call (pack_Writer_Int (c.1 :: (c.2.1 :: [])) v1.1.1 v1.1.2.1) fun v2 => W.call (cmd_Fields c.1) fun v3 => 
  W.loop (fun (z4 : Bool × List (Int) × ByteArray × Int × Unit) again5 => 
   W.next z4.2.2.1 z4.2.2.2.1 (fun c7 q8 => W.call (cmd_field (c.1, (c.2.1, (c.2.2.1, (c.2.2.2.1, (c.2.2.2.2.1, (c.2.2.2.2.2.1, (c.2.2.2.2.2.2.1, (c.2.2.2.2.2.2.2.1, (c.2.2.2.2.2.2.2.2.1, (c.2.2.2.2.2.2.2.2.2.1, (c.2.2.2.2.2.2.2.2.2.2.1, (c.2.2.2.2.2.2.2.2.2.2.2.1, ())))))))))))) c7 z4.1 z4.2.1) fun v9 => (again5 (v9.2.1, (v9.2.2.1, (z4.2.2.1, (q8, ()))))))
    (W.call (pack_Writer_Done z4.1 z4.2.1) fun v6 => some v6.1))
   (v2.2.1, (v2.2.2.1, (v3, (0, ()))))) (W.call (pack_New) fun v10 => W.call (pack_Writer_Int (c.1 :: (c.2.1 :: [])) v10.1.1 v10.1.2.1) fun v11 => W.call (cmd_Fields c.1) fun v12 => 
  W.loop (fun (z13 : Bool × List (Int) × ByteArray × Int × Unit) again14 => 
   W.next z13.2.2.1 z13.2.2.2.1 (fun c16 q17 => W.call (cmd_field (c.1, (c.2.1, (c.2.2.1, (c.2.2.2.1, (c.2.2.2.2.1, (c.2.2.2.2.2.1, (c.2.2.2.2.2.2.1, (c.2.2.2.2.2.2.2.1, (c.2.2.2.2.2.2.2.2.1, (c.2.2.2.2.2.2.2.2.2.1, (c.2.2.2.2.2.2.2.2.2.2.1, (c.2.2.2.2.2.2.2.2.2.2.2.1, ())))))))))))) c16 z13.1 z13.2.1) fun v18 => (again14 (v18.2.1, (v18.2.2.1, (z13.2.2.1, (q17, ()))))))
    (W.call (pack_Writer_Done z13.1 z13.2.1) fun v15 => some v15.1))
   (v11.2.1, (v11.2.2.1, (v12, (0, ())))))
noncomputable def cmd_bytesOf (c : ACommand') : Option (List Int) := cmd_bytesOfW stdW c
noncomputable def cmd_bytesOf_s : ES := ⟨(.pair tACommand .unit), (.own 5 (.int .u8)), fun x => cmd_bytesOf x.1⟩
theorem cmd_bytesOf_ok : ECok Try.prog 116 (.es cmd_bytesOf_s)   := es_ok (A := (.pair tACommand .unit)) (Q := (.own 5 (.int .u8))) (fun W x => cmd_bytesOfW W x.1) [(25, .ls pack_New_s), (26, .ls pack_Writer_Int_s), (65, .es cmd_Fields_s), (155, .ls cmd_field_s), (33, .ls pack_Writer_Done_s)] ⟨pack_New_ok, pack_Writer_Int_ok, cmd_Fields_ok, cmd_field_ok, pack_Writer_Done_ok, trivial⟩ [(1, [], (.rd 1 (.rd 2 (.rd 3 (.rd 4 (.two 0 5 (ofL [(5, false), (6, false), (7, true)]) (ofL [(0, false), (6, false), (7, true)])))))))] [] [(3, ⟨[(16, .ob 2)], [(1, [.t .bool, .row 0])], [.own 5 (.int .u8), .dead, .itr]⟩), (3, ⟨[(16, .ob 2)], [(1, [.t .bool, .row 1])], [.dead, .own 5 (.int .u8), .itr]⟩)] Try.func116 rfl (by decide +kernel) rfl rfl (fun W x => by kernel_rfl)
noncomputable def slices_Equalint64_int64W (W : Wd) (s1 : List Int) (s2 : List Int) : Option Bool := 
 W.cnd ((s1.length : Int) != (s2.length : Int)) (some false)
  (
  W.loop (fun (z1 : Int × Unit) again2 => 
   W.cnd (decide (z1.1 < (s1.length : Int))) (W.idx s1 z1.1 fun x3 => W.idx s2 z1.1 fun x4 => 
    W.cnd (x3 != x4) (some false)
     ((again2 ((IntKind.i64.wrap (z1.1 + 1)), ()))))
    (some true))
   (0, ()))
noncomputable def slices_Equalint64_int64 (s1 : List Int) (s2 : List Int) : Option Bool := slices_Equalint64_int64W stdW s1 s2
noncomputable def slices_Equalint64_int64_s : ES := ⟨(.pair (.slc (.int .i64)) (.pair (.slc (.int .i64)) .unit)), (.v .bool), fun x => slices_Equalint64_int64 x.1 x.2.1⟩
theorem slices_Equalint64_int64_ok : ECok Try.prog 157 (.es slices_Equalint64_int64_s)   := es_ok (A := (.pair (.slc (.int .i64)) (.pair (.slc (.int .i64)) .unit))) (Q := (.v .bool)) (fun W x => slices_Equalint64_int64W W x.1 x.2.1) [] trivial [(6, [], (ofL [(0, true), (1, true), (2, true), (3, true), (4, true), (5, true), (6, true), (7, true), (8, true)]))] [] [(4, ⟨[(13, .t (.int .i64))], [], []⟩)] Try.func157 rfl (by decide +kernel) rfl rfl (fun W x => by kernel_rfl)
noncomputable def cmd_sameW (W : Wd) (a : ACommand') (b : ACommand') : Option Bool := W.call (slices_Equalint64_int64 a.2.2.2.2.2.2.2.2.2.2.2.1 b.2.2.2.2.2.2.2.2.2.2.2.1) fun v1 => 
 W.cnd v1 (
  W.cnd (a.1 == b.1) (
   W.cnd (a.2.1 == b.2.1) (
    W.cnd (a.2.2.1 == b.2.2.1) (
     W.cnd (Go.Vc.notIf false ((a.2.2.2.1.1 == b.2.2.2.1.1) && (a.2.2.2.1.2.1 == b.2.2.2.1.2.1))) (
      W.cnd (Go.Vc.notIf false ((a.2.2.2.2.1.1 == b.2.2.2.2.1.1) && (a.2.2.2.2.1.2.1 == b.2.2.2.2.1.2.1))) (
       W.cnd (a.2.2.2.2.2.1 == b.2.2.2.2.2.1) (
        W.cnd (a.2.2.2.2.2.2.1 == b.2.2.2.2.2.2.1) (
         W.cnd (a.2.2.2.2.2.2.2.1 == b.2.2.2.2.2.2.2.1) (
          W.cnd (a.2.2.2.2.2.2.2.2.1 == b.2.2.2.2.2.2.2.2.1) (
           W.cnd (a.2.2.2.2.2.2.2.2.2.1 == b.2.2.2.2.2.2.2.2.2.1) (some (a.2.2.2.2.2.2.2.2.2.2.1 == b.2.2.2.2.2.2.2.2.2.2.1))
            (some false))
           (some false))
          (some false))
         (some false))
        (some false))
       (some false))
      (some false))
     (some false))
    (some false))
   (some false))
  (some false)
noncomputable def cmd_same (a : ACommand') (b : ACommand') : Option Bool := cmd_sameW stdW a b
noncomputable def cmd_same_s : ES := ⟨(.pair tACommand (.pair tACommand .unit)), (.v .bool), fun x => cmd_same x.1 x.2.1⟩
theorem cmd_same_ok : ECok Try.prog 119 (.es cmd_same_s)   := es_ok (A := (.pair tACommand (.pair tACommand .unit))) (Q := (.v .bool)) (fun W x => cmd_sameW W x.1 x.2.1) [(157, .es slices_Equalint64_int64_s)] ⟨slices_Equalint64_int64_ok, trivial⟩ [] [] [] Try.func119 rfl (by decide +kernel) rfl rfl (fun W x => by kernel_rfl)
noncomputable def cmd_CheckW (W : Wd) (c : ACommand') : Option Int := W.call (cmd_bytesOf (c.1, (c.2.1, (c.2.2.1, (c.2.2.2.1, (c.2.2.2.2.1, (c.2.2.2.2.2.1, (c.2.2.2.2.2.2.1, (c.2.2.2.2.2.2.2.1, (c.2.2.2.2.2.2.2.2.1, (c.2.2.2.2.2.2.2.2.2.1, (c.2.2.2.2.2.2.2.2.2.2.1, (c.2.2.2.2.2.2.2.2.2.2.2.1, ()))))))))))))) fun v1 => W.call (cmd_read v1) fun v2 => 
 W.join (fun (z3 : Bool × Unit) => 
  W.cnd z3.1 (some 3)
   (some 0))
  fun k4 => 
  W.cnd (v2.2.1 != 0) ((k4 (true, ())))
   (W.call (cmd_same (v2.1.1, (v2.1.2.1, (v2.1.2.2.1, (v2.1.2.2.2.1, (v2.1.2.2.2.2.1, (v2.1.2.2.2.2.2.1, (v2.1.2.2.2.2.2.2.1, (v2.1.2.2.2.2.2.2.2.1, (v2.1.2.2.2.2.2.2.2.2.1, (v2.1.2.2.2.2.2.2.2.2.2.1, (v2.1.2.2.2.2.2.2.2.2.2.2.1, (v2.1.2.2.2.2.2.2.2.2.2.2.2.1, ())))))))))))) (c.1, (c.2.1, (c.2.2.1, (c.2.2.2.1, (c.2.2.2.2.1, (c.2.2.2.2.2.1, (c.2.2.2.2.2.2.1, (c.2.2.2.2.2.2.2.1, (c.2.2.2.2.2.2.2.2.1, (c.2.2.2.2.2.2.2.2.2.1, (c.2.2.2.2.2.2.2.2.2.2.1, (c.2.2.2.2.2.2.2.2.2.2.2.1, ()))))))))))))) fun v5 => (k4 ((!v5), ())))
noncomputable def cmd_Check (c : ACommand') : Option Int := cmd_CheckW stdW c
noncomputable def cmd_Check_s : ES := ⟨(.pair tACommand .unit), (.v (.int .i64)), fun x => cmd_Check x.1⟩
theorem cmd_Check_ok : ECok Try.prog 63 (.es cmd_Check_s)   := es_ok (A := (.pair tACommand .unit)) (Q := (.v (.int .i64))) (fun W x => cmd_CheckW W x.1) [(116, .es cmd_bytesOf_s), (118, .es cmd_read_s), (119, .es cmd_same_s)] ⟨cmd_bytesOf_ok, cmd_read_ok, cmd_same_ok, trivial⟩ [] [(500018, ⟨[(18, .t .bool)], [], []⟩)] [] Try.func63 rfl (by decide +kernel) rfl rfl (fun W x => by kernel_rfl)
noncomputable def cmd_EncodeW (W : Wd) (c : ACommand') : Option ((List Int) × Int × Unit) := W.call (cmd_Check (c.1, (c.2.1, (c.2.2.1, (c.2.2.2.1, (c.2.2.2.2.1, (c.2.2.2.2.2.1, (c.2.2.2.2.2.2.1, (c.2.2.2.2.2.2.2.1, (c.2.2.2.2.2.2.2.2.1, (c.2.2.2.2.2.2.2.2.2.1, (c.2.2.2.2.2.2.2.2.2.2.1, (c.2.2.2.2.2.2.2.2.2.2.2.1, ()))))))))))))) fun v1 => 
 W.cnd (v1 != 0) (some ([], (v1, ())))
  (W.call (cmd_bytesOf (c.1, (c.2.1, (c.2.2.1, (c.2.2.2.1, (c.2.2.2.2.1, (c.2.2.2.2.2.1, (c.2.2.2.2.2.2.1, (c.2.2.2.2.2.2.2.1, (c.2.2.2.2.2.2.2.2.1, (c.2.2.2.2.2.2.2.2.2.1, (c.2.2.2.2.2.2.2.2.2.2.1, (c.2.2.2.2.2.2.2.2.2.2.2.1, ()))))))))))))) fun v2 => some (v2, (0, ())))
noncomputable def cmd_Encode (c : ACommand') : Option ((List Int) × Int × Unit) := cmd_EncodeW stdW c
noncomputable def cmd_Encode_s : ES := ⟨(.pair tACommand .unit), (.pair (.own 5 (.int .u8)) (.pair (.v (.int .i64)) .unit)), fun x => cmd_Encode x.1⟩
theorem cmd_Encode_ok : ECok Try.prog 61 (.es cmd_Encode_s)   := es_ok (A := (.pair tACommand .unit)) (Q := (.pair (.own 5 (.int .u8)) (.pair (.v (.int .i64)) .unit))) (fun W x => cmd_EncodeW W x.1) [(63, .es cmd_Check_s), (116, .es cmd_bytesOf_s)] ⟨cmd_Check_ok, cmd_bytesOf_ok, trivial⟩ [] [] [] Try.func61 rfl (by decide +kernel) rfl rfl (fun W x => by kernel_rfl)
noncomputable def ref01_SameW (W : Wd) (a : List Int) (b : List Int) : Option Bool := 
 W.cnd ((a.length : Int) != (b.length : Int)) (some false)
  (
  W.loop (fun (z1 : Int × Unit) again2 => 
   W.cnd (decide (z1.1 < (a.length : Int))) (W.idx a z1.1 fun x3 => W.idx b z1.1 fun x4 => 
    W.cnd (x3 != x4) (some false)
     ((again2 ((IntKind.i64.wrap (z1.1 + 1)), ()))))
    (some true))
   (0, ()))
noncomputable def ref01_Same (a : List Int) (b : List Int) : Option Bool := ref01_SameW stdW a b
noncomputable def ref01_Same_s : ES := ⟨(.pair (.slc (.int .u8)) (.pair (.slc (.int .u8)) .unit)), (.v .bool), fun x => ref01_Same x.1 x.2.1⟩
theorem ref01_Same_ok : ECok Try.prog 32 (.es ref01_Same_s)   := es_ok (A := (.pair (.slc (.int .u8)) (.pair (.slc (.int .u8)) .unit))) (Q := (.v .bool)) (fun W x => ref01_SameW W x.1 x.2.1) [] trivial [(6, [], (ofL [(0, true), (1, true), (2, true), (3, true), (4, true), (5, true), (6, true), (7, true), (8, true)]))] [] [(4, ⟨[(5, .t (.int .i64))], [], []⟩)] Try.func32 rfl (by decide +kernel) rfl rfl (fun W x => by kernel_rfl)
noncomputable def law34_livesW (W : Wd) : Option Bool := W.call (cmd_Encode (16, (0, (0, ((0, (0, ())), ((0, (0, ())), (0, (0, (0, (0, (0, (0, ([], ()))))))))))))) fun v1 => W.call (cmd_Decode (32 :: (0 :: []))) fun v2 => 
 W.cnd (v1.2.1 == 0) (W.call (ref01_Same v1.1 (32 :: (0 :: []))) fun v3 => 
  W.cnd v3 (
   W.cnd (v2.2.1 == 0) (some (v2.1.1 == 16))
    (some false))
   (some false))
  (some false)
noncomputable def law34_lives : Option Bool := law34_livesW stdW
noncomputable def law34_lives_s : ES := ⟨.unit, (.v .bool), fun x => law34_lives ⟩
theorem law34_lives_ok : ECok Try.prog 67 (.es law34_lives_s)   := es_ok (A := .unit) (Q := (.v .bool)) (fun W x => law34_livesW W ) [(61, .es cmd_Encode_s), (68, .es cmd_Decode_s), (32, .es ref01_Same_s)] ⟨cmd_Encode_ok, cmd_Decode_ok, ref01_Same_ok, trivial⟩ [] [] [] Try.func67 rfl (by decide +kernel) rfl rfl (fun W x => by kernel_rfl)
end Go.Proofs.Ytnldhkhnfodplaa

namespace Go.Proofs.Ytnldhkhnfodplaa
open Go Go.Vc Go.RowKit
/-! ### pack, in plain words -/
theorem join_b {β : Type} {k : Bool × Unit → Option β} {f : (Bool × Unit → Option β) → Option β} (b : Bool) (h : ∀ K : Bool × Unit → Option β, f K = K (b, ())) : stdW.join k f = k (b, ()) := h k
theorem idx_z {α β : Type} {x : α} {l : List α} (K : α → Option β) : stdW.idx (x :: l) 0 K = K x := by show idxF (x :: l) 0 K = _; unfold idxF; simp
def Bt (l : List Int) : Prop := ∀ b ∈ l, 0 ≤ b ∧ b < 256
theorem r_unfolded (u : Nat) (hu : u < 18446744073709551616) : pack_unfolded (u : Int) = some (unf u) := by
  show pack_unfoldedW stdW u = _
  unfold pack_unfoldedW
  rw [nn_w (by omega), unf_bits u hu]
theorem r_folded {n : Int} (hn : Is64 n) : pack_folded n = some (fold n : Int) := by
  show pack_foldedW stdW n = _
  unfold pack_foldedW
  rw [nn_w (by omega), nn_w (by omega), fold_bits n hn]
def resN (x : Option Nat × List Int × Int) : Option ((Int × Bool × Unit) × (Bool × (List Int) × Int × Unit)) := some ((((x.1.getD 0 : Nat) : Int), (x.1.isSome, ())), (true, (x.2.1, (x.2.2, ()))))
theorem r_number {bs : List Int} (hb : Bt bs) (hl : bs.length < 9223372036854775807) : pack_Reader_number true bs 0 = resN (numS 0 0 bs) := by
  show pack_Reader_numberW stdW true bs 0 = _
  unfold pack_Reader_numberW
  refine (loop_std (fun z => z.2.2.2.1.length) (fun z => ∃ (u sh : Nat) (l : List Int), z = ((u : Int), ((sh : Int), (true, (l, (0, ()))))) ∧ u < 18446744073709551616 ∧ sh ≤ 70 ∧ Bt l ∧ l.length < 9223372036854775807) (fun z => resN (numS z.2.1.toNat z.1.toNat z.2.2.2.1)) ⟨0, 0, bs, rfl, by omega, by omega, hb, hl⟩ (by show bs.length < _; omega) ?_)
  rintro _ ⟨u, sh, l, rfl, hu, hsh, hbt, hlen⟩ again ha
  cases l with
  | nil =>
    rw [cnd_y (by rfl), call_w (show pack_Reader_fail 4 true [] 0 = some ((), (true, ([], (4, ())))) from rfl)]
    show _ = resN (numS sh u [])
    unfold numS; rfl
  | cons b r =>
    have h0 := hbt b (by simp)
    have hr : Bt r := fun x hx => hbt x (by simp [hx])
    show stdW.cnd (((b :: r).length : Int) == 0) _ _ = resN (numS sh u (b :: r))
    rw [cnd_n (by simp; omega)]
    show stdW.idx (b :: r) 0 _ = _
    rw [idx_z, bnd_w (by omega) (by simp; omega)]
    refine (join_b (decide (63 < sh ∨ (sh = 63 ∧ 1 < b) ∨ (b = 0 ∧ 0 < sh))) fun K => ?_).trans ?_
    · show stdW.cnd (decide ((63 : Int) < (sh : Int))) _ _ = _
      by_cases h1 : 63 < sh
      · rw [cnd_y (by simpa using by omega), decide_eq_true (.inl h1)]
      · rw [cnd_n (by simpa using by omega)]
        show stdW.cnd ((sh : Int) == 63) _ _ = _
        by_cases h2 : sh = 63
        · rw [cnd_y (by simp [h2])]
          by_cases h3 : 1 < b
          · rw [cnd_y (by simpa using h3), decide_eq_true (.inr (.inl ⟨h2, h3⟩))]
          · rw [cnd_n (by simpa using h3)]
            by_cases h4 : b = 0
            · rw [cnd_y (by simp [h4]), decide_eq_true (show 63 < sh ∨ (sh = 63 ∧ 1 < b) ∨ (b = 0 ∧ 0 < sh) from .inr (.inr ⟨h4, by omega⟩))]
              show K (decide ((0 : Int) < (sh : Int)), ()) = _
              rw [decide_eq_true (by omega)]
            · rw [cnd_n (by simp [h4]), decide_eq_false (by omega)]
        · rw [cnd_n (by simp; omega)]
          by_cases h4 : b = 0
          · rw [cnd_y (by simp [h4])]
            show K (decide ((0 : Int) < (sh : Int)), ()) = _
            congr 2
            apply decide_eq_decide.2; omega
          · rw [cnd_n (by simp [h4]), decide_eq_false (by omega)]
    · have ed : (List.take (b :: r).length (b :: r)).drop (Int.toNat 1) = r := by simp
      by_cases hbad : 63 < sh ∨ (sh = 63 ∧ 1 < b) ∨ (b = 0 ∧ 0 < sh)
      · rw [decide_eq_true hbad]
        show stdW.cnd true _ _ = _
        rw [cnd_y (by rfl), call_w (show pack_Reader_fail 3 true _ 0 = some ((), (true, ([], (3, ())))) from rfl)]
        unfold numS; rw [if_pos hbad]; rfl
      · rw [decide_eq_false hbad]
        show stdW.cnd false _ _ = _
        rw [cnd_n (by rfl)]
        show stdW.nn (sh : Int) _ = _
        rw [nn_w (by omega)]
        unfold numS; rw [if_neg hbad]
        have ub := uNext_bits (sh := sh) (u := u) (b := b) hu (by omega) h0
        by_cases h128 : b < 128
        · rw [cnd_y (by simpa using h128), if_pos h128]
          show some ((Go.bits Go.BinOp.or Go.IntKind.u64 (u : Int) (IntKind.u64.wrap ((IntKind.u64.wrap (Go.bits Go.BinOp.and Go.IntKind.u8 b 127)) * (2 ^ (Min.min (Int.toNat (sh : Int)) (Go.IntKind.bits Go.IntKind.u64))))), (true, ())), (true, ((List.take (b :: r).length (b :: r)).drop (Int.toNat 1), (0, ())))) = _
          rw [ub, ed]; rfl
        · rw [cnd_n (by simpa using h128), if_neg h128]
          show again (Go.bits Go.BinOp.or Go.IntKind.u64 (u : Int) (IntKind.u64.wrap ((IntKind.u64.wrap (Go.bits Go.BinOp.and Go.IntKind.u8 b 127)) * (2 ^ (Min.min (Int.toNat (sh : Int)) (Go.IntKind.bits Go.IntKind.u64))))), (IntKind.i64.wrap ((sh : Int) + 7), (true, ((List.take (b :: r).length (b :: r)).drop (Int.toNat 1), (0, ()))))) = _
          rw [ub, ed]
          have es : IntKind.i64.wrap ((sh : Int) + 7) = ((sh + 7 : Nat) : Int) := by rw [IntWalk.i64_in _ (by omega)]; omega
          rw [es]
          exact ha _ ⟨uNext sh u b, sh + 7, r, rfl, uNext_lt hu, by omega, hr, by simp at hlen; omega⟩ (by show r.length < (b :: r).length; simp)
theorem numS_len : ∀ (bs : List Int) (sh u : Nat), (numS sh u bs).2.1.length ≤ bs.length
  | [], sh, u => by simp [numS]
  | b :: r, sh, u => by
    unfold numS
    split
    · simp
    · split
      · simp
      · have := numS_len r (sh + 7) (uNext sh u b); simp; omega
/-- a reading, as data -/
def rd (lo hi : Int) (s : List Int × Int) : Int × (List Int × Int) := ((rdInt s.1 s.2 lo hi).1, ((rdInt s.1 s.2 lo hi).2.1, (rdInt s.1 s.2 lo hi).2.2))
theorem r_pInt {lo hi : Int} {s : List Int × Int} (hb : Bt s.1) (hl : s.1.length < 9223372036854775807) : pack_Reader_Int lo hi true s.1 s.2 = some ((rd lo hi s).1, (true, ((rd lo hi s).2.1, ((rd lo hi s).2.2, ())))) := by
  obtain ⟨bs, e⟩ := s
  show pack_Reader_IntW stdW lo hi true bs e = _
  unfold pack_Reader_IntW rd rdInt
  rw [call_w (show pack_Reader_good true bs e = some ((e == 0), (true, (bs, (e, ())))) from rfl)]
  by_cases he : e = 0
  · subst he
    rw [cnd_n (by rfl)]
    rw [if_neg (by simp)]
    show stdW.call (pack_Reader_number true bs 0) _ = _
    rw [r_number hb hl]
    have hlt := numS_lt bs 0 0 (by decide)
    rcases hN : numS 0 0 bs with ⟨_ | u, r, e'⟩
    · rw [call_w (show resN (none, r, e') = some ((((0 : Nat) : Int), (false, ())), (true, (r, (e', ())))) from rfl)]
      show stdW.call (pack_unfolded ((0 : Nat) : Int)) _ = _
      rw [call_w (r_unfolded 0 (by decide)), cnd_y (by rfl)]
    · rw [hN] at hlt
      rw [call_w (show resN (some u, r, e') = some (((u : Int), (true, ())), (true, (r, (e', ())))) from rfl)]
      show stdW.call (pack_unfolded (u : Int)) _ = _
      rw [call_w (r_unfolded u (hlt u rfl)), cnd_n (by rfl)]
      refine (join_b (decide (unf u < lo ∨ hi < unf u)) fun K => ?_).trans ?_
      · by_cases h1 : unf u < lo
        · rw [cnd_y (by simpa using h1), decide_eq_true (.inl h1)]
        · rw [cnd_n (by simpa using h1)]
          congr 2; apply decide_eq_decide.2; simp [h1]
      · show stdW.cnd _ _ _ = _
        by_cases h1 : unf u < lo ∨ hi < unf u
        · rw [cnd_y (by simpa using h1)]
          show _ = some ((if unf u < lo ∨ hi < unf u then _ else _ : Int × List Int × Int).1, (true, ((if unf u < lo ∨ hi < unf u then _ else _ : Int × List Int × Int).2.1, ((if unf u < lo ∨ hi < unf u then _ else _ : Int × List Int × Int).2.2, ()))))
          rw [if_pos h1]; rfl
        · rw [cnd_n (by simpa using h1)]
          show _ = some ((if unf u < lo ∨ hi < unf u then _ else _ : Int × List Int × Int).1, (true, ((if unf u < lo ∨ hi < unf u then _ else _ : Int × List Int × Int).2.1, ((if unf u < lo ∨ hi < unf u then _ else _ : Int × List Int × Int).2.2, ()))))
          rw [if_neg h1]
  · rw [cnd_y (by simp [he])]
    rw [if_pos he]
end Go.Proofs.Ytnldhkhnfodplaa

namespace Go.Proofs.Ytnldhkhnfodplaa
open Go Go.Vc Go.RowKit
/-! ### pack: writing, the ends -/
theorem fd7 (u : Nat) : (u : Int).fdiv (2 ^ (Min.min (Int.toNat 7) (Go.IntKind.bits Go.IntKind.u64))) = ((u / 128 : Nat) : Int) := by
  have e : (2 : Int) ^ (Min.min (Int.toNat 7) (Go.IntKind.bits Go.IntKind.u64)) = 128 := by decide +kernel
  rw [e, Int.fdiv_eq_ediv_of_nonneg _ (by omega)]; omega
theorem r_wOne {u : Nat} {b : List Int} (hu : u < 18446744073709551616) (hb : b.length ≤ 100000000) : pack_Writer_one (u : Int) true b = some ((), (true, (b ++ encU u, ()))) := by
  show pack_Writer_oneW stdW u true b = _
  unfold pack_Writer_oneW
  refine (loop_std (fun z => z.1.toNat) (fun z => ∃ (v : Nat) (l : List Int), z = ((v : Int), (true, (l, ()))) ∧ v < 18446744073709551616 ∧ l.length + (encU v).length ≤ 100000020) (fun z => some ((), (true, (z.2.2.1 ++ encU z.1.toNat, ())))) ⟨u, b, rfl, hu, by have := encU_len10 hu; omega⟩ (by show (u : Int).toNat < _; omega) ?_)
  rintro _ ⟨v, l, rfl, hv, hl⟩ again ha
  show stdW.cnd (decide ((128 : Int) ≤ (v : Int))) _ _ = some ((), (true, (l ++ encU (v : Int).toNat, ())))
  rw [Int.toNat_natCast]
  by_cases h : 128 ≤ v
  · rw [cnd_y (by simpa using by omega)]
    rw [encU_ge h] at hl ⊢
    simp only [List.length_cons] at hl
    rw [room_w (by simp only [List.length_cons, List.length_nil]; omega) (by simp only [List.length_cons, List.length_nil]; omega), nn_w (by omega)]
    show again ((v : Int).fdiv (2 ^ (Min.min (Int.toNat 7) (Go.IntKind.bits Go.IntKind.u64))), (true, (l ++ (Go.bits Go.BinOp.or Go.IntKind.u8 (IntKind.u8.wrap (v : Int)) 128) :: [], ()))) = _
    rw [fd7, or128]
    refine (ha _ ⟨v / 128, _, rfl, by omega, by simp only [List.length_append, List.length_cons, List.length_nil]; omega⟩ (by show ((v / 128 : Nat) : Int).toNat < ((v : Nat) : Int).toNat; omega)).trans ?_
    rw [Int.toNat_natCast, List.append_assoc]; rfl
  · rw [cnd_n (by simpa using by omega)]
    rw [encU_lt (by omega)] at hl ⊢
    rw [room_w (by simp only [List.length_cons, List.length_nil] at hl ⊢; omega) (by simp only [List.length_cons, List.length_nil] at hl ⊢; omega)]
    show some ((), (true, (l ++ (IntKind.u8.wrap (v : Int)) :: [], ()))) = _
    rw [u8c _ (by omega)]
theorem encs_app (a b : List Int) : encs (a ++ b) = encs a ++ encs b := by unfold encs; rw [List.flatMap_append]
theorem encs_one (n : Int) : encs [n] = encU (fold n) := by unfold encs; simp
theorem encs_len {l : List Int} (h : ∀ n ∈ l, Is64 n) : (encs l).length ≤ 10 * l.length := by
  induction l with
  | nil => simp [encs]
  | cons x l ih =>
    have h1 := encU_len10 (fold_lt x (h x (by simp)))
    have h2 := ih fun n hn => h n (by simp [hn])
    unfold encs at h2 ⊢
    rw [List.flatMap_cons, List.length_append, List.length_cons]; omega
theorem r_wInt {l b : List Int} (hl : ∀ n ∈ l, Is64 n) (hn : l.length ≤ 1000000) (hb : b.length ≤ 50000000) : pack_Writer_Int l true b = some ((), (true, (b ++ encs l, ()))) := by
  show pack_Writer_IntW stdW l true b = _
  unfold pack_Writer_IntW
  rw [join_w, call_w (show pack_Writer_ok true b = some (true, (true, (b, ()))) from rfl), cnd_y (by rfl)]
  refine loop_list (l := l) (by omega) (fun i s => s = (true, (b ++ encs (l.take i), ()))) (fun _ _ => some ((), (true, (b ++ encs l, ())))) (by simp [encs]) ?_ ?_
  · rintro _ again rfl
    rw [cnd_end, List.take_length]
  · rintro i hi _ rfl again ha
    have hx := hl _ (List.getElem_mem hi)
    have hlen : (encs (l.take i)).length ≤ 10 * (l.take i).length := encs_len fun n hn => hl n (List.mem_of_mem_take hn)
    rw [List.length_take] at hlen
    rw [cnd_lt hi, idx_w hi, call_w (r_folded hx)]
    show stdW.call (pack_Writer_one (fold l[i] : Int) true (b ++ encs (l.take i))) _ = _
    rw [call_w (r_wOne (fold_lt _ hx) (by rw [List.length_append]; omega)), i64_s i (by omega)]
    refine ha _ ?_
    rw [show l.take (i + 1) = l.take i ++ [l[i]] by simp, encs_app, encs_one, List.append_assoc]
theorem nilq_w {β : Type} (e : Bool) (f : Bool → Option β) : stdW.nilq e f = nilF e f := rfl
theorem r_clone {l : List Int} (hl : l.length ≤ 100000000) : slices_Clonebyte_byte l = some l := by
  show slices_Clonebyte_byteW stdW l = _
  unfold slices_Clonebyte_byteW
  rw [nilq_w]
  refine nilF_eq ?_ ?_
  · rw [cnd_n (by rfl), room_w (by omega) (by omega)]; rfl
  · intro h
    rw [cnd_y (by rfl), List.isEmpty_iff.1 h]
theorem r_open {l : List Int} (hl : l.length ≤ 100000000) : pack_Open l = some ((true, (l, (0, ()))), ()) := by
  show pack_OpenW stdW l = _
  unfold pack_OpenW
  rw [call_w (r_clone hl)]
theorem r_done {l : List Int} (hl : l.length ≤ 100000000) : pack_Writer_Done true l = some (l, (true, (l, ()))) := by
  show pack_Writer_DoneW stdW true l = _
  unfold pack_Writer_DoneW
  rw [call_w (show pack_Writer_ok true l = some (true, (true, (l, ()))) from rfl), cnd_n (by rfl)]
  show stdW.call (slices_Clonebyte_byte l) _ = _
  rw [call_w (r_clone hl)]
/-- how a reading ends -/
def endE (s : List Int × Int) : Int := if s.2 ≠ 0 then s.2 else if 0 < s.1.length then 5 else 0
theorem r_pEnd (s : List Int × Int) : pack_Reader_End true s.1 s.2 = some (endE s, (true, (s.1, (s.2, ())))) := by
  obtain ⟨l, e⟩ := s
  show pack_Reader_EndW stdW true l e = _
  unfold pack_Reader_EndW endE
  rw [call_w (show pack_Reader_Err true l e = some (e, (true, (l, (e, ())))) from rfl)]
  by_cases he : e = 0
  · subst he
    rw [cnd_n (by rfl)]
    by_cases h : 0 < l.length
    · rw [cnd_y (decide_eq_true (by show (0 : Int) < (l.length : Int); omega))]; simp [h]
    · rw [cnd_n (decide_eq_false (by show ¬ (0 : Int) < (l.length : Int); omega))]; simp [h]
  · rw [cnd_y (by simp [he])]; simp [he]
end Go.Proofs.Ytnldhkhnfodplaa

namespace Go.Proofs.Ytnldhkhnfodplaa
open Go Go.Vc Go.RowKit
/-! ### the reference's reading of a number -/
end Go.Proofs.Ytnldhkhnfodplaa

namespace Go.Proofs.Ytnldhkhnfodplaa
open Go Go.Vc Go.RowKit
theorem i64_p (i : Nat) (h0 : 0 < i) (h : i < 9223372036854775807) : IntKind.i64.wrap ((i : Int) - 1) = ((i - 1 : Nat) : Int) := by rw [IntWalk.i64_in _ (by omega)]; omega
end Go.Proofs.Ytnldhkhnfodplaa

namespace Go.Proofs.Ytnldhkhnfodplaa
open Go Go.Vc Go.RowKit
/-! ### commands: letters, values, readings (plain) -/
abbrev S := List Int × Int
abbrev LO : Int := -9223372036854775808
abbrev HI : Int := 9223372036854775807
theorem rd_err {lo hi : Int} {s : S} (h : (rd lo hi s).2.2 = 0) : s.2 = 0 := rdInt_err s.1 s.2 lo hi h
theorem rd_bt {lo hi : Int} {s : S} (h : Bt s.1) : Bt (rd lo hi s).2.1 := rdInt_bytes s.1 s.2 lo hi h
theorem rd_canon {lo hi : Int} {s : S} (hb : Bt s.1) (h : (rd lo hi s).2.2 = 0) : s.1 = encU (fold (rd lo hi s).1) ++ (rd lo hi s).2.1 ∧ Is64 (rd lo hi s).1 := rdInt_canon' s.1 s.2 lo hi hb (rd_err h) h
theorem rd_len {lo hi : Int} {s : S} : (rd lo hi s).2.1.length ≤ s.1.length := by
  unfold rd rdInt
  have hl := numS_len s.1 0 0
  split
  · exact Nat.le_refl _
  · rcases hN : numS 0 0 s.1 with ⟨_ | u, r, e'⟩
    · rw [hN] at hl; exact hl
    · rw [hN] at hl
      dsimp only
      split
      · simp
      · exact hl
theorem rd_in {lo hi : Int} {s : S} (h : (rd lo hi s).2.2 = 0) : lo ≤ (rd lo hi s).1 ∧ (rd lo hi s).1 ≤ hi := by
  have h0 := rd_err h
  unfold rd rdInt at h ⊢
  rw [if_neg (by simpa using h0)] at h ⊢
  rcases hN : numS 0 0 s.1 with ⟨_ | u, r, e'⟩
  · rw [hN] at h
    dsimp only at h
    subst h
    exact (numS_none s.1 0 0 r hN).elim
  · rw [hN] at h
    dsimp only at h ⊢
    split at h
    · simp at h
    · rename_i h1; rw [if_neg h1]; dsimp only; omega
theorem rd_full {lo hi : Int} {s : S} (h : (rd lo hi s).2.2 = 0) : rd LO HI s = rd lo hi s := by
  have h0 := rd_err h
  unfold rd rdInt at h ⊢
  rw [if_neg (by simpa using h0)] at h
  rw [if_neg (by simpa using h0), if_neg (by simpa using h0)]
  have hlt := numS_lt s.1 0 0 (by decide)
  rcases hN : numS 0 0 s.1 with ⟨_ | u, r, e'⟩
  · rfl
  · rw [hN] at h hlt
    have hu := unf_is u (hlt u rfl)
    unfold Is64 at hu
    dsimp only at h ⊢
    split at h
    · simp at h
    · rename_i h1; rw [if_neg h1, if_neg (by unfold LO HI; omega)]
inductive Lt where
  | M | U | O | I | A | T | D | Q | P | N
instance : DecidableEq Lt := fun a b => by cases a <;> cases b <;> first | exact isTrue rfl | exact isFalse (fun h => by cases h)
def Lt.code : Lt → Nat
  | .M => 77 | .U => 85 | .O => 79 | .I => 73 | .A => 65 | .T => 84 | .D => 68 | .Q => 81 | .P => 80 | .N => 78
def vals : Lt → ACommand' → List Int
  | .M, c => [c.2.2.1]
  | .U, c => [c.2.2.2.1.1, c.2.2.2.1.2.1]
  | .O, c => [c.2.2.2.2.1.1, c.2.2.2.2.1.2.1]
  | .I, c => [c.2.2.2.2.2.1]
  | .A, c => [c.2.2.2.2.2.2.1]
  | .T, c => [c.2.2.2.2.2.2.2.1]
  | .D, c => [c.2.2.2.2.2.2.2.2.1]
  | .Q, c => [c.2.2.2.2.2.2.2.2.2.1]
  | .P, c => [c.2.2.2.2.2.2.2.2.2.2.1]
  | .N, c => (c.2.2.2.2.2.2.2.2.2.2.2.1.length : Int) :: c.2.2.2.2.2.2.2.2.2.2.2.1
def g0 (l : List Int) : Int := l.headD 0
def g1 (l : List Int) : Int := l.tail.headD 0
def put : Lt → List Int → ACommand' → ACommand'
  | .M, v, c => (c.1, (c.2.1, (g0 v, c.2.2.2)))
  | .U, v, c => (c.1, (c.2.1, (c.2.2.1, ((g0 v, (g1 v, ())), c.2.2.2.2))))
  | .O, v, c => (c.1, (c.2.1, (c.2.2.1, (c.2.2.2.1, ((g0 v, (g1 v, ())), c.2.2.2.2.2)))))
  | .I, v, c => (c.1, (c.2.1, (c.2.2.1, (c.2.2.2.1, (c.2.2.2.2.1, (g0 v, c.2.2.2.2.2.2))))))
  | .A, v, c => (c.1, (c.2.1, (c.2.2.1, (c.2.2.2.1, (c.2.2.2.2.1, (c.2.2.2.2.2.1, (g0 v, c.2.2.2.2.2.2.2)))))))
  | .T, v, c => (c.1, (c.2.1, (c.2.2.1, (c.2.2.2.1, (c.2.2.2.2.1, (c.2.2.2.2.2.1, (c.2.2.2.2.2.2.1, (g0 v, c.2.2.2.2.2.2.2.2))))))))
  | .D, v, c => (c.1, (c.2.1, (c.2.2.1, (c.2.2.2.1, (c.2.2.2.2.1, (c.2.2.2.2.2.1, (c.2.2.2.2.2.2.1, (c.2.2.2.2.2.2.2.1, (g0 v, c.2.2.2.2.2.2.2.2.2)))))))))
  | .Q, v, c => (c.1, (c.2.1, (c.2.2.1, (c.2.2.2.1, (c.2.2.2.2.1, (c.2.2.2.2.2.1, (c.2.2.2.2.2.2.1, (c.2.2.2.2.2.2.2.1, (c.2.2.2.2.2.2.2.2.1, (g0 v, c.2.2.2.2.2.2.2.2.2.2))))))))))
  | .P, v, c => (c.1, (c.2.1, (c.2.2.1, (c.2.2.2.1, (c.2.2.2.2.1, (c.2.2.2.2.2.1, (c.2.2.2.2.2.2.1, (c.2.2.2.2.2.2.2.1, (c.2.2.2.2.2.2.2.2.1, (c.2.2.2.2.2.2.2.2.2.1, (g0 v, c.2.2.2.2.2.2.2.2.2.2.2)))))))))))
  | .N, v, c => (c.1, (c.2.1, (c.2.2.1, (c.2.2.2.1, (c.2.2.2.2.1, (c.2.2.2.2.2.1, (c.2.2.2.2.2.2.1, (c.2.2.2.2.2.2.2.1, (c.2.2.2.2.2.2.2.2.1, (c.2.2.2.2.2.2.2.2.2.1, (c.2.2.2.2.2.2.2.2.2.2.1, (v.tail, ()))))))))))))
theorem vals_put_ne {L L' : Lt} (h : L ≠ L') (v : List Int) (c : ACommand') : vals L' (put L v c) = vals L' c := by
  cases L <;> cases L' <;> first | exact absurd rfl h | rfl
/-- values as they may be read: so many -/
def shape : Lt → List Int → Prop
  | .U, v => v.length = 2
  | .O, v => v.length = 2
  | .N, v => ∃ l : List Int, v = (l.length : Int) :: l
  | _, v => v.length = 1
theorem len1 {v : List Int} (h : v.length = 1) : ∃ a, v = [a] := by
  match v, h with
  | [a], _ => exact ⟨a, rfl⟩
theorem len2' {v : List Int} (h : v.length = 2) : ∃ a b, v = [a, b] := by
  match v, h with
  | [a, b], _ => exact ⟨a, b, rfl⟩
theorem vals_put {L : Lt} {v : List Int} (h : shape L v) (c : ACommand') : vals L (put L v c) = v := by
  cases L <;> first
    | (obtain ⟨a, rfl⟩ := len1 h; rfl)
    | (obtain ⟨a, b, rfl⟩ := len2' h; rfl)
    | (obtain ⟨l, rfl⟩ := h; rfl)
def one (lo hi : Int) (s : S) : List Int × S := ([(rd lo hi s).1], (rd lo hi s).2)
def two (lo hi : Int) (s : S) : List Int × S := ([(rd lo hi s).1, (rd lo hi (rd lo hi s).2).1], (rd lo hi (rd lo hi s).2).2)
def nC : Nat → S → List Int → List Int × S
  | 0, s, acc => (acc, s)
  | n + 1, s, acc => if s.2 = 0 then nC n (rd LO HI s).2 (acc ++ [(rd LO HI s).1]) else (acc, s)
def nR : Nat → S → List Int → List Int × S
  | 0, s, acc => (acc, s)
  | n + 1, s, acc => nR n (rd LO HI s).2 (acc ++ [(rd LO HI s).1])
def numsC (s : S) : List Int × S := ((rd 0 32 s).1 :: (nC (rd 0 32 s).1.toNat (rd 0 32 s).2 []).1, (nC (rd 0 32 s).1.toNat (rd 0 32 s).2 []).2)
def numsR (s : S) : List Int × S := ((rd 0 32 s).1 :: (nR (rd 0 32 s).1.toNat (rd 0 32 s).2 []).1, (nR (rd 0 32 s).1.toNat (rd 0 32 s).2 []).2)
def top : Lt → Int
  | .M => 8 | .U => 16 | .O => 16 | .I => 8 | .A => 4 | .T => 255 | .D => 1048576 | _ => 0
def parC : Lt → S → List Int × S
  | .U, s => two 0 16 s
  | .O, s => two 0 16 s
  | .Q, s => one LO HI s
  | .P, s => one LO HI s
  | .N, s => numsC s
  | L, s => one 0 (top L) s
def parR : Lt → S → List Int × S
  | .U, s => two LO HI s
  | .O, s => two LO HI s
  | .N, s => numsR s
  | _, s => one LO HI s
def okV : Lt → List Int → Prop
  | .Q, _ => True
  | .P, _ => True
  | .N, v => v.tail.length ≤ 32
  | L, v => ∀ x ∈ v, 0 ≤ x ∧ x ≤ top L
theorem one_ok {lo hi : Int} {s : S} (h : (one lo hi s).2.2 = 0) : one LO HI s = one lo hi s ∧ (lo ≤ (rd lo hi s).1 ∧ (rd lo hi s).1 ≤ hi) ∧ s.2 = 0 := by
  unfold one at h ⊢
  rw [rd_full h]
  exact ⟨rfl, rd_in h, rd_err h⟩
theorem two_ok {lo hi : Int} {s : S} (h : (two lo hi s).2.2 = 0) : two LO HI s = two lo hi s ∧ (lo ≤ (rd lo hi s).1 ∧ (rd lo hi s).1 ≤ hi) ∧ (lo ≤ (rd lo hi (rd lo hi s).2).1 ∧ (rd lo hi (rd lo hi s).2).1 ≤ hi) ∧ s.2 = 0 := by
  unfold two at h ⊢
  have h1 : (rd lo hi s).2.2 = 0 := rd_err h
  rw [rd_full h1, rd_full h]
  exact ⟨rfl, rd_in h1, rd_in h, rd_err h1⟩
theorem nC_err : ∀ (n : Nat) (s : S) (acc : List Int), (nC n s acc).2.2 = 0 → s.2 = 0
  | 0, s, acc, h => h
  | n + 1, s, acc, h => by
    unfold nC at h; split at h
    · assumption
    · exact h
theorem nC_R : ∀ (n : Nat) (s : S) (acc : List Int), (nC n s acc).2.2 = 0 → nR n s acc = nC n s acc
  | 0, s, acc, h => rfl
  | n + 1, s, acc, h => by
    have h0 : s.2 = 0 := nC_err (n + 1) s acc h
    unfold nC at h
    unfold nC nR
    rw [if_pos h0] at h ⊢
    exact nC_R n _ _ h
theorem nC_bytes : ∀ (n : Nat) (s : S) (acc : List Int), Bt s.1 → (nC n s acc).2.2 = 0 → ∃ l : List Int, (nC n s acc).1 = acc ++ l ∧ l.length = n ∧ s.1 = encs l ++ (nC n s acc).2.1 ∧ ∀ x ∈ l, Is64 x
  | 0, s, acc, hb, h => ⟨[], by simp [nC], rfl, by simp [nC, encs], by simp⟩
  | n + 1, s, acc, hb, h => by
    have h0 : s.2 = 0 := nC_err (n + 1) s acc h
    unfold nC at h ⊢
    rw [if_pos h0] at h ⊢
    have h1 : (rd LO HI s).2.2 = 0 := nC_err n _ _ h
    obtain ⟨l, e1, e2, e3, e4⟩ := nC_bytes n _ _ (rd_bt hb) h
    obtain ⟨c1, c2⟩ := rd_canon hb h1
    refine ⟨(rd LO HI s).1 :: l, by rw [e1]; simp, by simp [e2], ?_, fun x hx => ?_⟩
    · rw [c1, e3, show (rd LO HI s).1 :: l = [(rd LO HI s).1] ++ l from rfl, encs_app, encs_one, List.append_assoc]
    · rcases List.mem_cons.1 hx with rfl | hx
      · exact c2
      · exact e4 x hx
theorem nC_bt : ∀ (n : Nat) (s : S) (acc : List Int), Bt s.1 → Bt (nC n s acc).2.1
  | 0, s, acc, hb => hb
  | n + 1, s, acc, hb => by
    unfold nC; split
    · exact nC_bt n _ _ (rd_bt hb)
    · exact hb
theorem parC_ok {L : Lt} {s : S} (h : (parC L s).2.2 = 0) : parR L s = parC L s ∧ okV L (parC L s).1 ∧ s.2 = 0 := by
  have a1 : ∀ hi : Int, (one 0 hi s).2.2 = 0 → one LO HI s = one 0 hi s ∧ (∀ x ∈ (one 0 hi s).1, 0 ≤ x ∧ x ≤ hi) ∧ s.2 = 0 := fun hi h => by
    obtain ⟨h1, h2, h3⟩ := one_ok h
    exact ⟨h1, fun x hx => by simp only [one, List.mem_singleton] at hx; subst hx; exact h2, h3⟩
  have a2 : (two 0 16 s).2.2 = 0 → two LO HI s = two 0 16 s ∧ (∀ x ∈ (two 0 16 s).1, 0 ≤ x ∧ x ≤ 16) ∧ s.2 = 0 := fun h => by
    obtain ⟨h1, h2, h3, h4⟩ := two_ok h
    refine ⟨h1, fun x hx => ?_, h4⟩
    simp only [two, List.mem_cons, List.not_mem_nil, or_false] at hx
    rcases hx with rfl | rfl
    · exact h2
    · exact h3
  cases L with
  | U => exact a2 h
  | O => exact a2 h
  | Q => exact ⟨rfl, trivial, (one_ok h).2.2⟩
  | P => exact ⟨rfl, trivial, (one_ok h).2.2⟩
  | N =>
    have h' : (nC (rd 0 32 s).1.toNat (rd 0 32 s).2 []).2.2 = 0 := h
    have h0 := rd_err (nC_err _ _ _ h')
    refine ⟨by show numsR s = numsC s; unfold numsR numsC; rw [nC_R _ _ _ h'], ?_, h0⟩
    show (nC (rd 0 32 s).1.toNat (rd 0 32 s).2 []).1.length ≤ 32
    have hin := rd_in (nC_err _ _ _ h')
    have key : ∀ (n : Nat) (s : S) (acc : List Int), (nC n s acc).1.length ≤ acc.length + n := by
      intro n
      induction n with
      | zero => intro s acc; simp [nC]
      | succ n ih =>
        intro s acc; unfold nC; split
        · have := ih (rd LO HI s).2 (acc ++ [(rd LO HI s).1]); simp at this; omega
        · exact Nat.le_add_right _ _
    have := key (rd 0 32 s).1.toNat (rd 0 32 s).2 []
    simp at this; omega
  | M => exact a1 8 h
  | I => exact a1 8 h
  | A => exact a1 4 h
  | T => exact a1 255 h
  | D => exact a1 1048576 h
theorem parC_bytes {L : Lt} {s : S} (hb : Bt s.1) (h : (parC L s).2.2 = 0) : shape L (parC L s).1 ∧ s.1 = encs (parC L s).1 ++ (parC L s).2.1 ∧ (∀ x ∈ (parC L s).1, Is64 x) := by
  have a1 : ∀ lo hi : Int, (one lo hi s).2.2 = 0 → (one lo hi s).1.length = 1 ∧ s.1 = encs (one lo hi s).1 ++ (one lo hi s).2.1 ∧ (∀ x ∈ (one lo hi s).1, Is64 x) := fun lo hi h => by
    obtain ⟨c1, c2⟩ := rd_canon hb h
    refine ⟨rfl, ?_, fun x hx => by simp only [one, List.mem_singleton] at hx; subst hx; exact c2⟩
    unfold one; rw [encs_one]; exact c1
  have a2 : (two 0 16 s).2.2 = 0 → (two 0 16 s).1.length = 2 ∧ s.1 = encs (two 0 16 s).1 ++ (two 0 16 s).2.1 ∧ (∀ x ∈ (two 0 16 s).1, Is64 x) := fun h => by
    have h1 : (rd 0 16 s).2.2 = 0 := rd_err h
    obtain ⟨c1, c2⟩ := rd_canon hb h1
    obtain ⟨d1, d2⟩ := rd_canon (rd_bt hb) h
    refine ⟨rfl, ?_, fun x hx => ?_⟩
    · unfold two
      rw [show [(rd 0 16 s).1, (rd 0 16 (rd 0 16 s).2).1] = [(rd 0 16 s).1] ++ [(rd 0 16 (rd 0 16 s).2).1] from rfl, encs_app, encs_one, encs_one, List.append_assoc]
      dsimp only
      rw [← d1]; exact c1
    · simp only [two, List.mem_cons, List.not_mem_nil, or_false] at hx
      rcases hx with rfl | rfl
      · exact c2
      · exact d2
  cases L with
  | U => exact a2 h
  | O => exact a2 h
  | Q => exact a1 _ _ h
  | P => exact a1 _ _ h
  | N =>
    have h' : (nC (rd 0 32 s).1.toNat (rd 0 32 s).2 []).2.2 = 0 := h
    have h1 := nC_err _ _ _ h'
    obtain ⟨c1, c2⟩ := rd_canon hb h1
    have hin := rd_in h1
    obtain ⟨l, e1, e2, e3, e4⟩ := nC_bytes _ _ _ (rd_bt hb) h'
    have ev : (parC .N s).1 = (l.length : Int) :: l := by
      show (rd 0 32 s).1 :: (nC (rd 0 32 s).1.toNat (rd 0 32 s).2 []).1 = _
      rw [e1, List.nil_append, e2]; congr 1; omega
    refine ⟨⟨l, ev⟩, ?_, fun x hx => ?_⟩
    · have e5 : (parC .N s).1 = [(rd 0 32 s).1] ++ l := by rw [ev, e2]; show _ :: l = _ :: l; congr 1; omega
      rw [e5, encs_app, encs_one, List.append_assoc, c1]
      congr 1
    · rw [ev] at hx
      rcases List.mem_cons.1 hx with rfl | hx
      · unfold Is64; omega
      · exact e4 x hx
  | M => exact a1 _ _ h
  | I => exact a1 _ _ h
  | A => exact a1 _ _ h
  | T => exact a1 _ _ h
  | D => exact a1 _ _ h
theorem parC_bt {L : Lt} {s : S} (hb : Bt s.1) : Bt (parC L s).2.1 := by
  cases L with
  | N => exact nC_bt _ _ _ (rd_bt hb)
  | U => exact rd_bt (rd_bt hb)
  | O => exact rd_bt (rd_bt hb)
  | _ => exact rd_bt hb
/-! letter by letter -/
def runC : List Lt → S → ACommand' → ACommand' × S
  | [], s, c => (c, s)
  | L :: ls, s, c => runC ls (parC L s).2 (put L (parC L s).1 c)
def runR : List Lt → S → ACommand' → ACommand' × S
  | [], s, c => (c, s)
  | L :: ls, s, c => runR ls (parR L s).2 (put L (parR L s).1 c)
theorem runC_err : ∀ (ls : List Lt) (s : S) (c : ACommand'), (runC ls s c).2.2 = 0 → s.2 = 0
  | [], s, c, h => h
  | L :: ls, s, c, h => (parC_ok (runC_err ls _ _ h)).2.2
theorem runC_keep : ∀ (ls : List Lt) (s : S) (c : ACommand') (L' : Lt), L' ∉ ls → vals L' (runC ls s c).1 = vals L' c
  | [], s, c, L', h => rfl
  | L :: ls, s, c, L', h => by
    simp only [List.mem_cons, not_or] at h
    unfold runC
    rw [runC_keep ls _ _ L' h.2, vals_put_ne (Ne.symm h.1)]
/-- what is read well is read by the other one too, is as it may be, and is the bytes that it makes -/
theorem runC_ok : ∀ (ls : List Lt) (s : S) (c : ACommand'), ls.Nodup → Bt s.1 → (runC ls s c).2.2 = 0 →
    runR ls s c = runC ls s c ∧ (∀ L ∈ ls, okV L (vals L (runC ls s c).1) ∧ ∀ x ∈ vals L (runC ls s c).1, Is64 x) ∧ s.1 = (ls.flatMap fun L => encs (vals L (runC ls s c).1)) ++ (runC ls s c).2.1
  | [], s, c, hn, hb, h => ⟨rfl, by simp, by simp [runC]⟩
  | L :: ls, s, c, hn, hb, h => by
    have hn' := List.nodup_cons.1 hn
    have h1 : (parC L s).2.2 = 0 := runC_err ls _ _ h
    obtain ⟨p1, p2, p3⟩ := parC_ok h1
    obtain ⟨q1, q2, q3⟩ := parC_bytes hb h1
    obtain ⟨i1, i2, i3⟩ := runC_ok ls (parC L s).2 (put L (parC L s).1 c) hn'.2 (parC_bt hb) h
    have ev : vals L (runC (L :: ls) s c).1 = (parC L s).1 := by
      show vals L (runC ls (parC L s).2 (put L (parC L s).1 c)).1 = _
      rw [runC_keep ls _ _ L hn'.1, vals_put q1]
    refine ⟨by show runR ls (parR L s).2 (put L (parR L s).1 c) = _; rw [p1]; exact i1, fun L' hL => ?_, ?_⟩
    · rcases List.mem_cons.1 hL with rfl | hL
      · rw [ev]; exact ⟨p2, q3⟩
      · exact i2 L' hL
    · rw [List.flatMap_cons, ev, List.append_assoc, q2]
      congr 1
end Go.Proofs.Ytnldhkhnfodplaa

namespace Go.Proofs.Ytnldhkhnfodplaa
open Go Go.Vc Go.RowKit
/-! ### which letters a command has -/
def flT : List (List Lt) := [[], [.M, .Q], [.I, .Q, .P, .N], [.A, .P, .Q], [.U, .M, .D], [.U], [.M, .Q], [.U, .O, .I, .Q, .P], [.U, .O, .I, .Q, .P], [.D], [.D], [.D], [.U, .I, .N], [.D, .O, .Q], [.I, .P], [.A, .P], [], [.U, .A, .T, .Q], [.U, .A, .T, .Q], [.U, .O], [.U, .O], [.M, .Q], [.U], [.M], [.U, .O, .I, .Q, .P], [.M], [.U], [.U], [.U], [.U], [], [.M]]
def fl (op : Int) : List Lt := if 1 ≤ op ∧ op ≤ 31 then (flT[op.toNat]?).getD [] else []
def str (ls : List Lt) : ByteArray := ByteArray.mk (Array.mk (ls.map fun L => UInt8.ofNat L.code))
theorem fl_out {op : Int} (h : ¬ (1 ≤ op ∧ op ≤ 31)) : fl op = [] := by unfold fl; rw [if_neg h]
theorem op_cases {op : Int} (h : 1 ≤ op ∧ op ≤ 31) : ∃ n : Nat, op = (n : Int) ∧ (n = 1 ∨ n = 2 ∨ n = 3 ∨ n = 4 ∨ n = 5 ∨ n = 6 ∨ n = 7 ∨ n = 8 ∨ n = 9 ∨ n = 10 ∨ n = 11 ∨ n = 12 ∨ n = 13 ∨ n = 14 ∨ n = 15 ∨ n = 16 ∨ n = 17 ∨ n = 18 ∨ n = 19 ∨ n = 20 ∨ n = 21 ∨ n = 22 ∨ n = 23 ∨ n = 24 ∨ n = 25 ∨ n = 26 ∨ n = 27 ∨ n = 28 ∨ n = 29 ∨ n = 30 ∨ n = 31) := by
  obtain ⟨n, rfl⟩ := Int.eq_ofNat_of_zero_le (show 0 ≤ op by omega)
  exact ⟨n, rfl, by omega⟩
set_option maxRecDepth 10000 in
theorem r_cFields (op : Int) : cmd_Fields op = some (str (fl op)) := by
  by_cases h : 1 ≤ op ∧ op ≤ 31
  · obtain ⟨n, rfl, hn⟩ := op_cases h
    rcases hn with rfl | rfl | rfl | rfl | rfl | rfl | rfl | rfl | rfl | rfl | rfl | rfl | rfl | rfl | rfl | rfl | rfl | rfl | rfl | rfl | rfl | rfl | rfl | rfl | rfl | rfl | rfl | rfl | rfl | rfl | rfl <;> rfl
  · rw [fl_out h]
    have e : ∀ k : Int, (1 ≤ k ∧ k ≤ 31) → (op == k) = false := fun k hk => by simp; omega
    show cmd_FieldsW stdW op = _
    unfold cmd_FieldsW
    simp only [e 1 (by omega), e 2 (by omega), e 3 (by omega), e 4 (by omega), e 5 (by omega), e 6 (by omega), e 7 (by omega), e 8 (by omega), e 9 (by omega), e 10 (by omega), e 11 (by omega), e 12 (by omega), e 13 (by omega), e 14 (by omega), e 15 (by omega), e 16 (by omega), e 17 (by omega), e 18 (by omega), e 19 (by omega), e 20 (by omega), e 21 (by omega), e 22 (by omega), e 23 (by omega), e 24 (by omega), e 25 (by omega), e 26 (by omega), e 27 (by omega), e 28 (by omega), e 29 (by omega), e 30 (by omega), e 31 (by omega), joinF, cond_false]
    rfl
theorem fl_nodup (op : Int) : (fl op).Nodup := by
  by_cases h : 1 ≤ op ∧ op ≤ 31
  · obtain ⟨n, rfl, hn⟩ := op_cases h
    rcases hn with rfl | rfl | rfl | rfl | rfl | rfl | rfl | rfl | rfl | rfl | rfl | rfl | rfl | rfl | rfl | rfl | rfl | rfl | rfl | rfl | rfl | rfl | rfl | rfl | rfl | rfl | rfl | rfl | rfl | rfl | rfl <;> decide
  · rw [fl_out h]; exact List.nodup_nil
theorem fl_len (op : Int) : (fl op).length ≤ 5 := by
  by_cases h : 1 ≤ op ∧ op ≤ 31
  · obtain ⟨n, rfl, hn⟩ := op_cases h
    rcases hn with rfl | rfl | rfl | rfl | rfl | rfl | rfl | rfl | rfl | rfl | rfl | rfl | rfl | rfl | rfl | rfl | rfl | rfl | rfl | rfl | rfl | rfl | rfl | rfl | rfl | rfl | rfl | rfl | rfl | rfl | rfl <;> decide
  · rw [fl_out h]; simp
theorem str_size (ls : List Lt) : (str ls).size = ls.length := by show (ls.map _).toArray.size = _; simp
theorem code_lt (L : Lt) : L.code < 128 := by cases L <;> decide
theorem code_u8 (L : Lt) : (UInt8.ofNat L.code).toNat = L.code := by cases L <;> rfl
theorem str_get! (ls : List Lt) (i : Nat) (h : i < ls.length) : (str ls).get! i = UInt8.ofNat (ls[i]).code := by
  show (ls.map fun L => UInt8.ofNat L.code).toArray[i]! = _
  simp [h]
theorem dec_w (ls : List Lt) (i : Nat) (h : i < ls.length) : Utf8.decode (str ls) i = ((ls[i]).code, 1) := by
  unfold Utf8.decode
  simp only [Nat.add_zero, str_get! ls i h, code_u8]
  rw [if_pos (by have := code_lt ls[i]; omega)]
theorem next_w {β : Type} (ls : List Lt) (i : Nat) (h : i < ls.length) (K : Int → Int → Option β) (N : Option β) : stdW.next (str ls) (i : Int) K N = K ((ls[i]).code : Int) ((i + 1 : Nat) : Int) := by
  show nextF (str ls) (i : Int) K N = _
  unfold nextF
  rw [Int.toNat_natCast, decide_eq_true (by rw [str_size]; exact h), dec_w ls i h]
  rfl
theorem next_e {β : Type} (ls : List Lt) (i : Nat) (h : ls.length ≤ i) (K : Int → Int → Option β) (N : Option β) : stdW.next (str ls) (i : Int) K N = N := by
  show nextF (str ls) (i : Int) K N = _
  unfold nextF
  rw [Int.toNat_natCast, decide_eq_false (by rw [str_size]; omega)]
  rfl
end Go.Proofs.Ytnldhkhnfodplaa

namespace Go.Proofs.Ytnldhkhnfodplaa
open Go Go.Vc Go.RowKit
/-! ### the program's reading of a command -/
def okS (s : S) : Prop := Bt s.1 ∧ s.1.length < 9223372036854775807
theorem okS_rd {lo hi : Int} {s : S} (h : okS s) : okS (rd lo hi s).2 := ⟨rd_bt h.1, Nat.lt_of_le_of_lt rd_len h.2⟩
theorem rd_rng {hi : Int} {s : S} (h : 0 ≤ hi) : 0 ≤ (rd 0 hi s).1 ∧ (rd 0 hi s).1 ≤ hi := by
  unfold rd rdInt
  split
  · exact ⟨Int.le_refl _, h⟩
  · rcases numS 0 0 s.1 with ⟨_ | u, r, e'⟩
    · exact ⟨Int.le_refl _, h⟩
    · dsimp only
      split
      · exact ⟨Int.le_refl _, h⟩
      · dsimp only; omega
theorem r_small {to_ : Int} {s : S} (h : okS s) : cmd_small to_ true s.1 s.2 = some ((rd 0 to_ s).1, (true, ((rd 0 to_ s).2.1, ((rd 0 to_ s).2.2, ())))) := by
  show cmd_smallW stdW to_ true s.1 s.2 = _
  unfold cmd_smallW
  rw [call_w (r_pInt h.1 h.2)]
theorem r_place {s : S} (h : okS s) : cmd_place true s.1 s.2 = some (((rd 0 16 s).1, ((rd 0 16 (rd 0 16 s).2).1, ())), (true, ((rd 0 16 (rd 0 16 s).2).2.1, ((rd 0 16 (rd 0 16 s).2).2.2, ())))) := by
  show cmd_placeW stdW true s.1 s.2 = _
  unfold cmd_placeW
  rw [call_w (r_small h)]
  show stdW.call (cmd_small 16 true (rd 0 16 s).2.1 (rd 0 16 s).2.2) _ = _
  rw [call_w (r_small (okS_rd h))]
theorem r_numbers {s : S} (h : okS s) : cmd_numbers 32 true s.1 s.2 = some ((numsC s).1.tail, (true, ((numsC s).2.1, ((numsC s).2.2, ())))) := by
  show cmd_numbersW stdW 32 true s.1 s.2 = _
  unfold cmd_numbersW
  rw [join_w, call_w (r_small h)]
  have hr := rd_rng (hi := 32) (s := s) (by omega)
  refine (loop_std (fun z => z.1.toNat) (fun z => ∃ (n : Nat) (t : S) (acc : List Int), z = ((n : Int), (true, (t.1, (t.2, (acc, ()))))) ∧ okS t ∧ acc.length + n ≤ 32 ∧ nC n t acc = ((numsC s).1.tail, (numsC s).2)) (fun _ => some ((numsC s).1.tail, (true, ((numsC s).2.1, ((numsC s).2.2, ())))))
    ⟨(rd 0 32 s).1.toNat, (rd 0 32 s).2, [], by rw [Int.toNat_of_nonneg hr.1], okS_rd h, by simp; omega, rfl⟩ (by show (rd 0 32 s).1.toNat < _; omega) ?_)
  rintro _ ⟨n, t, acc, rfl, ht, hl, he⟩ again ha
  show stdW.cnd (decide ((0 : Int) < (n : Int))) _ _ = _
  cases n with
  | zero =>
    rw [cnd_n (by rfl)]
    unfold nC at he
    have e1 := congrArg (·.1) he; have e2 := congrArg (·.2) he
    dsimp only at e1 e2
    rw [← e1, ← e2]
  | succ n =>
    rw [cnd_y (decide_eq_true (by omega))]
    show stdW.call (pack_Reader_Err true t.1 t.2) _ = _
    rw [call_w (show pack_Reader_Err true t.1 t.2 = some (t.2, (true, (t.1, (t.2, ())))) from rfl)]
    unfold nC at he
    by_cases h0 : t.2 = 0
    · rw [cnd_y (by simp [h0])]
      rw [if_pos h0] at he
      show stdW.call (pack_Reader_Int (-9223372036854775808) 9223372036854775807 true t.1 t.2) _ = _
      rw [call_w (r_pInt ht.1 ht.2)]
      show stdW.room (acc.length + 1) 8 _ = _
      rw [room_w (by omega) (by omega)]
      show again (IntKind.i64.wrap (((n + 1 : Nat) : Int) - 1), (true, ((rd LO HI t).2.1, ((rd LO HI t).2.2, (acc ++ [(rd LO HI t).1], ()))))) = _
      rw [i64_p (n + 1) (by omega) (by omega)]
      exact ha _ ⟨n, (rd LO HI t).2, _, rfl, okS_rd ht, by simp; omega, he⟩ (by show ((n + 1 - 1 : Nat) : Int).toNat < ((n + 1 : Nat) : Int).toNat; omega)
    · rw [cnd_n (by simp [h0])]
      rw [if_neg h0] at he
      have e1 := congrArg (·.1) he; have e2 := congrArg (·.2) he
      dsimp only at e1 e2
      show some (acc, (true, (t.1, (t.2, ())))) = _
      rw [← e1, ← e2]
def flatT (c : ACommand') : Int × Int × Int × Int × Int × Int × Int × Int × Int × Int × Int × Int × Int × List Int × Unit :=
  (c.1, (c.2.1, (c.2.2.1, (c.2.2.2.1.1, (c.2.2.2.1.2.1, (c.2.2.2.2.1.1, (c.2.2.2.2.1.2.1, (c.2.2.2.2.2.1, (c.2.2.2.2.2.2.1, (c.2.2.2.2.2.2.2.1, (c.2.2.2.2.2.2.2.2.1, (c.2.2.2.2.2.2.2.2.2.1, (c.2.2.2.2.2.2.2.2.2.2.1, (c.2.2.2.2.2.2.2.2.2.2.2.1, ()))))))))))))))
theorem r_take (L : Lt) {s : S} (h : okS s) (c : ACommand') :
    cmd_take (L.code : Int) true s.1 s.2 c.1 c.2.1 c.2.2.1 c.2.2.2.1.1 c.2.2.2.1.2.1 c.2.2.2.2.1.1 c.2.2.2.2.1.2.1 c.2.2.2.2.2.1 c.2.2.2.2.2.2.1 c.2.2.2.2.2.2.2.1 c.2.2.2.2.2.2.2.2.1 c.2.2.2.2.2.2.2.2.2.1 c.2.2.2.2.2.2.2.2.2.2.1 c.2.2.2.2.2.2.2.2.2.2.2.1
      = some ((), (true, ((parC L s).2.1, ((parC L s).2.2, flatT (put L (parC L s).1 c))))) := by
  show cmd_takeW stdW (L.code : Int) true s.1 s.2 _ _ _ _ _ _ _ _ _ _ _ _ _ _ = _
  unfold cmd_takeW
  cases L with
  | M => rw [cnd_y (by rfl), call_w (r_small h)]; rfl
  | U => rw [cnd_n (by rfl), cnd_y (by rfl), call_w (r_place h)]; rfl
  | O => rw [cnd_n (by rfl), cnd_n (by rfl), cnd_y (by rfl), call_w (r_place h)]; rfl
  | I => rw [cnd_n (by rfl), cnd_n (by rfl), cnd_n (by rfl), cnd_y (by rfl), call_w (r_small h)]; rfl
  | A => rw [cnd_n (by rfl), cnd_n (by rfl), cnd_n (by rfl), cnd_n (by rfl), cnd_y (by rfl), call_w (r_small h)]; rfl
  | T => rw [cnd_n (by rfl), cnd_n (by rfl), cnd_n (by rfl), cnd_n (by rfl), cnd_n (by rfl), cnd_y (by rfl), call_w (r_small h)]; rfl
  | D => rw [cnd_n (by rfl), cnd_n (by rfl), cnd_n (by rfl), cnd_n (by rfl), cnd_n (by rfl), cnd_n (by rfl), cnd_y (by rfl), call_w (r_small h)]; rfl
  | Q => rw [cnd_n (by rfl), cnd_n (by rfl), cnd_n (by rfl), cnd_n (by rfl), cnd_n (by rfl), cnd_n (by rfl), cnd_n (by rfl), cnd_y (by rfl), call_w (r_pInt h.1 h.2)]; rfl
  | P => rw [cnd_n (by rfl), cnd_n (by rfl), cnd_n (by rfl), cnd_n (by rfl), cnd_n (by rfl), cnd_n (by rfl), cnd_n (by rfl), cnd_n (by rfl), cnd_y (by rfl), call_w (r_pInt h.1 h.2)]; rfl
  | N => rw [cnd_n (by rfl), cnd_n (by rfl), cnd_n (by rfl), cnd_n (by rfl), cnd_n (by rfl), cnd_n (by rfl), cnd_n (by rfl), cnd_n (by rfl), cnd_n (by rfl), cnd_y (by rfl), call_w (r_numbers h)]; rfl
theorem nC_len : ∀ (n : Nat) (s : S) (acc : List Int), (nC n s acc).2.1.length ≤ s.1.length
  | 0, s, acc => Nat.le_refl _
  | n + 1, s, acc => by
    unfold nC; split
    · exact Nat.le_trans (nC_len n _ _) rd_len
    · exact Nat.le_refl _
theorem parC_len (L : Lt) (s : S) : (parC L s).2.1.length ≤ s.1.length := by
  cases L with
  | N => exact Nat.le_trans (nC_len _ _ _) rd_len
  | U => exact Nat.le_trans rd_len rd_len
  | O => exact Nat.le_trans rd_len rd_len
  | _ => exact rd_len
theorem okS_par {L : Lt} {s : S} (h : okS s) : okS (parC L s).2 := ⟨parC_bt h.1, Nat.lt_of_le_of_lt (parC_len L s) h.2⟩
def zeroC : ACommand' := (0, (0, (0, ((0, (0, ())), ((0, (0, ())), (0, (0, (0, (0, (0, (0, ([], ()))))))))))))
def op0 (op by_ : Int) : ACommand' := (op, (by_, zeroC.2.2))
def finC (r : ACommand' × S) : ACommand' × Int × Unit := if endE r.2 ≠ 0 then (zeroC, (3, ())) else (r.1, (0, ()))
def readC (b : List Int) : ACommand' × S := runC (fl (rd 1 31 (b, 0)).1) (rd 0 8 (rd 1 31 (b, 0)).2).2 (op0 (rd 1 31 (b, 0)).1 (rd 0 8 (rd 1 31 (b, 0)).2).1)
theorem runC_step {ls : List Lt} {i : Nat} (h : i < ls.length) (s : S) (c : ACommand') : runC (ls.drop i) s c = runC (ls.drop (i + 1)) (parC ls[i] s).2 (put ls[i] (parC ls[i] s).1 c) := by
  rw [List.drop_eq_getElem_cons h]; rfl
theorem r_read {b : List Int} (hb : Bt b) (hl : b.length ≤ 100000000) : cmd_read b = some (finC (readC b)) := by
  show cmd_readW stdW b = _
  unfold cmd_readW
  have h0 : okS (b, 0) := ⟨hb, by show b.length < _; omega⟩
  rw [call_w (r_open hl)]
  show stdW.call (pack_Reader_Int 1 31 true (b, (0 : Int)).1 (b, (0 : Int)).2) _ = _
  rw [call_w (r_pInt h0.1 h0.2)]
  have h1 := okS_rd (lo := 1) (hi := 31) h0
  show stdW.call (cmd_small 8 true (rd 1 31 (b, 0)).2.1 (rd 1 31 (b, 0)).2.2) _ = _
  rw [call_w (r_small h1)]
  have h2 := okS_rd (lo := 0) (hi := 8) h1
  show stdW.call (cmd_Fields (rd 1 31 (b, 0)).1) _ = _
  rw [call_w (r_cFields _)]
  unfold readC
  have hls := fl_len (rd 1 31 (b, 0)).1
  generalize fl (rd 1 31 (b, 0)).1 = ls at *
  refine (loop_std (fun z => ls.length - z.2.2.2.2.2.2.2.2.2.2.2.2.2.2.2.2.2.1.toNat) (fun z => ∃ (i : Nat) (t : S) (c : ACommand'), z = (true, (t.1, (t.2, (c.1, (c.2.1, (c.2.2.1, (c.2.2.2.1.1, (c.2.2.2.1.2.1, (c.2.2.2.2.1.1, (c.2.2.2.2.1.2.1, (c.2.2.2.2.2.1, (c.2.2.2.2.2.2.1, (c.2.2.2.2.2.2.2.1, (c.2.2.2.2.2.2.2.2.1, (c.2.2.2.2.2.2.2.2.2.1, (c.2.2.2.2.2.2.2.2.2.2.1, (str ls, ((i : Int), (c.2.2.2.2.2.2.2.2.2.2.2.1, ())))))))))))))))))))
      ∧ i ≤ ls.length ∧ okS t ∧ runC (ls.drop i) t c = runC ls (rd 0 8 (rd 1 31 (b, 0)).2).2 (op0 (rd 1 31 (b, 0)).1 (rd 0 8 (rd 1 31 (b, 0)).2).1)) (fun _ => some (finC (runC ls (rd 0 8 (rd 1 31 (b, 0)).2).2 (op0 (rd 1 31 (b, 0)).1 (rd 0 8 (rd 1 31 (b, 0)).2).1))))
    ⟨0, (rd 0 8 (rd 1 31 (b, 0)).2).2, op0 (rd 1 31 (b, 0)).1 (rd 0 8 (rd 1 31 (b, 0)).2).1, rfl, by omega, h2, rfl⟩ ?_ ?_)
  · have : ls.length < 18446744073709551616 := by omega
    omega
  · rintro _ ⟨i, t, c, rfl, hi, ht, he⟩ again ha
    show stdW.next (str ls) (i : Int) _ _ = _
    by_cases hlt : i < ls.length
    · rw [next_w ls i hlt]
      show stdW.call (cmd_take ((ls[i]).code : Int) true t.1 t.2 c.1 c.2.1 c.2.2.1 c.2.2.2.1.1 c.2.2.2.1.2.1 c.2.2.2.2.1.1 c.2.2.2.2.1.2.1 c.2.2.2.2.2.1 c.2.2.2.2.2.2.1 c.2.2.2.2.2.2.2.1 c.2.2.2.2.2.2.2.2.1 c.2.2.2.2.2.2.2.2.2.1 c.2.2.2.2.2.2.2.2.2.2.1 c.2.2.2.2.2.2.2.2.2.2.2.1) _ = _
      rw [call_w (r_take _ ht c)]
      rw [runC_step hlt] at he
      exact ha _ ⟨i + 1, (parC ls[i] t).2, put ls[i] (parC ls[i] t).1 c, rfl, by omega, okS_par ht, he⟩ (by show ls.length - ((i + 1 : Nat) : Int).toNat < ls.length - ((i : Nat) : Int).toNat; omega)
    · obtain rfl : i = ls.length := by omega
      rw [next_e ls _ (Nat.le_refl _)]
      rw [List.drop_length] at he
      rw [← he]
      show stdW.call (pack_Reader_End true t.1 t.2) _ = _
      rw [call_w (r_pEnd t)]
      unfold finC
      show stdW.cnd (endE t != 0) _ _ = _
      by_cases h3 : endE t = 0
      · rw [cnd_n (by simp [h3]), if_neg (by simpa [runC] using h3)]; rfl
      · rw [cnd_y (by simp [h3]), if_pos (by simpa [runC] using h3)]; rfl
theorem r_decode {b : List Int} (hb : Bt b) (hl : b.length ≤ 100000000) : cmd_Decode b = some (finC (readC b)) := by
  show cmd_DecodeW stdW b = _
  unfold cmd_DecodeW
  rw [call_w (r_read hb hl)]
end Go.Proofs.Ytnldhkhnfodplaa

namespace Go.Proofs.Ytnldhkhnfodplaa
open Go Go.Vc Go.RowKit
/-! ### which commands may be -/
def wi (n to_ : Int) (b : Bool) : Bool := decide (n = 0) || (b && (decide (0 < n) && decide (n ≤ to_)))
def hs (c : ACommand') (L : Lt) : Bool := decide (L ∈ fl c.1)
def isB (c : ACommand') : Bool :=
  (!(decide (c.1 < 1) || decide (31 < c.1) || decide (c.2.1 < 0) || decide (8 < c.2.1))) &&
  (wi c.2.2.1 8 (hs c .M) && (wi c.2.2.2.2.2.1 8 (hs c .I) && (wi c.2.2.2.2.2.2.1 4 (hs c .A) && (wi c.2.2.2.2.2.2.2.1 255 (hs c .T) && wi c.2.2.2.2.2.2.2.2.1 1048576 (hs c .D))))) &&
  (wi c.2.2.2.1.1 16 (hs c .U) && (wi c.2.2.2.1.2.1 16 (hs c .U) && (wi c.2.2.2.2.1.1 16 (hs c .O) && wi c.2.2.2.2.1.2.1 16 (hs c .O)))) &&
  ((decide (c.2.2.2.2.2.2.2.2.2.1 = 0) || hs c .Q) && (decide (c.2.2.2.2.2.2.2.2.2.2.1 = 0) || hs c .P)) &&
  (decide (c.2.2.2.2.2.2.2.2.2.2.2.1.length = 0) || (hs c .N && decide (c.2.2.2.2.2.2.2.2.2.2.2.1.length ≤ 32)))
end Go.Proofs.Ytnldhkhnfodplaa

namespace Go.Proofs.Ytnldhkhnfodplaa
open Go Go.Vc Go.RowKit
/-! ### the reference's reading of a command -/
def readR (b : List Int) : ACommand' × S := runR (fl (rd LO HI (b, 0)).1) (rd LO HI (rd LO HI (b, 0)).2).2 (op0 (rd LO HI (b, 0)).1 (rd LO HI (rd LO HI (b, 0)).2).1)
def numsOf (c : ACommand') : List Int := c.2.2.2.2.2.2.2.2.2.2.2.1
end Go.Proofs.Ytnldhkhnfodplaa

namespace Go.Proofs.Ytnldhkhnfodplaa
open Go Go.Vc Go.RowKit
/-! ### both readings are one -/
theorem put_op (L : Lt) (v : List Int) (c : ACommand') : (put L v c).1 = c.1 ∧ (put L v c).2.1 = c.2.1 := by cases L <;> exact ⟨rfl, rfl⟩
theorem runC_op : ∀ (ls : List Lt) (s : S) (c : ACommand'), (runC ls s c).1.1 = c.1 ∧ (runC ls s c).1.2.1 = c.2.1
  | [], s, c => ⟨rfl, rfl⟩
  | L :: ls, s, c => by
    have h1 := runC_op ls (parC L s).2 (put L (parC L s).1 c)
    have h2 := put_op L (parC L s).1 c
    exact ⟨h1.1.trans h2.1, h1.2.trans h2.2⟩
def zeroV (L : Lt) (c : ACommand') : Prop := ∀ x ∈ vals L c, x = 0
theorem zero_op0 (L : Lt) (a b : Int) : zeroV L (op0 a b) := by
  intro x hx
  cases L <;> simp [vals, op0, zeroC] at hx <;> first | exact hx | (rcases hx with h | h <;> exact h)
theorem wi_t {n t : Int} : wi n t true = true ↔ 0 ≤ n ∧ n ≤ t ∨ n = 0 := by
  unfold wi; simp; omega
theorem wi_f {n t : Int} : wi n t false = true ↔ n = 0 := by unfold wi; simp
theorem isB_true (c : ACommand') : isB c = true ↔ (1 ≤ c.1 ∧ c.1 ≤ 31) ∧ (0 ≤ c.2.1 ∧ c.2.1 ≤ 8) ∧ (∀ L, L ∈ fl c.1 → okV L (vals L c)) ∧ (∀ L, L ∉ fl c.1 → zeroV L c) := by
  have w1 : ∀ (L : Lt) (n t : Int), 0 ≤ t → (wi n t (hs c L) = true ↔ (L ∈ fl c.1 → 0 ≤ n ∧ n ≤ t) ∧ (L ∉ fl c.1 → n = 0)) := by
    intro L n t ht
    unfold hs
    by_cases h : L ∈ fl c.1
    · rw [decide_eq_true h, wi_t]; simp only [h, true_implies, not_true, false_implies, and_true]; omega
    · rw [decide_eq_false h, wi_f]; simp only [h, false_implies, not_false_iff, true_implies, true_and]
  have w2 : ∀ (L : Lt) (p : Bool), (p || hs c L) = true ↔ (L ∉ fl c.1 → p = true) := by
    intro L p
    unfold hs
    by_cases h : L ∈ fl c.1
    · simp [h]
    · simp [h]
  unfold isB
  simp only [Bool.and_eq_true, w1 _ _ 8 (by omega), w1 _ _ 4 (by omega), w1 _ _ 255 (by omega), w1 _ _ 1048576 (by omega), w1 _ _ 16 (by omega), w2, Bool.not_eq_true', Bool.or_eq_false_iff, decide_eq_false_iff_not, decide_eq_true_eq]
  have wn : (decide (c.2.2.2.2.2.2.2.2.2.2.2.1.length = 0) || (hs c .N && decide (c.2.2.2.2.2.2.2.2.2.2.2.1.length ≤ 32))) = true ↔ (Lt.N ∈ fl c.1 → c.2.2.2.2.2.2.2.2.2.2.2.1.length ≤ 32) ∧ (Lt.N ∉ fl c.1 → c.2.2.2.2.2.2.2.2.2.2.2.1.length = 0) := by
    unfold hs
    by_cases h : Lt.N ∈ fl c.1
    · rw [decide_eq_true h]
      simp only [Bool.true_and, Bool.or_eq_true, decide_eq_true_eq, h, true_implies, not_true, false_implies, and_true]; omega
    · simp [h]
  rw [wn]
  constructor
  · rintro ⟨⟨⟨⟨⟨⟨⟨h1, h2⟩, h3⟩, h4⟩, hM, hI, hA, hT, hD⟩, hU1, hU2, hO1, hO2⟩, hQ, hP⟩, hN⟩
    refine ⟨by omega, by omega, fun L hL => ?_, fun L hL => ?_⟩
    · cases L with
      | M => intro x hx; simp only [vals, List.mem_singleton] at hx; subst hx; exact hM.1 hL
      | I => intro x hx; simp only [vals, List.mem_singleton] at hx; subst hx; exact hI.1 hL
      | A => intro x hx; simp only [vals, List.mem_singleton] at hx; subst hx; exact hA.1 hL
      | T => intro x hx; simp only [vals, List.mem_singleton] at hx; subst hx; exact hT.1 hL
      | D => intro x hx; simp only [vals, List.mem_singleton] at hx; subst hx; exact hD.1 hL
      | U => intro x hx; simp only [vals, List.mem_cons, List.not_mem_nil, or_false] at hx; rcases hx with rfl | rfl; exact hU1.1 hL; exact hU2.1 hL
      | O => intro x hx; simp only [vals, List.mem_cons, List.not_mem_nil, or_false] at hx; rcases hx with rfl | rfl; exact hO1.1 hL; exact hO2.1 hL
      | Q => trivial
      | P => trivial
      | N => exact hN.1 hL
    · intro x hx
      cases L with
      | M => simp only [vals, List.mem_singleton] at hx; subst hx; exact hM.2 hL
      | I => simp only [vals, List.mem_singleton] at hx; subst hx; exact hI.2 hL
      | A => simp only [vals, List.mem_singleton] at hx; subst hx; exact hA.2 hL
      | T => simp only [vals, List.mem_singleton] at hx; subst hx; exact hT.2 hL
      | D => simp only [vals, List.mem_singleton] at hx; subst hx; exact hD.2 hL
      | U => simp only [vals, List.mem_cons, List.not_mem_nil, or_false] at hx; rcases hx with rfl | rfl; exact hU1.2 hL; exact hU2.2 hL
      | O => simp only [vals, List.mem_cons, List.not_mem_nil, or_false] at hx; rcases hx with rfl | rfl; exact hO1.2 hL; exact hO2.2 hL
      | Q => simp only [vals, List.mem_singleton] at hx; subst hx; exact hQ hL
      | P => simp only [vals, List.mem_singleton] at hx; subst hx; exact hP hL
      | N =>
        have h0 := hN.2 hL
        have h1 : c.2.2.2.2.2.2.2.2.2.2.2.1 = [] := List.length_eq_zero_iff.1 h0
        simp only [vals, h1, List.length_nil, List.mem_singleton] at hx
        simpa using hx
  · rintro ⟨h1, h2, h3, h4⟩
    have one : ∀ (L : Lt) (n : Int), vals L c = [n] → (okV L (vals L c) → 0 ≤ n ∧ n ≤ top L) → (L ∈ fl c.1 → 0 ≤ n ∧ n ≤ top L) ∧ (L ∉ fl c.1 → n = 0) :=
      fun L n hv ho => ⟨fun h => ho (h3 L h), fun h => h4 L h n (by rw [hv]; simp)⟩
    refine ⟨⟨⟨⟨⟨⟨⟨by omega, by omega⟩, by omega⟩, by omega⟩, ?_, ?_, ?_, ?_, ?_⟩, ?_, ?_, ?_, ?_⟩, ?_, ?_⟩, ?_⟩
    · exact one .M _ rfl fun h => h _ (by simp [vals])
    · exact one .I _ rfl fun h => h _ (by simp [vals])
    · exact one .A _ rfl fun h => h _ (by simp [vals])
    · exact one .T _ rfl fun h => h _ (by simp [vals])
    · exact one .D _ rfl fun h => h _ (by simp [vals])
    · exact ⟨fun h => h3 .U h _ (by simp [vals]), fun h => h4 .U h _ (by simp [vals])⟩
    · exact ⟨fun h => h3 .U h _ (by simp [vals]), fun h => h4 .U h _ (by simp [vals])⟩
    · exact ⟨fun h => h3 .O h _ (by simp [vals]), fun h => h4 .O h _ (by simp [vals])⟩
    · exact ⟨fun h => h3 .O h _ (by simp [vals]), fun h => h4 .O h _ (by simp [vals])⟩
    · exact fun h => h4 .Q h _ (by simp [vals])
    · exact fun h => h4 .P h _ (by simp [vals])
    · refine ⟨fun h => h3 .N h, fun h => ?_⟩
      have := h4 .N h (c.2.2.2.2.2.2.2.2.2.2.2.1.length : Int) (by simp [vals])
      omega
theorem endE_0 {s : S} (h : endE s = 0) : s.2 = 0 ∧ s.1 = [] := by
  unfold endE at h
  split at h
  · rename_i h1; exact absurd h h1
  · rename_i h1
    split at h
    · cases h
    · rename_i h2; exact ⟨by simpa using h1, List.length_eq_zero_iff.1 (by omega)⟩
/-- what holds of what is read well -/
theorem read_ok {b : List Int} (hb : Bt b) (h : endE (readC b).2 = 0) : readR b = readC b ∧ isB (readC b).1 = true ∧
    b = encs [(readC b).1.1, (readC b).1.2.1] ++ ((fl (readC b).1.1).flatMap fun L => encs (vals L (readC b).1)) ∧ (Is64 (readC b).1.1 ∧ Is64 (readC b).1.2.1 ∧ ∀ L, ∀ x ∈ vals L (readC b).1, Is64 x) ∧ (numsOf (readC b).1).length ≤ 32 := by
  obtain ⟨e0, e1⟩ := endE_0 h
  have ho := runC_op (fl (rd 1 31 (b, 0)).1) (rd 0 8 (rd 1 31 (b, 0)).2).2 (op0 (rd 1 31 (b, 0)).1 (rd 0 8 (rd 1 31 (b, 0)).2).1)
  have hB := runC_err _ _ _ e0
  have hA := rd_err hB
  have fA := rd_full hA
  have fB := rd_full hB
  have iA := rd_in hA
  have iB := rd_in hB
  obtain ⟨cA, sA⟩ := rd_canon (s := (b, 0)) hb hA
  obtain ⟨cB, sB⟩ := rd_canon (s := (rd 1 31 (b, 0)).2) (rd_bt (s := (b, 0)) hb) hB
  obtain ⟨r1, r2, r3⟩ := runC_ok (fl (rd 1 31 (b, 0)).1) (rd 0 8 (rd 1 31 (b, 0)).2).2 (op0 (rd 1 31 (b, 0)).1 (rd 0 8 (rd 1 31 (b, 0)).2).1) (fl_nodup _) (rd_bt (s := (rd 1 31 (b, 0)).2) (rd_bt (s := (b, 0)) hb)) e0
  have hop : (readC b).1.1 = (rd 1 31 (b, 0)).1 := ho.1
  have hby : (readC b).1.2.1 = (rd 0 8 (rd 1 31 (b, 0)).2).1 := ho.2
  have hz : ∀ L, L ∉ fl (rd 1 31 (b, 0)).1 → zeroV L (readC b).1 := fun L hL => by
    unfold zeroV
    rw [show vals L (readC b).1 = vals L (op0 (rd 1 31 (b, 0)).1 (rd 0 8 (rd 1 31 (b, 0)).2).1) from runC_keep _ _ _ L hL]
    exact zero_op0 L _ _
  have hB' : isB (readC b).1 = true := by
    refine (isB_true _).2 ⟨by rw [hop]; exact iA, by rw [hby]; exact iB, ?_, ?_⟩
    · rw [hop]; exact fun L hL => (r2 L hL).1
    · rw [hop]; exact hz
  refine ⟨?_, hB', ?_, ⟨by rw [hop]; exact sA, by rw [hby]; exact sB, fun L x hx => ?_⟩, ?_⟩
  · unfold readR
    rw [fA, fB]; exact r1
  · rw [hop, hby, show [(rd 1 31 (b, 0)).1, (rd 0 8 (rd 1 31 (b, 0)).2).1] = [(rd 1 31 (b, 0)).1] ++ [(rd 0 8 (rd 1 31 (b, 0)).2).1] from rfl, encs_app, encs_one, encs_one]
    have r3' : (rd 0 8 (rd 1 31 (b, 0)).2).2.1 = ((fl (rd 1 31 (b, 0)).1).flatMap fun L => encs (vals L (readC b).1)) ++ (readC b).2.1 := r3
    rw [e1, List.append_nil] at r3'
    rw [← r3', List.append_assoc, ← cB]
    exact cA
  · by_cases hL : L ∈ fl (rd 1 31 (b, 0)).1
    · exact (r2 L hL).2 x hx
    · rw [hz L hL x hx]; unfold Is64; omega
  · by_cases hL : Lt.N ∈ fl (rd 1 31 (b, 0)).1
    · exact (r2 .N hL).1
    · have := hz .N hL ((numsOf (readC b).1).length : Int) (by simp [vals, numsOf])
      omega
end Go.Proofs.Ytnldhkhnfodplaa

namespace Go.Proofs.Ytnldhkhnfodplaa
open Go Go.Vc Go.RowKit
/-! ### writing a command; sameness -/
def okC (c : ACommand') : Prop := Is64 c.1 ∧ Is64 c.2.1 ∧ (∀ L, ∀ x ∈ vals L c, Is64 x) ∧ (numsOf c).length ≤ 1000
def bytesC (c : ACommand') : List Int := encs [c.1, c.2.1] ++ ((fl c.1).flatMap fun L => encs (vals L c))
theorem r_unit {u : AUnit'} {b : List Int} (h1 : Is64 u.1) (h2 : Is64 u.2.1) (hb : b.length ≤ 1000000) : cmd_unit u true b = some ((), (true, (b ++ encs [u.1, u.2.1], ()))) := by
  show cmd_unitW stdW u true b = _
  unfold cmd_unitW
  rw [call_w (r_wInt (l := [u.1, u.2.1]) (by intro n hn; simp at hn; rcases hn with rfl | rfl; exact h1; exact h2) (by simp) (by omega))]
theorem r_field {c : ACommand'} (L : Lt) {b : List Int} (hc : okC c) (hb : b.length ≤ 1000000) : cmd_field c (L.code : Int) true b = some ((), (true, (b ++ encs (vals L c), ()))) := by
  show cmd_fieldW stdW c (L.code : Int) true b = _
  unfold cmd_fieldW
  have hv := hc.2.2.1 L
  have one : ∀ x : Int, Is64 x → pack_Writer_Int (x :: []) true b = some ((), (true, (b ++ encs [x], ()))) := fun x hx => r_wInt (l := [x]) (by intro n hn; simp at hn; subst hn; exact hx) (by simp) (by omega)
  cases L with
  | M => rw [cnd_y (by rfl), call_w (one _ (hv _ (by simp [vals])))]; rfl
  | U => rw [cnd_n (by rfl), cnd_y (by rfl), call_w (r_unit (hv _ (by simp [vals])) (hv _ (by simp [vals])) hb)]; rfl
  | O => rw [cnd_n (by rfl), cnd_n (by rfl), cnd_y (by rfl), call_w (r_unit (hv _ (by simp [vals])) (hv _ (by simp [vals])) hb)]; rfl
  | I => rw [cnd_n (by rfl), cnd_n (by rfl), cnd_n (by rfl), cnd_y (by rfl), call_w (one _ (hv _ (by simp [vals])))]; rfl
  | A => rw [cnd_n (by rfl), cnd_n (by rfl), cnd_n (by rfl), cnd_n (by rfl), cnd_y (by rfl), call_w (one _ (hv _ (by simp [vals])))]; rfl
  | T => rw [cnd_n (by rfl), cnd_n (by rfl), cnd_n (by rfl), cnd_n (by rfl), cnd_n (by rfl), cnd_y (by rfl), call_w (one _ (hv _ (by simp [vals])))]; rfl
  | D => rw [cnd_n (by rfl), cnd_n (by rfl), cnd_n (by rfl), cnd_n (by rfl), cnd_n (by rfl), cnd_n (by rfl), cnd_y (by rfl), call_w (one _ (hv _ (by simp [vals])))]; rfl
  | Q => rw [cnd_n (by rfl), cnd_n (by rfl), cnd_n (by rfl), cnd_n (by rfl), cnd_n (by rfl), cnd_n (by rfl), cnd_n (by rfl), cnd_y (by rfl), call_w (one _ (hv _ (by simp [vals])))]; rfl
  | P => rw [cnd_n (by rfl), cnd_n (by rfl), cnd_n (by rfl), cnd_n (by rfl), cnd_n (by rfl), cnd_n (by rfl), cnd_n (by rfl), cnd_n (by rfl), cnd_y (by rfl), call_w (one _ (hv _ (by simp [vals])))]; rfl
  | N =>
    rw [cnd_n (by rfl), cnd_n (by rfl), cnd_n (by rfl), cnd_n (by rfl), cnd_n (by rfl), cnd_n (by rfl), cnd_n (by rfl), cnd_n (by rfl), cnd_n (by rfl), cnd_y (by rfl), call_w (one _ (hv _ (by simp [vals])))]
    have hn := hc.2.2.2
    unfold numsOf at hn
    show stdW.call (pack_Writer_Int c.2.2.2.2.2.2.2.2.2.2.2.1 true (b ++ encs [(c.2.2.2.2.2.2.2.2.2.2.2.1.length : Int)])) _ = _
    have h10 : (encs [(c.2.2.2.2.2.2.2.2.2.2.2.1.length : Int)]).length ≤ 10 := by
      have := encs_len (l := [(c.2.2.2.2.2.2.2.2.2.2.2.1.length : Int)]) (by intro n hn'; simp at hn'; subst hn'; unfold Is64; omega)
      simpa using this
    rw [call_w (r_wInt (fun n hn => hv n (by simp [vals, hn])) (by omega) (by rw [List.length_append]; omega)), List.append_assoc, ← encs_app]
    rfl
theorem vals_len {c : ACommand'} (hc : okC c) (L : Lt) : (encs (vals L c)).length ≤ 10010 := by
  have := encs_len (l := vals L c) (hc.2.2.1 L)
  have h2 : (vals L c).length ≤ 1001 := by
    have := hc.2.2.2
    unfold numsOf at this
    cases L <;> simp [vals] <;> omega
  omega
theorem r_bytesOf {c : ACommand'} (hc : okC c) : cmd_bytesOf c = some (bytesC c) := by
  show cmd_bytesOfW stdW c = _
  unfold cmd_bytesOfW
  rw [both_w, call_w (show pack_New = some ((true, ([], ())), ()) from rfl)]
  show stdW.call (pack_Writer_Int (c.1 :: (c.2.1 :: [])) true []) _ = _
  rw [call_w (r_wInt (l := [c.1, c.2.1]) (by intro n hn; simp at hn; rcases hn with rfl | rfl; exact hc.1; exact hc.2.1) (by simp) (by simp)), call_w (r_cFields _)]
  have hls := fl_len c.1
  unfold bytesC
  have h20 : (encs [c.1, c.2.1]).length ≤ 20 := by
    have := encs_len (l := [c.1, c.2.1]) (by intro n hn; simp at hn; rcases hn with rfl | rfl; exact hc.1; exact hc.2.1)
    simpa using this
  generalize fl c.1 = ls at *
  have hlen : ∀ l : List Lt, (l.flatMap fun L => encs (vals L c)).length ≤ 10010 * l.length := by
    intro l
    induction l with
    | nil => simp
    | cons L l ih => rw [List.flatMap_cons, List.length_append, List.length_cons]; have := vals_len hc L; omega
  refine (loop_std (fun z => ls.length - z.2.2.2.1.toNat) (fun z => ∃ i : Nat, z = (true, (encs [c.1, c.2.1] ++ ((ls.take i).flatMap fun L => encs (vals L c)), (str ls, ((i : Int), ())))) ∧ i ≤ ls.length) (fun _ => some (encs [c.1, c.2.1] ++ (ls.flatMap fun L => encs (vals L c)))) ⟨0, by simp, by omega⟩ (by show ls.length - 0 < _; omega) ?_)
  rintro _ ⟨i, rfl, hi⟩ again ha
  have hl1 := hlen (ls.take i)
  rw [List.length_take] at hl1
  show stdW.next (str ls) (i : Int) _ _ = _
  by_cases hlt : i < ls.length
  · rw [next_w ls i hlt]
    show stdW.call (cmd_field c ((ls[i]).code : Int) true (encs [c.1, c.2.1] ++ ((ls.take i).flatMap fun L => encs (vals L c)))) _ = _
    rw [call_w (r_field ls[i] hc (by rw [List.length_append]; omega))]
    refine ha _ ⟨i + 1, ?_, by omega⟩ (by show ls.length - ((i + 1 : Nat) : Int).toNat < ls.length - ((i : Nat) : Int).toNat; omega)
    rw [show ls.take (i + 1) = ls.take i ++ [ls[i]] by simp, List.flatMap_append, List.append_assoc]
    simp
  · obtain rfl : i = ls.length := by omega
    rw [next_e ls _ (Nat.le_refl _)]
    show stdW.call (pack_Writer_Done true (encs [c.1, c.2.1] ++ ((ls.take ls.length).flatMap fun L => encs (vals L c)))) _ = _
    rw [call_w (r_done (by rw [List.length_append]; omega)), List.take_length]
theorem r_sameL {α : Type} [DecidableEq α] {l m : List α} (f : Int × Unit → (Int × Unit → Option Bool) → Option Bool) (hl : l.length ≤ 1000000) (hm : l.length = m.length)
    (hf : ∀ (i : Nat) (h : i < l.length) (again : Int × Unit → Option Bool), f ((i : Int), ()) again = if l[i] = m[i]'(by omega) then again (((i + 1 : Nat) : Int), ()) else some false) (he : ∀ again : Int × Unit → Option Bool, f ((l.length : Int), ()) again = some true) : stdW.loop f (0, ()) = some (decide (l = m)) := by
  refine (loop_list (l := l) (by omega) (fun i _ => l.take i = m.take i) (fun _ _ => some (decide (l = m))) (s0 := ()) (by simp) ?_ ?_)
  · rintro ⟨⟩ again h
    rw [he]
    rw [List.take_length, hm, List.take_length] at h
    rw [decide_eq_true h]
  · rintro i hi ⟨⟩ h again ha
    rw [hf i hi]
    by_cases h1 : l[i] = m[i]'(by omega)
    · rw [if_pos h1, ha ()]
      rw [show l.take (i + 1) = l.take i ++ [l[i]] by simp, show m.take (i + 1) = m.take i ++ [m[i]'(by omega)] by simp, h, h1]
    · rw [if_neg h1, decide_eq_false (fun e => h1 (by subst e; rfl))]
theorem r_equal64 {l m : List Int} (hl : l.length ≤ 1000000) : slices_Equalint64_int64 l m = some (decide (l = m)) := by
  show slices_Equalint64_int64W stdW l m = _
  unfold slices_Equalint64_int64W
  by_cases h : l.length = m.length
  · rw [cnd_n (by simp [h])]
    refine r_sameL _ hl h (fun i hi again => ?_) (fun again => ?_)
    · rw [cnd_lt hi, idx_w hi, idx_w (by omega)]
      by_cases h1 : l[i] = m[i]'(by omega)
      · rw [cnd_n (by simp [h1]), if_pos h1]
        show again (IntKind.i64.wrap ((i : Int) + 1), ()) = _
        rw [i64_s i (by omega)]
      · rw [cnd_y (by simp [h1]), if_neg h1]
    · rw [cnd_end]
  · rw [cnd_y (by simp; omega), decide_eq_false (fun e => h (by rw [e]))]
theorem r_sameNum {l m : List Int} (hl : l.length ≤ 1000000) : ref01_SameNumbers l m = some (decide (l = m)) := by
  show ref01_SameNumbersW stdW l m = _
  unfold ref01_SameNumbersW
  by_cases h : l.length = m.length
  · rw [cnd_n (by simp [h])]
    refine r_sameL _ hl h (fun i hi again => ?_) (fun again => ?_)
    · rw [cnd_lt hi, idx_w hi, idx_w (by omega)]
      by_cases h1 : l[i] = m[i]'(by omega)
      · rw [cnd_n (by simp [h1]), if_pos h1]
        show again (IntKind.i64.wrap ((i : Int) + 1), ()) = _
        rw [i64_s i (by omega)]
      · rw [cnd_y (by simp [h1]), if_neg h1]
    · rw [cnd_end]
  · rw [cnd_y (by simp; omega), decide_eq_false (fun e => h (by rw [e]))]
theorem r_sameB {l m : List Int} (hl : l.length ≤ 1000000) : ref01_Same l m = some (decide (l = m)) := by
  show ref01_SameW stdW l m = _
  unfold ref01_SameW
  by_cases h : l.length = m.length
  · rw [cnd_n (by simp [h])]
    refine r_sameL _ hl h (fun i hi again => ?_) (fun again => ?_)
    · rw [cnd_lt hi, idx_w hi, idx_w (by omega)]
      by_cases h1 : l[i] = m[i]'(by omega)
      · rw [cnd_n (by simp [h1]), if_pos h1]
        show again (IntKind.i64.wrap ((i : Int) + 1), ()) = _
        rw [i64_s i (by omega)]
      · rw [cnd_y (by simp [h1]), if_neg h1]
    · rw [cnd_end]
  · rw [cnd_y (by simp; omega), decide_eq_false (fun e => h (by rw [e]))]
end Go.Proofs.Ytnldhkhnfodplaa

namespace Go.Proofs.Ytnldhkhnfodplaa
open Go Go.Vc Go.RowKit
/-! ### one command or two -/
def eqC (a b : ACommand') : Bool :=
  (numsOf a == numsOf b) && ((a.1 == b.1) && ((a.2.1 == b.2.1) && ((a.2.2.1 == b.2.2.1) && (((a.2.2.2.1.1 == b.2.2.2.1.1) && (a.2.2.2.1.2.1 == b.2.2.2.1.2.1)) && (((a.2.2.2.2.1.1 == b.2.2.2.2.1.1) && (a.2.2.2.2.1.2.1 == b.2.2.2.2.1.2.1)) && ((a.2.2.2.2.2.1 == b.2.2.2.2.2.1) && ((a.2.2.2.2.2.2.1 == b.2.2.2.2.2.2.1) && ((a.2.2.2.2.2.2.2.1 == b.2.2.2.2.2.2.2.1) && ((a.2.2.2.2.2.2.2.2.1 == b.2.2.2.2.2.2.2.2.1) && ((a.2.2.2.2.2.2.2.2.2.1 == b.2.2.2.2.2.2.2.2.2.1) && (a.2.2.2.2.2.2.2.2.2.2.1 == b.2.2.2.2.2.2.2.2.2.2.1)))))))))))
theorem eqC_true {a b : ACommand'} (h : eqC a b = true) : a = b := by
  obtain ⟨a1, a2, a3, ⟨a4, a5, ⟨⟩⟩, ⟨a6, a7, ⟨⟩⟩, a8, a9, a10, a11, a12, a13, a14, ⟨⟩⟩ := a
  obtain ⟨b1, b2, b3, ⟨b4, b5, ⟨⟩⟩, ⟨b6, b7, ⟨⟩⟩, b8, b9, b10, b11, b12, b13, b14, ⟨⟩⟩ := b
  simp only [eqC, numsOf, Bool.and_eq_true, beq_iff_eq] at h
  obtain ⟨h14, h1, h2, h3, ⟨h4, h5⟩, ⟨h6, h7⟩, h8, h9, h10, h11, h12, h13⟩ := h
  subst h1 h2 h3 h4 h5 h6 h7 h8 h9 h10 h11 h12 h13 h14
  rfl
theorem eqC_refl (a : ACommand') : eqC a a = true := by simp [eqC]
instance : DecidableEq ACommand' := fun a b => if h : eqC a b = true then isTrue (eqC_true h) else isFalse (fun e => h (e ▸ eqC_refl a))
theorem cond_and (b c : Bool) : (bif b then some c else some false) = some (b && c) := by cases b <;> rfl
theorem r_csame {a b : ACommand'} (h : (numsOf a).length ≤ 1000) : cmd_same a b = some (eqC a b) := by
  show cmd_sameW stdW a b = _
  unfold cmd_sameW
  unfold numsOf at h
  have e : decide (a.2.2.2.2.2.2.2.2.2.2.2.1 = b.2.2.2.2.2.2.2.2.2.2.2.1) = (a.2.2.2.2.2.2.2.2.2.2.2.1 == b.2.2.2.2.2.2.2.2.2.2.2.1) := by rw [Bool.eq_iff_iff]; simp
  rw [call_w (r_equal64 (l := a.2.2.2.2.2.2.2.2.2.2.2.1) (m := b.2.2.2.2.2.2.2.2.2.2.2.1) (by omega)), e]
  simp only [cond_and]
  rfl
/-! ### may it be, its bytes -/
theorem encs_bt {l : List Int} : Bt (encs l) := by
  have one : ∀ u : Nat, Bt (encU u) := by
    intro u
    induction u using Nat.strongRecOn with
    | ind u ih =>
      by_cases h : u < 128
      · rw [encU_lt h]; intro b hb; simp at hb; subst hb; omega
      · rw [encU_ge (by omega)]; intro b hb
        rcases List.mem_cons.1 hb with rfl | hb
        · omega
        · exact ih (u / 128) (by omega) b hb
  intro b hb
  obtain ⟨n, _, hb⟩ := List.mem_flatMap.1 (show b ∈ l.flatMap fun n => encU (fold n) from hb)
  exact one _ b hb
theorem bytesC_bt (c : ACommand') : Bt (bytesC c) := by
  intro b hb
  rcases List.mem_append.1 (show b ∈ encs [c.1, c.2.1] ++ ((fl c.1).flatMap fun L => encs (vals L c)) from hb) with hb | hb
  · exact encs_bt b hb
  · obtain ⟨L, _, hb⟩ := List.mem_flatMap.1 hb
    exact encs_bt b hb
theorem bytesC_len {c : ACommand'} (hc : okC c) : (bytesC c).length ≤ 100000 := by
  have h20 : (encs [c.1, c.2.1]).length ≤ 20 := by
    have := encs_len (l := [c.1, c.2.1]) (by intro n hn; simp at hn; rcases hn with rfl | rfl; exact hc.1; exact hc.2.1)
    simpa using this
  have hlen : ∀ l : List Lt, (l.flatMap fun L => encs (vals L c)).length ≤ 10010 * l.length := by
    intro l
    induction l with
    | nil => simp
    | cons L l ih => rw [List.flatMap_cons, List.length_append, List.length_cons]; have := vals_len hc L; omega
  have h1 := hlen (fl c.1)
  have h2 := fl_len c.1
  unfold bytesC
  rw [List.length_append]; omega
/-- whether it may be -/
def chkC (c : ACommand') : Int := if (finC (readC (bytesC c))).2.1 = 0 ∧ (finC (readC (bytesC c))).1 = c then 0 else 3
theorem nums_fin {b : List Int} (hb : Bt b) : (numsOf (finC (readC b)).1).length ≤ 1000 := by
  unfold finC
  by_cases h : endE (readC b).2 = 0
  · rw [if_neg (by simp [h])]
    have := (read_ok hb h).2.2.2.2
    show (numsOf (readC b).1).length ≤ 1000
    omega
  · rw [if_pos h]; show (numsOf zeroC).length ≤ 1000; simp [numsOf, zeroC]
theorem r_check {c : ACommand'} (hc : okC c) : cmd_Check c = some (chkC c) := by
  show cmd_CheckW stdW c = _
  unfold cmd_CheckW chkC
  show stdW.call (cmd_bytesOf c) _ = _
  rw [call_w (r_bytesOf hc), call_w (r_read (bytesC_bt c) (by have := bytesC_len hc; omega)), join_w]
  have hn := nums_fin (bytesC_bt c)
  generalize finC (readC (bytesC c)) = r at *
  by_cases h : r.2.1 = 0
  · rw [cnd_n (by simp [h])]
    show stdW.call (cmd_same r.1 c) _ = _
    rw [call_w (r_csame hn)]
    show stdW.cnd (!eqC r.1 c) _ _ = _
    by_cases he : r.1 = c
    · rw [he, eqC_refl, cnd_n (by rfl), if_pos (show r.2.1 = 0 ∧ c = c from ⟨h, rfl⟩)]
    · have : eqC r.1 c = false := by cases h2 : eqC r.1 c; rfl; exact absurd (eqC_true h2) he
      rw [this, cnd_y (by rfl), if_neg (show ¬ (r.2.1 = 0 ∧ r.1 = c) from fun h => he h.2)]
  · rw [cnd_y (by simp [h]), if_neg (show ¬ (r.2.1 = 0 ∧ r.1 = c) from fun h' => h h'.1)]
    show stdW.cnd true _ _ = _
    rw [cnd_y (by rfl)]
theorem r_encode {c : ACommand'} (hc : okC c) : cmd_Encode c = some (if chkC c = 0 then (bytesC c, (0, ())) else ([], (chkC c, ()))) := by
  show cmd_EncodeW stdW c = _
  unfold cmd_EncodeW
  show stdW.call (cmd_Check c) _ = _
  rw [call_w (r_check hc)]
  by_cases h : chkC c = 0
  · rw [cnd_n (by simp [h]), if_pos h]
    show stdW.call (cmd_bytesOf c) _ = _
    rw [call_w (r_bytesOf hc)]
  · rw [cnd_y (by simp [h]), if_neg h]
/-! ### it lives -/
def dayC : ACommand' := (16, (0, zeroC.2.2))
theorem day_bytes : bytesC dayC = [32, 0] := by
  unfold bytesC
  have : fl dayC.1 = [] := rfl
  rw [this]
  show encs [16, 0] ++ [] = _
  unfold encs
  simp only [List.flatMap_cons, List.flatMap_nil, List.append_nil]
  rw [show fold 16 = 32 from rfl, show fold 0 = 0 from rfl, encU_lt (by omega), encU_lt (by omega)]
  rfl
theorem day_read : finC (readC [32, 0]) = (dayC, (0, ())) := by
  have h : (eqC (finC (readC [32, 0])).1 dayC && ((finC (readC [32, 0])).2.1 == 0)) = true := by decide +kernel
  simp only [Bool.and_eq_true, beq_iff_eq] at h
  exact Prod.ext (eqC_true h.1) (Prod.ext h.2 rfl)
theorem zero_ok : okC zeroC := by
  have z : Is64 0 := by unfold Is64; omega
  refine ⟨z, z, fun L x hx => ?_, by simp [numsOf, zeroC]⟩
  cases L <;> simp [vals, zeroC] at hx <;> subst hx <;> exact z
theorem day_ok : okC dayC := by
  have z : Is64 0 := by unfold Is64; omega
  refine ⟨by show Is64 16; unfold Is64; omega, z, fun L x hx => ?_, by simp [numsOf, dayC, zeroC]⟩
  cases L <;> simp [vals, dayC, zeroC] at hx <;> subst hx <;> exact z
theorem day_chk : chkC dayC = 0 := by unfold chkC; rw [day_bytes, day_read]; exact if_pos ⟨rfl, rfl⟩
theorem r_lives34 : law34_lives = some true := by
  show law34_livesW stdW = _
  unfold law34_livesW
  show stdW.call (cmd_Encode dayC) _ = _
  rw [call_w (r_encode day_ok), if_pos day_chk, day_bytes, call_w (r_decode (b := [32, 0]) (by intro b hb; simp at hb; omega) (by simp)), day_read, cnd_y (by rfl)]
  show stdW.call (ref01_Same [32, 0] [32, 0]) _ = _
  rw [call_w (r_sameB (by simp)), decide_eq_true rfl, cnd_y (by rfl), cnd_y (by rfl)]
  rfl
end Go.Proofs.Ytnldhkhnfodplaa

namespace Go.Vc
open Go Go.RowKit
/-! what a well formed argument is known to be -/
def DT.okD : (t : DT) → t.den → Prop
  | .int k, n => (Lit.int k n).wf = true
  | .bool, _ => True
  | .str, s => s.size ≤ maxLen
  | .slc t, l => (∀ x ∈ l, t.okD x) ∧ l.length ≤ maxLen
  | .unit, _ => True
  | .pair a b, x => a.okD x.1 ∧ b.okD x.2
theorem wf_i64 {n : Int} (h : (Lit.int .i64 n).wf = true) : -9223372036854775808 ≤ n ∧ n ≤ 9223372036854775807 := by
  simp [Lit.wf, IntKind.min, IntKind.max, IntKind.signed, IntKind.bits] at h; omega
theorem wf_u8 {n : Int} (h : (Lit.int .u8 n).wf = true) : 0 ≤ n ∧ n ≤ 255 := by
  simp [Lit.wf, IntKind.min, IntKind.max, IntKind.signed, IntKind.bits] at h; omega
end Go.Vc

namespace Go.Proofs.Ytnldhkhnfodplaa
open Go Go.Vc Go.RowKit
/-! ### the law of reading commands -/
theorem r_cut (b : List Int) : ref01_Cut b 400 = some (b.take 400) := by
  show ref01_CutW stdW b 400 = _
  unfold ref01_CutW
  by_cases h : 400 < b.length
  · rw [cnd_y (decide_eq_true (by omega)), bnd_w (by omega) (by omega)]; rfl
  · rw [cnd_n (decide_eq_false (by omega)), List.take_of_length_le (l := b) (by omega)]
end Go.Proofs.Ytnldhkhnfodplaa

namespace Go.Proofs.Ytnldhkhnfodplaa
open Go Go.Vc Go.RowKit
/-! ### what was written is read back -/
theorem rd_enc {n lo hi : Int} (hn : Is64 n) (h : lo ≤ n ∧ n ≤ hi) (r : List Int) : rd lo hi (encU (fold n) ++ r, 0) = (n, (r, 0)) := by
  unfold rd
  simp only [rdInt_enc n hn lo hi r h]
end Go.Proofs.Ytnldhkhnfodplaa

namespace Go.Proofs.Ytnldhkhnfodplaa
open Go Go.Vc Go.RowKit
set_option maxRecDepth 100000
noncomputable def ref04_IntW (W : Wd) (n : Int) : Option (List Int) := 
 W.join (fun (z1 : Int × Unit) => 
  W.loop (fun (z2 : Int × List (Int) × Unit) again3 => 
   W.cnd (decide (128 ≤ z2.1)) (W.nz 128 (W.room (z2.2.1.length + ((IntKind.u8.wrap (IntKind.u64.wrap ((Int.tmod z2.1 128) + 128))) :: []).length) 1 (W.nz 128 ((again3 ((IntKind.u64.wrap (Int.tdiv z2.1 128)), ((z2.2.1 ++ ((IntKind.u8.wrap (IntKind.u64.wrap ((Int.tmod z2.1 128) + 128))) :: [])), ())))))))
    (W.room (z2.2.1.length + ((IntKind.u8.wrap z2.1) :: []).length) 1 (some (z2.2.1 ++ ((IntKind.u8.wrap z2.1) :: [])))))
   (z1.1, ([], ())))
  fun k4 => 
  W.cnd (decide (0 ≤ n)) ((k4 ((IntKind.u64.wrap (2 * (IntKind.u64.wrap n))), ())))
   ((k4 ((IntKind.u64.wrap ((IntKind.u64.wrap (2 * (IntKind.u64.wrap (IntKind.i64.wrap (0 - (IntKind.i64.wrap (n + 1))))))) + 1)), ())))
noncomputable def ref04_Int (n : Int) : Option (List Int) := ref04_IntW stdW n
noncomputable def ref04_Int_s : ES := ⟨(.pair (.int .i64) .unit), (.own 5 (.int .u8)), fun x => ref04_Int x.1⟩
theorem ref04_Int_ok : ECok Try.prog 85 (.es ref04_Int_s)   := es_ok (A := (.pair (.int .i64) .unit)) (Q := (.own 5 (.int .u8))) (fun W x => ref04_IntW W x.1) [] trivial [] [(5, ⟨[(3, .t (.int .u64))], [], []⟩)] [(6, ⟨[(3, .t (.int .u64)), (4, .row 1)], [], [.dead, .own 5 (.int .u8)]⟩)] Try.func85 rfl (by decide +kernel) rfl rfl (fun W x => by kernel_rfl)
noncomputable def ref34_numsW (W : Wd) (l : List Int) (b : List Int) : Option ((List Int) × (Unit)) := 
 W.loop (fun (z1 : Int × List (Int) × Unit) again2 => 
  W.cnd (decide (z1.1 < (l.length : Int))) (W.idx l z1.1 fun x3 => W.call (ref04_Int x3) fun v4 => W.room (z1.2.1.length + v4.length) 1 ((again2 ((IntKind.i64.wrap (z1.1 + 1)), ((z1.2.1 ++ v4), ())))))
   (some (z1.2.1, ())))
  (0, (b, ()))
noncomputable def ref34_nums (l : List Int) (b : List Int) : Option ((List Int) × (Unit)) := ref34_numsW stdW l b
noncomputable def ref34_nums_s : LS := ⟨[.row 5 (.int .u8), .v (.slc (.int .i64))], [], [], (.q (.own 5 (.int .u8))), fun x => ref34_nums x.1 x.2.1⟩
theorem ref34_nums_ok : ECok Try.prog 117 (.ls ref34_nums_s)   := ls_ok (A := [.row 5 (.int .u8), .v (.slc (.int .i64))]) (B := []) (E := []) (Q := (.q (.own 5 (.int .u8)))) (fun W x => ref34_numsW W x.1 x.2.1) [(85, .es ref04_Int_s)] ⟨ref04_Int_ok, trivial⟩ [] [] [(2, ⟨[(0, .row 0), (5, .t (.int .i64))], [], [.own 5 (.int .u8)]⟩)] Try.func117 rfl (by decide +kernel) rfl rfl rfl rfl rfl (fun W x => by kernel_rfl)
noncomputable def ref04_IntsW (W : Wd) (l : List Int) : Option (List Int) := 
 W.loop (fun (z1 : Int × List (Int) × Unit) again2 => 
  W.cnd (decide (z1.1 < (l.length : Int))) (W.idx l z1.1 fun x3 => W.call (ref04_Int x3) fun v4 => W.room (z1.2.1.length + v4.length) 1 ((again2 ((IntKind.i64.wrap (z1.1 + 1)), ((z1.2.1 ++ v4), ())))))
   (some z1.2.1))
  (0, ([], ()))
noncomputable def ref04_Ints (l : List Int) : Option (List Int) := ref04_IntsW stdW l
noncomputable def ref04_Ints_s : ES := ⟨(.pair (.slc (.int .i64)) .unit), (.own 5 (.int .u8)), fun x => ref04_Ints x.1⟩
theorem ref04_Ints_ok : ECok Try.prog 28 (.es ref04_Ints_s)   := es_ok (A := (.pair (.slc (.int .i64)) .unit)) (Q := (.own 5 (.int .u8))) (fun W x => ref04_IntsW W x.1) [(85, .es ref04_Int_s)] ⟨ref04_Int_ok, trivial⟩ [] [] [(3, ⟨[(3, .row 1), (4, .t (.int .i64))], [], [.dead, .own 5 (.int .u8)]⟩)] Try.func28 rfl (by decide +kernel) rfl rfl (fun W x => by kernel_rfl)
end Go.Proofs.Ytnldhkhnfodplaa

namespace Go.Proofs.Ytnldhkhnfodplaa
open Go Go.Vc Go.RowKit
/-! ### the reference's writing -/
theorem r_rInt {n : Int} (hn : Is64 n) : ref04_Int n = some (encU (fold n)) := by
  show ref04_IntW stdW n = _
  unfold ref04_IntW
  have go : ∀ u : Nat, u < 18446744073709551616 → stdW.loop (fun (z2 : Int × List (Int) × Unit) again3 => 
   stdW.cnd (decide (128 ≤ z2.1)) (stdW.nz 128 (stdW.room (z2.2.1.length + ((IntKind.u8.wrap (IntKind.u64.wrap ((Int.tmod z2.1 128) + 128))) :: []).length) 1 (stdW.nz 128 ((again3 ((IntKind.u64.wrap (Int.tdiv z2.1 128)), ((z2.2.1 ++ ((IntKind.u8.wrap (IntKind.u64.wrap ((Int.tmod z2.1 128) + 128))) :: [])), ())))))))
    (stdW.room (z2.2.1.length + ((IntKind.u8.wrap z2.1) :: []).length) 1 (some (z2.2.1 ++ ((IntKind.u8.wrap z2.1) :: []))))) ((u : Int), ([], ())) = some (encU u) := by
    intro u hu
    have hl := encU_len10 hu
    refine (loop_std (fun z => z.1.toNat) (fun z => ∃ (v : Nat) (l : List Int), z = ((v : Int), (l, ())) ∧ v < 18446744073709551616 ∧ l.length + (encU v).length ≤ 20) (fun z => some (z.2.1 ++ encU z.1.toNat)) ⟨u, [], rfl, hu, by simp only [List.length_nil]; omega⟩ (by show (u : Int).toNat < _; omega) ?_).trans (by simp)
    rintro _ ⟨v, l, rfl, hv, hl⟩ again ha
    show stdW.cnd (decide ((128 : Int) ≤ (v : Int))) _ _ = some (l ++ encU (v : Int).toNat)
    rw [Int.toNat_natCast]
    by_cases h : 128 ≤ v
    · rw [cnd_y (by simpa using by omega)]
      rw [encU_ge h] at hl ⊢
      simp only [List.length_cons] at hl
      show nzF 128 _ = _
      rw [nz_eq (by omega), room_w (by simp only [List.length_cons, List.length_nil]; omega) (by simp only [List.length_cons, List.length_nil]; omega)]
      show nzF 128 _ = _
      rw [nz_eq (by omega)]
      show again (IntKind.u64.wrap (Int.tdiv (v : Int) 128), ((l ++ (IntKind.u8.wrap (IntKind.u64.wrap ((Int.tmod (v : Int) 128) + 128))) :: []), ())) = _
      rw [tdivN, tmodN, u64c _ (by omega), u64c _ (by omega), u8c _ (by omega)]
      refine (ha _ ⟨v / 128, _, rfl, by omega, by simp only [List.length_append, List.length_cons, List.length_nil]; omega⟩ (by show ((v / 128 : Nat) : Int).toNat < ((v : Nat) : Int).toNat; omega)).trans ?_
      rw [Int.toNat_natCast, List.append_assoc]
      show some (l ++ ((((v % 128 : Nat) : Int) + 128) :: encU (v / 128))) = _
      rw [show ((v % 128 : Nat) : Int) + 128 = ((v % 128 + 128 : Nat) : Int) by omega]
    · rw [cnd_n (by simpa using by omega)]
      rw [encU_lt (by omega)] at hl ⊢
      rw [room_w (by simp only [List.length_cons, List.length_nil] at hl ⊢; omega) (by simp only [List.length_cons, List.length_nil] at hl ⊢; omega)]
      show some (l ++ (IntKind.u8.wrap (v : Int)) :: []) = _
      rw [u8c _ (by omega)]
  have hf := fold_lt n hn
  unfold Is64 at hn
  rw [join_w]
  by_cases h : 0 ≤ n
  · rw [cnd_y (by simpa using h), u64c n (by omega), u64c (2 * n) (by omega)]
    have e : 2 * n = ((fold n : Nat) : Int) := by unfold fold; rw [if_pos h]; omega
    rw [e]; exact go _ hf
  · rw [cnd_n (by simpa using by omega), i64c (n + 1) (by omega), i64c (0 - (n + 1)) (by omega), u64c (0 - (n + 1)) (by omega), u64c (2 * (0 - (n + 1))) (by omega), u64c (2 * (0 - (n + 1)) + 1) (by omega)]
    have e : 2 * (0 - (n + 1)) + 1 = ((fold n : Nat) : Int) := by unfold fold; rw [if_neg h]; omega
    rw [e]; exact go _ hf
theorem encs_take {l : List Int} (hl : ∀ n ∈ l, Is64 n) (i : Nat) : (encs (l.take i)).length ≤ 10 * i := by
  have h := encs_len (l := l.take i) fun n hn => hl n (List.mem_of_mem_take hn)
  rw [List.length_take] at h; omega
theorem r_nums {l b : List Int} (hl : ∀ n ∈ l, Is64 n) (hn : l.length ≤ 1000000) (hb : b.length ≤ 50000000) : ref34_nums l b = some (b ++ encs l, ()) := by
  show ref34_numsW stdW l b = _
  unfold ref34_numsW
  refine loop_list (l := l) (by omega) (fun i s => s = (b ++ encs (l.take i), ())) (fun _ _ => some (b ++ encs l, ())) (by simp [encs]) ?_ ?_
  · rintro _ again rfl
    rw [cnd_end, List.take_length]
  · rintro i hi _ rfl again ha
    have hx := hl _ (List.getElem_mem hi)
    have hlen := encs_take hl i
    have h10 := encU_len10 (fold_lt _ hx)
    rw [cnd_lt hi, idx_w hi, call_w (r_rInt hx), room_w (by simp only [List.length_append]; omega) (by simp only [List.length_append]; omega)]
    show again (IntKind.i64.wrap ((i : Int) + 1), ((b ++ encs (l.take i)) ++ encU (fold l[i]), ())) = _
    rw [i64_s i (by omega)]
    refine ha _ ?_
    rw [show l.take (i + 1) = l.take i ++ [l[i]] by simp, encs_app, encs_one, List.append_assoc]
theorem r_ints {l : List Int} (hl : ∀ n ∈ l, Is64 n) (hn : l.length ≤ 1000000) : ref04_Ints l = some (encs l) := by
  show ref04_IntsW stdW l = _
  unfold ref04_IntsW
  refine loop_list (l := l) (by omega) (fun i s => s = (encs (l.take i), ())) (fun _ _ => some (encs l)) (by simp [encs]) ?_ ?_
  · rintro _ again rfl
    rw [cnd_end, List.take_length]
  · rintro i hi _ rfl again ha
    have hx := hl _ (List.getElem_mem hi)
    have hlen := encs_take hl i
    have h10 := encU_len10 (fold_lt _ hx)
    rw [cnd_lt hi, idx_w hi, call_w (r_rInt hx), room_w (by show (encs (List.take i l)).length + _ ≤ _; omega) (by show ((encs (List.take i l)).length + _) * 1 ≤ _; omega)]
    show again (IntKind.i64.wrap ((i : Int) + 1), (encs (l.take i) ++ encU (fold l[i]), ())) = _
    rw [i64_s i (by omega)]
    refine ha _ ?_
    rw [show l.take (i + 1) = l.take i ++ [l[i]] by simp, encs_app, encs_one]
end Go.Proofs.Ytnldhkhnfodplaa

namespace Go.Proofs.Ytnldhkhnfodplaa
open Go Go.Vc Go.RowKit
/-! ### the law of writing commands -/
theorem notIf_f (b : Bool) : Go.Vc.notIf false b = b := by cases b <;> rfl
end Go.Proofs.Ytnldhkhnfodplaa
