import Derived.Test.YtnldhkhnfodplaaB4
import Derived.Laws.Bits64
import Derived.Laws.Bits64b
import Derived.Test.YtnldhkhnfodplaaRows
import Derived.Laws.Externs
namespace Go.Vc
open Go Go.RowKit
theorem i64_succ (i : Nat) (h : i < 9223372036854775807) : IntKind.i64.wrap ((i : Int) + 1) = ((i + 1 : Nat) : Int) := by rw [IntWalk.i64_in _ (by omega)]; omega
theorem u64_half (a : Nat) (h : a < 18446744073709551616) : IntKind.u64.wrap ((a : Int).tdiv 2) = ((a / 2 : Nat) : Int) := by
  rw [Int.tdiv_eq_ediv_of_nonneg (by omega), show (a : Int) / 2 = ((a / 2 : Nat) : Int) by omega]; exact u64_id _ (by omega)
noncomputable def natW (W : Wd) (u : Int) : Option BigT :=
 W.loop (fun (z1 : Int × List (Int) × Unit) again2 =>
  W.cnd (decide (0 < z1.1)) (W.nz 2 (W.room (z1.2.1.length + ((IntKind.u8.wrap (Int.tmod z1.1 2)) :: []).length) 1 (W.nz 2 ((again2 ((IntKind.u64.wrap (Int.tdiv z1.1 2)), ((z1.2.1 ++ ((IntKind.u8.wrap (Int.tmod z1.1 2)) :: [])), ())))))))
   (some (false, (z1.2.1, ()))))
  (u, ([], ()))
theorem nat_is (u : Nat) (hu : u < 18446744073709551616) : natW stdW u = some (bigS false u) := by
  unfold natW
  have := loop_std (β := BigT) (f := fun (z1 : Int × List (Int) × Unit) again2 =>
    stdW.cnd (decide (0 < z1.1)) (stdW.nz 2 (stdW.room (z1.2.1.length + ((IntKind.u8.wrap (Int.tmod z1.1 2)) :: []).length) 1 (stdW.nz 2 ((again2 ((IntKind.u64.wrap (Int.tdiv z1.1 2)), ((z1.2.1 ++ ((IntKind.u8.wrap (Int.tmod z1.1 2)) :: [])), ())))))))
      (some (false, (z1.2.1, ())))) (z := ((u : Int), ([], ()))) (fun z => z.1.toNat) (fun z => 0 ≤ z.1 ∧ z.1 < 18446744073709551616 ∧ z.2.1.length + (bitsOf z.1.toNat).length ≤ 64) (fun z => some (false, z.2.1 ++ bitsOf z.1.toNat, ()))
    (by simp only [List.length_nil, Nat.zero_add, Int.toNat_natCast]; exact ⟨by omega, by omega, bits_len 64 _ (by omega)⟩) (by simpa using hu) ?_
  · rw [this]; simp [bigS]
  · rintro ⟨a, s, ⟨⟩⟩ ⟨h0, h1, h2⟩ again ha
    obtain ⟨n, rfl⟩ := Int.eq_ofNat_of_zero_le h0
    simp only [Int.toNat_natCast] at h2 ha h1 ⊢
    by_cases hn : n = 0
    · subst hn; simp [bits0]
    · have hd : decide ((0 : Int) < (n : Int)) = true := decide_eq_true (by omega)
      rw [bitsS hn] at h2 ⊢
      simp only [List.length_cons] at h2
      rw [hd]
      simp only [cond_true]
      rw [nz_eq (by omega), room_eq (by simp; omega) (by simp; omega), nz_eq (by omega), u64_half n (by omega), nat_mod2, u8_is _ (by omega)]
      rw [ha _ (by simp only [Int.toNat_natCast, List.length_append, List.length_singleton]; exact ⟨by omega, by omega, by omega⟩) (by simp only [Int.toNat_natCast]; omega)]
      simp only [Int.toNat_natCast, List.append_assoc, List.singleton_append]
end Go.Vc

namespace Go.Vc
open Go Go.RowKit
variable {β : Type}
/-! ### loops over a list -/
theorem loop_list {α S : Type} {l : List α} (hl : l.length ≤ 9223372036854775807) {f : Int × S → (Int × S → Option β) → Option β} (Inv : Nat → S → Prop) (g : List α → S → Option β) {s0 : S} (h0 : Inv 0 s0)
    (hend : ∀ s (again : Int × S → Option β), Inv l.length s → f ((l.length : Int), s) again = g [] s)
    (hstep : ∀ i (h : i < l.length) s, Inv i s → ∀ again : Int × S → Option β, (∀ s', Inv (i + 1) s' → again (((i + 1 : Nat) : Int), s') = g (l.drop (i + 1)) s') → f ((i : Int), s) again = g (l[i] :: l.drop (i + 1)) s) :
    stdW.loop f (0, s0) = g l s0 := by
  refine (loop_std (fun z => (l.length + 1) - z.1.toNat) (fun z => ∃ i : Nat, z.1 = (i : Int) ∧ i ≤ l.length ∧ Inv i z.2) (fun z => g (l.drop z.1.toNat) z.2) ⟨0, rfl, by omega, h0⟩ (by show l.length + 1 - 0 < _; omega) ?_).trans ?_
  · rintro ⟨z, s⟩ ⟨i, hi, hle, hs⟩ again ha
    dsimp only at hi hs
    subst hi
    simp only [Int.toNat_natCast]
    by_cases h : i < l.length
    · rw [drop_cons' l i h]
      refine hstep i h s hs again fun s' hs' => ?_
      have := ha (((i + 1 : Nat) : Int), s') ⟨i + 1, rfl, by omega, hs'⟩ (by simp only [Int.toNat_natCast]; omega)
      simpa only [Int.toNat_natCast] using this
    · obtain rfl : i = l.length := by omega
      rw [List.drop_length]
      exact hend s again hs
  · simp
theorem cnd_lt {i n : Nat} (h : i < n) (a b : Option β) : stdW.cnd (decide ((i : Int) < (n : Int))) a b = a := by rw [decide_eq_true (by omega)]; rfl
theorem cnd_end {n : Nat} (a b : Option β) : stdW.cnd (decide ((n : Int) < (n : Int))) a b = b := by rw [decide_eq_false (by omega)]; rfl
theorem cnd_p {p : Prop} [Decidable p] (a b : Option β) : stdW.cnd (decide p) a b = if p then a else b := by by_cases h : p <;> simp [h]
theorem cnd_b {c : Bool} (a b : Option β) : stdW.cnd c a b = if c = true then a else b := by cases c <;> rfl
theorem cnd_y {c : Bool} (h : c = true) (a b : Option β) : stdW.cnd c a b = a := by subst h; rfl
theorem cnd_n {c : Bool} (h : c = false) (a b : Option β) : stdW.cnd c a b = b := by subst h; rfl
theorem idx_w {α : Type} {l : List α} {i : Nat} (h : i < l.length) (K : α → Option β) : stdW.idx l (i : Int) K = K l[i] := idx_eq h K
theorem nth_w {α : Type} {l : List α} {i : Nat} (h : i < l.length) (K : α → Option β) : stdW.nth l (Int.toNat (i : Int)) K = K l[i] := by
  show idxR l _ K = _
  unfold idxR
  rw [Int.toNat_natCast, List.getElem?_eq_getElem h]
theorem room_w {n b : Nat} (h : n ≤ 281474976710656) (h2 : n * b ≤ 140737488355328) (K : Option β) : stdW.room n b K = K := room_eq h h2 K
theorem nn_w {b : Int} (h : 0 ≤ b) (K : Option β) : stdW.nn b K = K := nn_eq h K
theorem both_w (a : Option β) : stdW.both a a = a := both_eq a
theorem join_w {X : Type} (k : X → Option β) (f : (X → Option β) → Option β) : stdW.join k f = f k := rfl
theorem bnd_w {i : Int} {n : Nat} (h : 0 ≤ i) (h2 : i ≤ n) (K : Nat → Option β) : stdW.bnd i n K = K i.toNat := bnd_eq h h2 K
theorem i64_s (i : Nat) (h : i < 9223372036854775807) : IntKind.i64.wrap ((i : Int) + 1) = ((i + 1 : Nat) : Int) := i64_succ i h
end Go.Vc
namespace Go.Vc
variable {β : Type}
/-- a loop that counts up to N -/
theorem loop_n {S : Type} {N : Nat} (hN : N < 9223372036854775807) {f : Int × S → (Int × S → Option β) → Option β} (Inv : Nat → S → Prop) (r : Option β) {s0 : S} (h0 : Inv 0 s0)
    (hend : ∀ s (again : Int × S → Option β), Inv N s → f (((N : Nat) : Int), s) again = r)
    (hstep : ∀ i, i < N → ∀ s, Inv i s → ∀ again : Int × S → Option β, (∀ s', Inv (i + 1) s' → again (((i + 1 : Nat) : Int), s') = r) → f ((i : Int), s) again = r) :
    stdW.loop f (0, s0) = r := by
  refine (loop_std (fun z => (N + 1) - z.1.toNat) (fun z => ∃ i : Nat, z.1 = (i : Int) ∧ i ≤ N ∧ Inv i z.2) (fun _ => r) ⟨0, rfl, by omega, h0⟩ (by show N + 1 - 0 < _; omega) ?_)
  rintro ⟨z, s⟩ ⟨i, hi, hle, hs⟩ again ha
  dsimp only at hi hs
  subst hi
  by_cases h : i < N
  · refine hstep i h s hs again fun s' hs' => ?_
    exact ha (((i + 1 : Nat) : Int), s') ⟨i + 1, rfl, by omega, hs'⟩ (by simp only [Int.toNat_natCast]; omega)
  · obtain rfl : i = N := by omega
    exact hend s again hs
/-! ### sums -/
def sumBy {α : Type} (f : α → Int) (l : List α) : Int := (l.map f).sum
theorem sumBy_nil {α : Type} (f : α → Int) : sumBy f [] = 0 := rfl
theorem sumBy_cons {α : Type} (f : α → Int) (x : α) (l : List α) : sumBy f (x :: l) = f x + sumBy f l := by simp [sumBy]
theorem sumBy_app {α : Type} (f : α → Int) (a b : List α) : sumBy f (a ++ b) = sumBy f a + sumBy f b := by simp [sumBy]
theorem sumBy_take {α : Type} (f : α → Int) (l : List α) (i : Nat) (h : i < l.length) : sumBy f (l.take (i + 1)) = sumBy f (l.take i) + f l[i] := by
  rw [show l.take (i + 1) = l.take i ++ [l[i]] by simp, sumBy_app, sumBy_cons, sumBy_nil]; omega
theorem sumBy_in {α : Type} {f : α → Int} {B : Int} : ∀ {l : List α}, (∀ x ∈ l, -B ≤ f x ∧ f x ≤ B) → -(B * (l.length : Int)) ≤ sumBy f l ∧ sumBy f l ≤ B * (l.length : Int)
  | [], _ => by simp [sumBy]
  | x :: l, h => by
    have h1 := h x (by simp)
    have h2 := sumBy_in (l := l) fun w hw => h w (by simp [hw])
    rw [sumBy_cons, List.length_cons, Int.natCast_add, Int.mul_add]
    omega
theorem sumBy_filter {α : Type} (f : α → Int) (p : α → Bool) : ∀ (l : List α), sumBy f (l.filter p) = sumBy (fun x => if p x = true then f x else 0) l
  | [] => rfl
  | x :: l => by
    rw [sumBy_cons, ← sumBy_filter f p l]
    by_cases h : p x = true
    · rw [List.filter_cons_of_pos h, sumBy_cons, if_pos h]
    · rw [List.filter_cons_of_neg h, if_neg h]; omega
theorem filter_take {α : Type} (p : α → Bool) (l : List α) (i : Nat) (h : i < l.length) : (l.take (i + 1)).filter p = (l.take i).filter p ++ (if p l[i] = true then [l[i]] else []) := by
  rw [show l.take (i + 1) = l.take i ++ [l[i]] by simp, List.filter_append]
  congr 1
  by_cases hp : p l[i] = true <;> simp [hp]
theorem call_w {α β : Type} {o : Option α} {a : α} (h : o = some a) (K : α → Option β) : stdW.call o K = K a := by subst h; rfl
end Go.Vc

namespace Go.Proofs.Ytnldhkhnfodplaa
open Go Go.Vc Go.RowKit Go.Lib
/-! ### A number's bytes (plain) -/
theorem i64c (z : Int) (h : -9223372036854775808 ≤ z ∧ z < 9223372036854775808) : IntKind.i64.wrap z = z := IntWalk.i64_in z (by omega)
def encU (u : Nat) : List Int := if h : u < 128 then [(u : Int)] else ((u % 128 + 128 : Nat) : Int) :: encU (u / 128)
termination_by u
decreasing_by omega
theorem encU_lt {u : Nat} (h : u < 128) : encU u = [(u : Int)] := by rw [encU, dif_pos h]
theorem encU_ge {u : Nat} (h : 128 ≤ u) : encU u = ((u % 128 + 128 : Nat) : Int) :: encU (u / 128) := by rw [encU, dif_neg (by omega)]
theorem encU_len : ∀ (k u : Nat), u < 128 ^ (k + 1) → (encU u).length ≤ k + 1
  | k, u, h => by
    rcases Nat.lt_or_ge u 128 with hu | hu
    · rw [encU_lt hu]; simp
    · rw [encU_ge hu]
      cases k with
      | zero => simp at h; omega
      | succ k =>
        have := encU_len k (u / 128) (by rw [Nat.pow_succ] at h; omega)
        simp; omega
theorem encU_len10 {u : Nat} (h : u < 18446744073709551616) : (encU u).length ≤ 10 := encU_len 9 u (by omega)

theorem u64c (z : Int) (h : 0 ≤ z ∧ z < 18446744073709551616) : IntKind.u64.wrap z = z := IntWalk.u64_in z (by omega)
theorem u8c (z : Int) (h : 0 ≤ z ∧ z < 256) : IntKind.u8.wrap z = z := IntWalk.u8_in z (by omega)
theorem tmodN (u : Nat) : (u : Int).tmod 128 = ((u % 128 : Nat) : Int) := by rw [Int.tmod_eq_emod_of_nonneg (by omega)]; omega
theorem tdivN (u : Nat) : (u : Int).tdiv 128 = ((u / 128 : Nat) : Int) := by rw [Int.tdiv_eq_ediv_of_nonneg (by omega)]; omega

/-- what a number folds to -/
def fold (n : Int) : Nat := if 0 ≤ n then 2 * n.toNat else 2 * (-(n + 1)).toNat + 1

theorem fold_lt (n : Int) (hn : -9223372036854775808 ≤ n ∧ n ≤ 9223372036854775807) : fold n < 18446744073709551616 := by unfold fold; split <;> omega

def encs (l : List Int) : List Int := l.flatMap fun n => encU (fold n)
theorem encU_pos (u : Nat) : 0 < (encU u).length := by
  rcases Nat.lt_or_ge u 128 with h | h
  · rw [encU_lt h]; simp
  · rw [encU_ge h]; simp
def Is64 (n : Int) : Prop := -9223372036854775808 ≤ n ∧ n ≤ 9223372036854775807

def uNext (sh u : Nat) (b : Int) : Nat := u ||| (b.toNat % 128 * 2 ^ sh % 18446744073709551616)
theorem uNext_lt {sh u : Nat} {b : Int} (hu : u < 18446744073709551616) : uNext sh u b < 18446744073709551616 := by
  have h1 : b.toNat % 128 * 2 ^ sh % 18446744073709551616 < 2 ^ 64 := by omega
  have := Nat.or_lt_two_pow (show u < 2 ^ 64 by omega) h1
  unfold uNext; omega
theorem uNext_bits {sh u : Nat} {b : Int} (hu : u < 18446744073709551616) (hs : sh ≤ 63) (hb : 0 ≤ b ∧ b < 256) :
    bits BinOp.or IntKind.u64 (u : Int) (IntKind.u64.wrap (IntKind.u64.wrap (bits BinOp.and IntKind.u8 b 127) * 2 ^ min (Int.toNat (sh : Int)) IntKind.u64.bits)) = (uNext sh u b : Int) := by
  have h : ∀ n : Fin 256, bits BinOp.and IntKind.u8 ((n.val : Nat) : Int) 127 = ((n.val % 128 : Nat) : Int) := by decide +kernel
  have h1 := h ⟨b.toNat, by omega⟩
  have hbn : ((b.toNat : Nat) : Int) = b := by omega
  dsimp only at h1
  rw [hbn] at h1
  have hm : min (Int.toNat (sh : Int)) IntKind.u64.bits = sh := by
    have : IntKind.u64.bits = 64 := by decide +kernel
    rw [this, Int.toNat_natCast]
    exact Nat.min_eq_left (by omega)
  rw [h1, hm, u64c ((b.toNat % 128 : Nat) : Int) (by omega), IntKind.wrap_u64]
  have e : (((b.toNat % 128 : Nat) : Int) * 2 ^ sh % 18446744073709551616) = ((b.toNat % 128 * 2 ^ sh % 18446744073709551616 : Nat) : Int) := by
    have e0 : ((2 ^ sh : Nat) : Int) = (2 : Int) ^ sh := by rw [Int.natCast_pow]; rfl
    rw [← e0, ← Int.natCast_mul]; omega
  rw [e, bits_or_u64_nat _ _ hu (by omega)]
  rfl

/-- a number's groups -/
def numS : Nat → Nat → List Int → Option Nat × List Int × Int
  | _, _, [] => (none, [], 4)
  | sh, u, b :: r => if 63 < sh ∨ (sh = 63 ∧ 1 < b) ∨ (b = 0 ∧ 0 < sh) then (none, [], 3) else if b < 128 then (some (uNext sh u b), r, 0) else numS (sh + 7) (uNext sh u b) r

def unf (u : Nat) : Int := if u % 2 = 0 then ((u / 2 : Nat) : Int) else -((u / 2 : Nat) : Int) - 1
theorem xor_i64_0 (a : Nat) (h : a < 9223372036854775808) : bits .xor .i64 (a : Int) 0 = (a : Int) := by
  have h1 : (BitVec.ofInt 64 (a : Int)).toNat = a := by
    rw [BitVec.ofInt_natCast, BitVec.toNat_ofNat]; exact Nat.mod_eq_of_lt (by omega)
  show IntKind.i64.wrap ((BitVec.ofInt 64 (a : Int) ^^^ BitVec.ofInt 64 0).toNat : Int) = _
  have h2 : BitVec.ofInt 64 0 = 0#64 := by decide
  rw [h2, BitVec.xor_zero, h1, i64c _ (by omega)]
theorem xor_i64_1 (a : Nat) (h : a < 9223372036854775808) : bits .xor .i64 (a : Int) (-1) = -(a : Int) - 1 := by
  have h1 : (BitVec.ofInt 64 (a : Int)).toNat = a := by
    rw [BitVec.ofInt_natCast, BitVec.toNat_ofNat]; exact Nat.mod_eq_of_lt (by omega)
  show IntKind.i64.wrap ((BitVec.ofInt 64 (a : Int) ^^^ BitVec.ofInt 64 (-1)).toNat : Int) = _
  have h2 : BitVec.ofInt 64 (-1) = BitVec.allOnes 64 := by decide
  rw [h2, BitVec.xor_allOnes, BitVec.toNat_not, h1, IntKind.wrap_i64]
  omega
theorem unf_bits (u : Nat) (hu : u < 18446744073709551616) : bits BinOp.xor IntKind.i64 (IntKind.i64.wrap ((u : Int).fdiv (2 ^ min (Int.toNat 1) IntKind.u64.bits))) (IntKind.i64.wrap (0 - IntKind.i64.wrap (bits BinOp.and IntKind.u64 (u : Int) 1))) = unf u := by
  have e : (2 : Int) ^ min (Int.toNat 1) IntKind.u64.bits = 2 := by decide +kernel
  have e1 : bits BinOp.and IntKind.u64 (u : Int) 1 = ((u % 2 : Nat) : Int) := by
    have := bits_and_u64_nat u 1 hu (by decide)
    rw [Nat.and_one_is_mod] at this
    exact this
  rw [e, e1, Int.fdiv_eq_ediv_of_nonneg _ (by omega), show (u : Int) / 2 = ((u / 2 : Nat) : Int) by omega, i64c ((u / 2 : Nat) : Int) (by omega), i64c ((u % 2 : Nat) : Int) (by omega), i64c _ (by omega)]
  unfold unf
  by_cases h : u % 2 = 0
  · rw [if_pos h, h]; exact xor_i64_0 _ (by omega)
  · have h1 : u % 2 = 1 := by omega
    rw [if_neg h, h1]; exact xor_i64_1 _ (by omega)
/-- what a reading of a number answers, and what is left, and the error -/
def rdInt (bs : List Int) (e lo hi : Int) : Int × List Int × Int :=
  if e ≠ 0 then (0, bs, e) else
  match numS 0 0 bs with
  | (none, r, e') => (0, r, e')
  | (some u, r, e') => if unf u < lo ∨ hi < unf u then (0, [], 7) else (unf u, r, e')
theorem numS_lt : ∀ (bs : List Int) (sh u : Nat), u < 18446744073709551616 → ∀ x, (numS sh u bs).1 = some x → x < 18446744073709551616
  | [], sh, u, hu, x, h => by simp [numS] at h
  | b :: r, sh, u, hu, x, h => by
    unfold numS at h
    split at h
    · simp at h
    · split at h
      · simp at h; rw [← h]; exact uNext_lt hu
      · exact numS_lt r _ _ (uNext_lt hu) x h

theorem or_add (acc x k : Nat) (h : acc < 2 ^ k) : acc ||| (x * 2 ^ k) = acc + x * 2 ^ k := by
  rw [Nat.mul_comm, Nat.or_comm, ← Nat.two_pow_add_eq_or_of_lt h, Nat.add_comm]
theorem uNext_add {sh acc b : Nat} (ha : acc < 2 ^ sh) (hx : b % 128 * 2 ^ sh < 18446744073709551616) : uNext sh acc (b : Int) = acc + b % 128 * 2 ^ sh := by
  unfold uNext
  rw [Int.toNat_natCast, Nat.mod_eq_of_lt hx, or_add _ _ _ ha]
theorem pow_split (sh : Nat) (h : sh ≤ 64) : 2 ^ (64 - sh) * 2 ^ sh = 18446744073709551616 := by
  rw [← Nat.pow_add, Nat.sub_add_cancel h]

theorem groups (v P acc : Nat) : acc + v % 128 * P + v / 128 * (128 * P) = acc + v * P := by
  have h : v * P = (128 * (v / 128) + v % 128) * P := by congr 1; omega
  have h2 : v / 128 * (128 * P) = 128 * (v / 128) * P := by rw [← Nat.mul_assoc, Nat.mul_comm (v / 128) 128]
  rw [h, h2, Nat.add_mul]; omega
/-- what was written is read -/
theorem numS_enc : ∀ (k v acc : Nat) (r : List Int), k ≤ 9 → acc < 2 ^ (7 * k) → v < 2 ^ (64 - 7 * k) → (0 < k → 0 < v) → numS (7 * k) acc (encU v ++ r) = (some (acc + v * 2 ^ (7 * k)), r, 0) := by
  intro k
  have main : ∀ m k, 9 - k = m → ∀ (v acc : Nat) (r : List Int), k ≤ 9 → acc < 2 ^ (7 * k) → v < 2 ^ (64 - 7 * k) → (0 < k → 0 < v) → numS (7 * k) acc (encU v ++ r) = (some (acc + v * 2 ^ (7 * k)), r, 0) := by
    intro m
    induction m with
    | zero =>
      intro k hk v acc r h9 ha hv hp
      have : k = 9 := by omega
      subst this
      have hv' : v < 2 := hv
      have h1 : v = 1 := by have := hp (by omega); omega
      subst h1
      rw [encU_lt (by omega)]
      have e := uNext_add (sh := 63) (acc := acc) (b := 1) ha (by decide)
      simp only [List.cons_append, List.nil_append]
      unfold numS
      rw [if_neg (by omega), if_pos (by omega)]
      rw [show ((1 : Nat) : Int) = 1 from rfl] at e ⊢
      rw [e]
    | succ m ih =>
      intro k hk v acc r h9 ha hv hp
      have hk9 : k < 9 := by omega
      rcases Nat.lt_or_ge v 128 with h | h
      · rw [encU_lt h]
        simp only [List.cons_append, List.nil_append]
        unfold numS
        rw [if_neg (by omega), if_pos (by omega)]
        have hb : v % 128 * 2 ^ (7 * k) < 18446744073709551616 := by
          rw [← pow_split (7 * k) (by omega)]
          exact Nat.mul_lt_mul_of_pos_right (by rw [Nat.mod_eq_of_lt h]; exact hv) (Nat.pow_pos (by decide))
        rw [uNext_add ha hb, Nat.mod_eq_of_lt h]
      · rw [encU_ge h]
        simp only [List.cons_append]
        unfold numS
        rw [if_neg (by omega), if_neg (by omega)]
        have hmod : (v % 128 + 128) % 128 = v % 128 := by omega
        have hvd : v % 128 * 2 ^ (7 * k) < 18446744073709551616 := by
          rw [← pow_split (7 * k) (by omega)]
          exact Nat.mul_lt_mul_of_pos_right (Nat.lt_of_le_of_lt (Nat.mod_le _ _) hv) (Nat.pow_pos (by decide))
        have e := uNext_add (sh := 7 * k) (acc := acc) (b := v % 128 + 128) ha (by rw [hmod]; exact hvd)
        rw [e, hmod]
        have hpow : 2 ^ (7 * (k + 1)) = 128 * 2 ^ (7 * k) := by rw [show 7 * (k + 1) = 7 + 7 * k by omega, Nat.pow_add]
        have hacc : acc + v % 128 * 2 ^ (7 * k) < 2 ^ (7 * (k + 1)) := by
          rw [hpow]
          have : v % 128 * 2 ^ (7 * k) ≤ 127 * 2 ^ (7 * k) := Nat.mul_le_mul_right _ (by omega)
          omega
        have hv2 : v / 128 < 2 ^ (64 - 7 * (k + 1)) := by
          rw [Nat.div_lt_iff_lt_mul (by decide)]
          have : 2 ^ (64 - 7 * (k + 1)) * 128 = 2 ^ (64 - 7 * k) := by rw [show 64 - 7 * k = (64 - 7 * (k + 1)) + 7 by omega, Nat.pow_add]
          omega
        have := ih (k + 1) (by omega) (v / 128) _ r (by omega) hacc hv2 (by omega)
        rw [show 7 * k + 7 = 7 * (k + 1) by omega, this, hpow]
        rw [groups v (2 ^ (7 * k)) acc]
  exact main _ k rfl

/-- bytes that are read are those of the number -/
theorem numS_canon : ∀ (bs : List Int) (k acc u : Nat) (r : List Int) (e : Int), (∀ b ∈ bs, 0 ≤ b ∧ b < 256) → k ≤ 10 → acc < 2 ^ (7 * k) → numS (7 * k) acc bs = (some u, r, e) →
    ∃ v, bs = encU v ++ r ∧ u = acc + v * 2 ^ (7 * k) ∧ (0 < k → 0 < v) ∧ k ≤ 9 ∧ v < 2 ^ (64 - 7 * k) ∧ e = 0
  | [], _, _, _, _, _, _, _, _, h => by simp [numS] at h
  | b :: bs, k, acc, u, r, e, hb, hk, ha, h => by
    have hb0 := hb b (by simp)
    obtain ⟨n, rfl⟩ := Int.eq_ofNat_of_zero_le hb0.1
    unfold numS at h
    split at h
    · simp at h
    · rename_i hc
      have hk9 : k ≤ 9 := by omega
      have hbound : n % 128 * 2 ^ (7 * k) < 18446744073709551616 := by
        rcases Nat.lt_or_ge k 9 with h9 | h9
        · have h1 : n % 128 * 2 ^ (7 * k) ≤ 127 * 2 ^ (7 * k) := Nat.mul_le_mul_right _ (by omega)
          have h2 : 2 ^ (7 * k) ≤ 2 ^ 56 := Nat.pow_le_pow_right (by decide) (by omega)
          have h3 : (2 : Nat) ^ 56 = 72057594037927936 := by decide
          omega
        · have : k = 9 := by omega
          subst this
          have hn1 : n ≤ 1 := by omega
          have h3 : (2 : Nat) ^ (7 * 9) = 9223372036854775808 := by decide
          rw [h3]; omega
      rw [uNext_add ha hbound] at h
      split at h
      · rename_i hlt
        simp only [Prod.mk.injEq, Option.some.injEq] at h
        obtain ⟨rfl, rfl, rfl⟩ := h
        have hn : n < 128 := by omega
        refine ⟨n, by rw [encU_lt hn]; rfl, by rw [Nat.mod_eq_of_lt hn], by omega, hk9, ?_, rfl⟩
        rw [Nat.mod_eq_of_lt hn, ← pow_split (7 * k) (by omega)] at hbound
        exact Nat.lt_of_mul_lt_mul_right hbound
      · rename_i hge
        have hn : 128 ≤ n ∧ n < 256 := by omega
        have hpow : 2 ^ (7 * (k + 1)) = 128 * 2 ^ (7 * k) := by rw [show 7 * (k + 1) = 7 + 7 * k by omega, Nat.pow_add]
        have hacc : acc + n % 128 * 2 ^ (7 * k) < 2 ^ (7 * (k + 1)) := by
          rw [hpow]
          have : n % 128 * 2 ^ (7 * k) ≤ 127 * 2 ^ (7 * k) := Nat.mul_le_mul_right _ (by omega)
          omega
        rw [show 7 * k + 7 = 7 * (k + 1) by omega] at h
        obtain ⟨v, h1, h2, h3, h4, h5, h6⟩ := numS_canon bs (k + 1) _ u r e (fun b hb' => hb b (by simp [hb'])) (by omega) hacc h
        have hv0 := h3 (by omega)
        refine ⟨128 * v + (n - 128), ?_, ?_, fun _ => by omega, hk9, ?_, h6⟩
        · rw [encU_ge (by omega), h1]
          have e1 : (128 * v + (n - 128)) % 128 + 128 = n := by omega
          have e2 : (128 * v + (n - 128)) / 128 = v := by omega
          rw [e1, e2]; rfl
        · rw [h2, hpow]
          have e1 : n % 128 = (128 * v + (n - 128)) % 128 := by omega
          have e2 : v = (128 * v + (n - 128)) / 128 := by omega
          have := groups (128 * v + (n - 128)) (2 ^ (7 * k)) acc
          rw [← e1, ← e2] at this
          exact this
        · have h7 : 2 ^ (64 - 7 * k) = 128 * 2 ^ (64 - 7 * (k + 1)) := by rw [show 64 - 7 * k = 7 + (64 - 7 * (k + 1)) by omega, Nat.pow_add]
          rw [h7]; omega

theorem unf_fold (n : Int) : unf (fold n) = n := by unfold unf fold; split <;> split <;> omega
theorem fold_unf (u : Nat) : fold (unf u) = u := by unfold unf fold; split <;> split <;> omega
theorem unf_is (u : Nat) (h : u < 18446744073709551616) : Is64 (unf u) := by unfold unf Is64; split <;> omega

theorem rdInt_enc (n : Int) (hn : Is64 n) (lo hi : Int) (r : List Int) (h : lo ≤ n ∧ n ≤ hi) : rdInt (encU (fold n) ++ r) 0 lo hi = (n, r, 0) := by
  have := numS_enc 0 (fold n) 0 r (by omega) (by decide) (by simpa using fold_lt n hn) (by omega)
  simp only [Nat.mul_zero, Nat.pow_zero, Nat.mul_one, Nat.zero_add] at this
  unfold rdInt
  rw [if_neg (by simp), this]
  simp only [unf_fold]
  rw [if_neg (by omega)]
theorem numS_none : ∀ (bs : List Int) (sh u : Nat) (r : List Int), numS sh u bs = (none, r, 0) → False
  | [], sh, u, r, h => by simp [numS] at h
  | b :: bs, sh, u, r, h => by
    unfold numS at h
    split at h
    · simp at h
    · split at h
      · simp at h
      · exact numS_none bs _ _ r h
/-- a reading of any number: what is left, and the bytes that it took -/
theorem rdInt_canon (bs : List Int) (hb : ∀ b ∈ bs, 0 ≤ b ∧ b < 256) (n : Int) (r : List Int) (lo hi : Int) (h : rdInt bs 0 lo hi = (n, r, 0)) : bs = encU (fold n) ++ r ∧ Is64 n := by
  unfold rdInt at h
  rw [if_neg (by simp)] at h
  cases hN : numS 0 0 bs with
  | mk o p =>
    obtain ⟨r', e'⟩ := p
    rw [hN] at h
    cases o with
    | none =>
      simp only [Prod.mk.injEq] at h
      obtain ⟨_, rfl, rfl⟩ := h
      exfalso
      exact numS_none bs 0 0 _ hN
    | some u =>
      simp only at h
      split at h
      · simp at h
      · simp only [Prod.mk.injEq] at h
        obtain ⟨rfl, rfl, rfl⟩ := h
        obtain ⟨v, h1, h2, _, _, h5, _⟩ := numS_canon bs 0 0 u r' 0 hb (by omega) (by decide) hN
        simp only [Nat.mul_zero, Nat.pow_zero, Nat.mul_one, Nat.zero_add] at h2
        subst h2
        exact ⟨by rw [fold_unf]; exact h1, unf_is _ (by simpa using h5)⟩
theorem rdInt_canon' (bs : List Int) (e lo hi : Int) (hb : ∀ b ∈ bs, 0 ≤ b ∧ b < 256) (he : e = 0) (h : (rdInt bs e lo hi).2.2 = 0) : bs = encU (fold (rdInt bs e lo hi).1) ++ (rdInt bs e lo hi).2.1 ∧ Is64 (rdInt bs e lo hi).1 := by
  subst he
  refine rdInt_canon bs hb _ _ lo hi ?_
  exact Prod.ext rfl (Prod.ext rfl h)
theorem numS_sub : ∀ (bs : List Int) (sh u : Nat), ∀ z ∈ (numS sh u bs).2.1, z ∈ bs
  | [], sh, u, z, h => by simp [numS] at h
  | b :: bs, sh, u, z, h => by
    unfold numS at h
    split at h
    · simp at h
    · split at h
      · exact List.mem_cons.2 (.inr h)
      · exact List.mem_cons.2 (.inr (numS_sub bs _ _ z h))
theorem rdInt_bytes (bs : List Int) (e lo hi : Int) (hb : ∀ z ∈ bs, 0 ≤ z ∧ z < 256) : ∀ z ∈ (rdInt bs e lo hi).2.1, 0 ≤ z ∧ z < 256 := by
  intro z hz
  refine hb z ?_
  have hs := numS_sub bs 0 0 z
  unfold rdInt at hz
  split at hz
  · exact hz
  · cases hN : numS 0 0 bs with
    | mk o p =>
      rw [hN] at hz hs
      cases o with
      | none => exact hs hz
      | some u =>
        simp only at hz
        split at hz
        · simp at hz
        · exact hs hz
theorem rdInt_err (bs : List Int) (e lo hi : Int) (h : (rdInt bs e lo hi).2.2 = 0) : e = 0 := by
  unfold rdInt at h
  split at h
  · exact h
  · omega
theorem xor_ones (x : Nat) (h : x < 18446744073709551616) : x ^^^ 18446744073709551615 = 18446744073709551615 - x := by
  have h1 : (BitVec.ofNat 64 x ^^^ BitVec.allOnes 64).toNat = x ^^^ 18446744073709551615 := by
    rw [BitVec.toNat_xor, BitVec.toNat_ofNat, BitVec.toNat_allOnes, Nat.mod_eq_of_lt (by simpa using h)]
  have h2 : BitVec.ofNat 64 x ^^^ BitVec.allOnes 64 = ~~~ BitVec.ofNat 64 x := by rw [BitVec.xor_allOnes]
  rw [← h1, h2, BitVec.toNat_not, BitVec.toNat_ofNat, Nat.mod_eq_of_lt (by simpa using h)]
theorem fold_bits (n : Int) (hn : Is64 n) : bits BinOp.xor IntKind.u64 (IntKind.u64.wrap (IntKind.i64.wrap (n * 2 ^ min (Int.toNat 1) IntKind.i64.bits))) (IntKind.u64.wrap (n.fdiv (2 ^ min (Int.toNat 63) IntKind.i64.bits))) = (fold n : Int) := by
  have e1 : (2 : Int) ^ min (Int.toNat 1) IntKind.i64.bits = 2 := by decide +kernel
  have e2 : (2 : Int) ^ min (Int.toNat 63) IntKind.i64.bits = 9223372036854775808 := by decide +kernel
  unfold Is64 at hn
  rw [e1, e2, IntKind.wrap_i64, IntKind.wrap_u64, IntKind.wrap_u64, Int.fdiv_eq_ediv_of_nonneg _ (by omega)]
  unfold fold
  by_cases h : 0 ≤ n
  · rw [if_pos h]
    have a1 : n / 9223372036854775808 % 18446744073709551616 = ((0 : Nat) : Int) := by omega
    rw [a1, show ((n * 2 + 9223372036854775808) % 18446744073709551616 - 9223372036854775808) % 18446744073709551616 = ((2 * n.toNat : Nat) : Int) by omega, bits_xor_u64_nat _ _ (by omega) (by omega), Nat.xor_zero]
  · rw [if_neg h]
    have a1 : n / 9223372036854775808 % 18446744073709551616 = ((18446744073709551615 : Nat) : Int) := by omega
    rw [a1, show ((n * 2 + 9223372036854775808) % 18446744073709551616 - 9223372036854775808) % 18446744073709551616 = (((n * 2 + 18446744073709551616).toNat : Nat) : Int) by omega, bits_xor_u64_nat _ _ (by omega) (by omega), xor_ones _ (by omega)]
    omega
theorem or128 (u : Nat) : bits BinOp.or IntKind.u8 (IntKind.u8.wrap (u : Int)) 128 = ((u % 128 + 128 : Nat) : Int) := by
  have h : ∀ n : Fin 256, bits BinOp.or IntKind.u8 ((n.val : Nat) : Int) 128 = ((n.val % 128 + 128 : Nat) : Int) := by decide +kernel
  have h1 := h ⟨u % 256, by omega⟩
  rw [IntKind.wrap_u8, show (u : Int) % 256 = ((u % 256 : Nat) : Int) by omega, h1]
  dsimp only
  omega
end Go.Proofs.Ytnldhkhnfodplaa

namespace Go.Proofs.Ytnldhkhnfodplaa
open Go.Vc
def tab : List TI := [
  ⟨false, .other, 0, 0, false, [], none⟩,
  ⟨false, .other, 0, 0, false, [], none⟩,
  ⟨true, .int .i64, 1, 8, false, [.int .i64 0], some [.int .i64]⟩,
  ⟨true, .int .i64, 1, 8, false, [.int .i64 0], some [.int .i64]⟩,
  ⟨true, .bool, 1, 1, false, [.bool false], some [.bool]⟩,
  ⟨true, .int .u8, 1, 1, false, [.int .u8 0], some [.int .u8]⟩,
  ⟨false, .other, 0, 0, false, [], none⟩,
  ⟨false, .other, 0, 0, false, [], none⟩,
  ⟨false, .other, 0, 0, false, [], none⟩,
  ⟨true, .string, 1, 16, false, [.string .empty], some [.str]⟩,
  ⟨false, .other, 0, 0, false, [], none⟩,
  ⟨false, .other, 0, 0, false, [], none⟩,
  ⟨true, .int .u64, 1, 8, false, [.int .u64 0], some [.int .u64]⟩,
  ⟨false, .other, 0, 0, false, [], none⟩,
  ⟨false, .other, 0, 0, false, [], none⟩,
  ⟨false, .other, 0, 0, false, [], none⟩,
  ⟨false, .other, 0, 0, false, [], none⟩,
  ⟨false, .other, 0, 0, false, [], none⟩,
  ⟨false, .other, 0, 0, false, [], none⟩,
  ⟨false, .other, 0, 0, false, [], none⟩,
  ⟨false, .other, 0, 0, false, [], none⟩,
  ⟨true, .int .i32, 1, 4, false, [.int .i32 0], some [.int .i32]⟩,
  ⟨true, .struct [(0, 3, 1), (1, 2, 1), (2, 3, 1), (3, 3, 1)], 4, 32, true, [.int .i64 0, .int .i64 0, .int .i64 0, .int .i64 0], some [.int .i64, .int .i64, .int .i64, .int .i64]⟩,
  ⟨true, .struct [(0, 3, 1), (1, 2, 1), (2, 3, 1), (3, 3, 1)], 4, 32, true, [.int .i64 0, .int .i64 0, .int .i64 0, .int .i64 0], some [.int .i64, .int .i64, .int .i64, .int .i64]⟩,
  ⟨true, .slice 3, 1, 24, false, [.slice none 0 0], none⟩,
  ⟨true, .int .i64, 1, 8, false, [.int .i64 0], some [.int .i64]⟩,
  ⟨false, .other, 0, 0, false, [], none⟩,
  ⟨false, .other, 0, 0, false, [], none⟩,
  ⟨false, .other, 0, 0, false, [], none⟩,
  ⟨false, .other, 0, 0, false, [], none⟩,
  ⟨false, .other, 0, 0, false, [], none⟩,
  ⟨false, .other, 0, 0, false, [], none⟩,
  ⟨false, .other, 0, 0, false, [], none⟩,
  ⟨false, .other, 0, 0, false, [], none⟩,
  ⟨false, .other, 0, 0, false, [], none⟩,
  ⟨false, .other, 0, 0, false, [], none⟩,
  ⟨false, .other, 0, 0, false, [], none⟩,
  ⟨false, .other, 0, 0, false, [], none⟩,
  ⟨true, .slice 44, 1, 24, false, [.slice none 0 0], none⟩,
  ⟨true, .ptr 63, 1, 8, false, [.pointer none], none⟩,
  ⟨false, .other, 0, 0, false, [], none⟩,
  ⟨true, .slice 5, 1, 24, false, [.slice none 0 0], none⟩,
  ⟨true, .slice 2, 1, 24, false, [.slice none 0 0], none⟩,
  ⟨true, .struct [(0, 3, 1), (1, 42, 1), (2, 9, 1), (3, 2, 1), (4, 2, 1), (5, 3, 1)], 6, 72, true, [.int .i64 0, .slice none 0 0, .string .empty, .int .i64 0, .int .i64 0, .int .i64 0], none⟩,
  ⟨true, .struct [(0, 3, 1), (1, 42, 1), (2, 9, 1), (3, 2, 1), (4, 2, 1), (5, 3, 1)], 6, 72, true, [.int .i64 0, .slice none 0 0, .string .empty, .int .i64 0, .int .i64 0, .int .i64 0], none⟩,
  ⟨false, .other, 0, 0, false, [], none⟩,
  ⟨false, .other, 0, 0, false, [], none⟩,
  ⟨false, .other, 0, 0, false, [], none⟩,
  ⟨false, .other, 0, 0, false, [], none⟩,
  ⟨false, .other, 0, 0, false, [], none⟩,
  ⟨false, .other, 0, 0, false, [], none⟩,
  ⟨false, .other, 0, 0, false, [], none⟩,
  ⟨false, .other, 0, 0, false, [], none⟩,
  ⟨false, .other, 0, 0, false, [], none⟩,
  ⟨false, .other, 0, 0, false, [], none⟩,
  ⟨true, .ptr 65, 1, 8, false, [.pointer none], none⟩,
  ⟨false, .other, 0, 0, false, [], none⟩,
  ⟨false, .other, 0, 0, false, [], none⟩,
  ⟨false, .other, 0, 0, false, [], none⟩,
  ⟨false, .other, 0, 0, false, [], none⟩,
  ⟨false, .other, 0, 0, false, [], none⟩,
  ⟨false, .other, 0, 0, false, [], none⟩,
  ⟨true, .struct [(0, 4, 1), (1, 41, 1)], 2, 32, true, [.bool false, .slice none 0 0], none⟩,
  ⟨true, .struct [(0, 4, 1), (1, 41, 1)], 2, 32, true, [.bool false, .slice none 0 0], none⟩,
  ⟨true, .struct [(0, 4, 1), (1, 41, 1), (2, 25, 1)], 3, 40, true, [.bool false, .slice none 0 0, .int .i64 0], none⟩,
  ⟨true, .struct [(0, 4, 1), (1, 41, 1), (2, 25, 1)], 3, 40, true, [.bool false, .slice none 0 0, .int .i64 0], none⟩,
  ⟨false, .other, 0, 0, false, [], none⟩,
  ⟨true, .slice 23, 1, 24, false, [.slice none 0 0], none⟩,
  ⟨true, .slice 152, 1, 24, false, [.slice none 0 0], none⟩,
  ⟨true, .slice 147, 1, 24, false, [.slice none 0 0], none⟩,
  ⟨true, .slice 149, 1, 24, false, [.slice none 0 0], none⟩,
  ⟨true, .slice 188, 1, 24, false, [.slice none 0 0], none⟩,
  ⟨true, .slice 154, 1, 24, false, [.slice none 0 0], none⟩,
  ⟨true, .slice 158, 1, 24, false, [.slice none 0 0], none⟩,
  ⟨true, .slice 221, 1, 24, false, [.slice none 0 0], none⟩,
  ⟨true, .slice 131, 1, 24, false, [.slice none 0 0], none⟩,
  ⟨true, .slice 224, 1, 24, false, [.slice none 0 0], none⟩,
  ⟨true, .struct [(0, 3, 1), (1, 67, 1), (2, 68, 1), (3, 69, 1), (4, 70, 1), (5, 71, 1), (6, 72, 1), (7, 73, 1), (8, 74, 1), (9, 74, 1), (10, 75, 1), (11, 76, 1)], 12, 272, true, [.int .i64 0, .slice none 0 0, .slice none 0 0, .slice none 0 0, .slice none 0 0, .slice none 0 0, .slice none 0 0, .slice none 0 0, .slice none 0 0, .slice none 0 0, .slice none 0 0, .slice none 0 0], none⟩,
  ⟨true, .struct [(0, 3, 1), (1, 67, 1), (2, 68, 1), (3, 69, 1), (4, 70, 1), (5, 71, 1), (6, 72, 1), (7, 73, 1), (8, 74, 1), (9, 74, 1), (10, 75, 1), (11, 76, 1)], 12, 272, true, [.int .i64 0, .slice none 0 0, .slice none 0 0, .slice none 0 0, .slice none 0 0, .slice none 0 0, .slice none 0 0, .slice none 0 0, .slice none 0 0, .slice none 0 0, .slice none 0 0, .slice none 0 0], none⟩,
  ⟨true, .slice 160, 1, 24, false, [.slice none 0 0], none⟩,
  ⟨false, .other, 0, 0, false, [], none⟩,
  ⟨false, .other, 0, 0, false, [], none⟩,
  ⟨false, .other, 0, 0, false, [], none⟩,
  ⟨false, .other, 0, 0, false, [], none⟩,
  ⟨true, .struct [(0, 3, 1), (1, 3, 1)], 2, 16, true, [.int .i64 0, .int .i64 0], some [.int .i64, .int .i64]⟩,
  ⟨true, .struct [(0, 3, 1), (1, 3, 1)], 2, 16, true, [.int .i64 0, .int .i64 0], some [.int .i64, .int .i64]⟩,
  ⟨true, .struct [(0, 4, 1), (1, 41, 1)], 2, 32, true, [.bool false, .slice none 0 0], none⟩,
  ⟨true, .struct [(0, 4, 1), (1, 41, 1)], 2, 32, true, [.bool false, .slice none 0 0], none⟩,
  ⟨false, .other, 0, 0, false, [], none⟩,
  ⟨false, .other, 0, 0, false, [], none⟩,
  ⟨false, .other, 0, 0, false, [], none⟩,
  ⟨false, .other, 0, 0, false, [], none⟩,
  ⟨true, .int .u64, 1, 8, false, [.int .u64 0], some [.int .u64]⟩,
  ⟨true, .struct [(0, 2, 1), (1, 92, 1)], 2, 16, true, [.int .i64 0, .int .u64 0], some [.int .i64, .int .u64]⟩,
  ⟨true, .struct [(0, 2, 1), (1, 92, 1)], 2, 16, true, [.int .i64 0, .int .u64 0], some [.int .i64, .int .u64]⟩,
  ⟨false, .other, 0, 0, false, [], none⟩,
  ⟨false, .other, 0, 0, false, [], none⟩,
  ⟨false, .other, 0, 0, false, [], none⟩,
  ⟨false, .other, 0, 0, false, [], none⟩,
  ⟨true, .slice 174, 1, 24, false, [.slice none 0 0], none⟩,
  ⟨false, .other, 0, 0, false, [], none⟩,
  ⟨false, .other, 0, 0, false, [], none⟩,
  ⟨false, .other, 0, 0, false, [], none⟩,
  ⟨false, .other, 0, 0, false, [], none⟩,
  ⟨true, .struct [(0, 3, 1), (1, 3, 1), (2, 3, 1), (3, 85, 2), (5, 85, 2), (7, 3, 1), (8, 3, 1), (9, 3, 1), (10, 3, 1), (11, 2, 1), (12, 2, 1), (13, 42, 1)], 14, 128, true, [.int .i64 0, .int .i64 0, .int .i64 0, .int .i64 0, .int .i64 0, .int .i64 0, .int .i64 0, .int .i64 0, .int .i64 0, .int .i64 0, .int .i64 0, .int .i64 0, .int .i64 0, .slice none 0 0], none⟩,
  ⟨true, .struct [(0, 3, 1), (1, 3, 1), (2, 3, 1), (3, 85, 2), (5, 85, 2), (7, 3, 1), (8, 3, 1), (9, 3, 1), (10, 3, 1), (11, 2, 1), (12, 2, 1), (13, 42, 1)], 14, 128, true, [.int .i64 0, .int .i64 0, .int .i64 0, .int .i64 0, .int .i64 0, .int .i64 0, .int .i64 0, .int .i64 0, .int .i64 0, .int .i64 0, .int .i64 0, .int .i64 0, .int .i64 0, .slice none 0 0], none⟩,
  ⟨false, .other, 0, 0, false, [], none⟩,
  ⟨false, .other, 0, 0, false, [], none⟩,
  ⟨false, .other, 0, 0, false, [], none⟩,
  ⟨false, .other, 0, 0, false, [], none⟩,
  ⟨false, .other, 0, 0, false, [], none⟩,
  ⟨false, .other, 0, 0, false, [], none⟩,
  ⟨false, .other, 0, 0, false, [], none⟩,
  ⟨false, .other, 0, 0, false, [], none⟩,
  ⟨false, .other, 0, 0, false, [], none⟩,
  ⟨false, .other, 0, 0, false, [], none⟩,
  ⟨false, .other, 0, 0, false, [], none⟩,
  ⟨false, .other, 0, 0, false, [], none⟩,
  ⟨false, .other, 0, 0, false, [], none⟩,
  ⟨false, .other, 0, 0, false, [], none⟩,
  ⟨true, .slice 163, 1, 24, false, [.slice none 0 0], none⟩,
  ⟨true, .struct [(0, 25, 1), (1, 42, 1), (2, 99, 1), (3, 120, 1)], 4, 80, true, [.int .i64 0, .slice none 0 0, .slice none 0 0, .slice none 0 0], none⟩,
  ⟨true, .struct [(0, 25, 1), (1, 42, 1), (2, 99, 1), (3, 120, 1)], 4, 80, true, [.int .i64 0, .slice none 0 0, .slice none 0 0, .slice none 0 0], none⟩,
  ⟨false, .other, 0, 0, false, [], none⟩,
  ⟨false, .other, 0, 0, false, [], none⟩,
  ⟨false, .other, 0, 0, false, [], none⟩,
  ⟨false, .other, 0, 0, false, [], none⟩,
  ⟨false, .other, 0, 0, false, [], none⟩,
  ⟨false, .other, 0, 0, false, [], none⟩,
  ⟨false, .other, 0, 0, false, [], none⟩,
  ⟨true, .struct [(0, 85, 2), (2, 2, 1)], 3, 24, true, [.int .i64 0, .int .i64 0, .int .i64 0], some [.int .i64, .int .i64, .int .i64]⟩,
  ⟨true, .struct [(0, 85, 2), (2, 2, 1)], 3, 24, true, [.int .i64 0, .int .i64 0, .int .i64 0], some [.int .i64, .int .i64, .int .i64]⟩,
  ⟨false, .other, 0, 0, false, [], none⟩,
  ⟨false, .other, 0, 0, false, [], none⟩,
  ⟨false, .other, 0, 0, false, [], none⟩,
  ⟨false, .other, 0, 0, false, [], none⟩,
  ⟨false, .other, 0, 0, false, [], none⟩,
  ⟨false, .other, 0, 0, false, [], none⟩,
  ⟨false, .other, 0, 0, false, [], none⟩,
  ⟨false, .other, 0, 0, false, [], none⟩,
  ⟨false, .other, 0, 0, false, [], none⟩,
  ⟨false, .other, 0, 0, false, [], none⟩,
  ⟨false, .other, 0, 0, false, [], none⟩,
  ⟨false, .other, 0, 0, false, [], none⟩,
  ⟨false, .other, 0, 0, false, [], none⟩,
  ⟨false, .other, 0, 0, false, [], none⟩,
  ⟨true, .struct [(0, 3, 1), (1, 2, 1), (2, 2, 1)], 3, 24, true, [.int .i64 0, .int .i64 0, .int .i64 0], some [.int .i64, .int .i64, .int .i64]⟩,
  ⟨true, .struct [(0, 3, 1), (1, 2, 1), (2, 2, 1)], 3, 24, true, [.int .i64 0, .int .i64 0, .int .i64 0], some [.int .i64, .int .i64, .int .i64]⟩,
  ⟨true, .struct [(0, 3, 1), (1, 3, 1), (2, 3, 1), (3, 24, 1)], 4, 48, true, [.int .i64 0, .int .i64 0, .int .i64 0, .slice none 0 0], none⟩,
  ⟨true, .struct [(0, 3, 1), (1, 3, 1), (2, 3, 1), (3, 24, 1)], 4, 48, true, [.int .i64 0, .int .i64 0, .int .i64 0, .slice none 0 0], none⟩,
  ⟨false, .other, 0, 0, false, [], none⟩,
  ⟨true, .struct [(0, 3, 1), (1, 2, 1), (2, 2, 1), (3, 2, 1), (4, 42, 1)], 5, 56, true, [.int .i64 0, .int .i64 0, .int .i64 0, .int .i64 0, .slice none 0 0], none⟩,
  ⟨true, .struct [(0, 3, 1), (1, 2, 1), (2, 2, 1), (3, 2, 1), (4, 42, 1)], 5, 56, true, [.int .i64 0, .int .i64 0, .int .i64 0, .int .i64 0, .slice none 0 0], none⟩,
  ⟨true, .struct [(0, 3, 1), (1, 85, 2), (3, 3, 1), (4, 2, 1), (5, 2, 1)], 6, 48, true, [.int .i64 0, .int .i64 0, .int .i64 0, .int .i64 0, .int .i64 0, .int .i64 0], some [.int .i64, .int .i64, .int .i64, .int .i64, .int .i64, .int .i64]⟩,
  ⟨true, .struct [(0, 3, 1), (1, 85, 2), (3, 3, 1), (4, 2, 1), (5, 2, 1)], 6, 48, true, [.int .i64 0, .int .i64 0, .int .i64 0, .int .i64 0, .int .i64 0, .int .i64 0], some [.int .i64, .int .i64, .int .i64, .int .i64, .int .i64, .int .i64]⟩,
  ⟨true, .struct [(0, 3, 1), (1, 2, 1)], 2, 16, true, [.int .i64 0, .int .i64 0], some [.int .i64, .int .i64]⟩,
  ⟨true, .struct [(0, 3, 1), (1, 2, 1)], 2, 16, true, [.int .i64 0, .int .i64 0], some [.int .i64, .int .i64]⟩,
  ⟨true, .struct [(0, 3, 1), (1, 85, 2), (3, 85, 2), (5, 156, 2), (7, 2, 1), (8, 3, 1), (9, 3, 1), (10, 3, 1)], 11, 88, true, [.int .i64 0, .int .i64 0, .int .i64 0, .int .i64 0, .int .i64 0, .int .i64 0, .int .i64 0, .int .i64 0, .int .i64 0, .int .i64 0, .int .i64 0], some [.int .i64, .int .i64, .int .i64, .int .i64, .int .i64, .int .i64, .int .i64, .int .i64, .int .i64, .int .i64, .int .i64]⟩,
  ⟨true, .struct [(0, 3, 1), (1, 85, 2), (3, 85, 2), (5, 156, 2), (7, 2, 1), (8, 3, 1), (9, 3, 1), (10, 3, 1)], 11, 88, true, [.int .i64 0, .int .i64 0, .int .i64 0, .int .i64 0, .int .i64 0, .int .i64 0, .int .i64 0, .int .i64 0, .int .i64 0, .int .i64 0, .int .i64 0], some [.int .i64, .int .i64, .int .i64, .int .i64, .int .i64, .int .i64, .int .i64, .int .i64, .int .i64, .int .i64, .int .i64]⟩,
  ⟨true, .struct [(0, 105, 14), (14, 122, 4)], 18, 208, true, [.int .i64 0, .int .i64 0, .int .i64 0, .int .i64 0, .int .i64 0, .int .i64 0, .int .i64 0, .int .i64 0, .int .i64 0, .int .i64 0, .int .i64 0, .int .i64 0, .int .i64 0, .slice none 0 0, .int .i64 0, .slice none 0 0, .slice none 0 0, .slice none 0 0], none⟩,
  ⟨true, .struct [(0, 105, 14), (14, 122, 4)], 18, 208, true, [.int .i64 0, .int .i64 0, .int .i64 0, .int .i64 0, .int .i64 0, .int .i64 0, .int .i64 0, .int .i64 0, .int .i64 0, .int .i64 0, .int .i64 0, .int .i64 0, .int .i64 0, .slice none 0 0, .int .i64 0, .slice none 0 0, .slice none 0 0, .slice none 0 0], none⟩,
  ⟨true, .slice 200, 1, 24, false, [.slice none 0 0], none⟩,
  ⟨true, .struct [(0, 85, 2), (2, 2, 1), (3, 161, 1)], 4, 48, true, [.int .i64 0, .int .i64 0, .int .i64 0, .slice none 0 0], none⟩,
  ⟨true, .struct [(0, 85, 2), (2, 2, 1), (3, 161, 1)], 4, 48, true, [.int .i64 0, .int .i64 0, .int .i64 0, .slice none 0 0], none⟩,
  ⟨false, .other, 0, 0, false, [], none⟩,
  ⟨false, .other, 0, 0, false, [], none⟩,
  ⟨false, .other, 0, 0, false, [], none⟩,
  ⟨false, .other, 0, 0, false, [], none⟩,
  ⟨false, .other, 0, 0, false, [], none⟩,
  ⟨false, .other, 0, 0, false, [], none⟩,
  ⟨false, .other, 0, 0, false, [], none⟩,
  ⟨false, .other, 0, 0, false, [], none⟩,
  ⟨false, .other, 0, 0, false, [], none⟩,
  ⟨true, .struct [(0, 85, 2), (2, 85, 2), (4, 2, 1)], 5, 40, true, [.int .i64 0, .int .i64 0, .int .i64 0, .int .i64 0, .int .i64 0], some [.int .i64, .int .i64, .int .i64, .int .i64, .int .i64]⟩,
  ⟨true, .struct [(0, 85, 2), (2, 85, 2), (4, 2, 1)], 5, 40, true, [.int .i64 0, .int .i64 0, .int .i64 0, .int .i64 0, .int .i64 0], some [.int .i64, .int .i64, .int .i64, .int .i64, .int .i64]⟩,
  ⟨false, .other, 0, 0, false, [], none⟩,
  ⟨true, .ptr 179, 1, 8, false, [.pointer none], none⟩,
  ⟨true, .slice 94, 1, 24, false, [.slice none 0 0], none⟩,
  ⟨true, .struct [(0, 177, 1)], 1, 24, true, [.slice none 0 0], none⟩,
  ⟨true, .struct [(0, 177, 1)], 1, 24, true, [.slice none 0 0], none⟩,
  ⟨false, .other, 0, 0, false, [], none⟩,
  ⟨false, .other, 0, 0, false, [], none⟩,
  ⟨false, .other, 0, 0, false, [], none⟩,
  ⟨false, .other, 0, 0, false, [], none⟩,
  ⟨false, .other, 0, 0, false, [], none⟩,
  ⟨false, .other, 0, 0, false, [], none⟩,
  ⟨false, .other, 0, 0, false, [], none⟩,
  ⟨true, .struct [(0, 85, 2), (2, 85, 2), (4, 4, 1)], 5, 40, true, [.int .i64 0, .int .i64 0, .int .i64 0, .int .i64 0, .bool false], some [.int .i64, .int .i64, .int .i64, .int .i64, .bool]⟩,
  ⟨true, .struct [(0, 85, 2), (2, 85, 2), (4, 4, 1)], 5, 40, true, [.int .i64 0, .int .i64 0, .int .i64 0, .int .i64 0, .bool false], some [.int .i64, .int .i64, .int .i64, .int .i64, .bool]⟩,
  ⟨false, .other, 0, 0, false, [], none⟩,
  ⟨false, .other, 0, 0, false, [], none⟩,
  ⟨false, .other, 0, 0, false, [], none⟩,
  ⟨false, .other, 0, 0, false, [], none⟩,
  ⟨true, .ptr 195, 1, 8, false, [.pointer none], none⟩,
  ⟨true, .struct [(0, 41, 1), (1, 3, 1)], 2, 32, true, [.slice none 0 0, .int .i64 0], none⟩,
  ⟨true, .struct [(0, 41, 1), (1, 3, 1)], 2, 32, true, [.slice none 0 0, .int .i64 0], none⟩,
  ⟨false, .other, 0, 0, false, [], none⟩,
  ⟨false, .other, 0, 0, false, [], none⟩,
  ⟨false, .other, 0, 0, false, [], none⟩,
  ⟨true, .struct [(0, 3, 1), (1, 3, 1), (2, 2, 1)], 3, 24, true, [.int .i64 0, .int .i64 0, .int .i64 0], some [.int .i64, .int .i64, .int .i64]⟩,
  ⟨true, .struct [(0, 3, 1), (1, 3, 1), (2, 2, 1)], 3, 24, true, [.int .i64 0, .int .i64 0, .int .i64 0], some [.int .i64, .int .i64, .int .i64]⟩,
  ⟨false, .other, 0, 0, false, [], none⟩,
  ⟨false, .other, 0, 0, false, [], none⟩,
  ⟨false, .other, 0, 0, false, [], none⟩,
  ⟨false, .other, 0, 0, false, [], none⟩,
  ⟨false, .other, 0, 0, false, [], none⟩,
  ⟨false, .other, 0, 0, false, [], none⟩,
  ⟨false, .other, 0, 0, false, [], none⟩,
  ⟨false, .other, 0, 0, false, [], none⟩,
  ⟨true, .slice 85, 1, 24, false, [.slice none 0 0], none⟩,
  ⟨false, .other, 0, 0, false, [], none⟩,
  ⟨false, .other, 0, 0, false, [], none⟩,
  ⟨false, .other, 0, 0, false, [], none⟩,
  ⟨false, .other, 0, 0, false, [], none⟩,
  ⟨false, .other, 0, 0, false, [], none⟩,
  ⟨false, .other, 0, 0, false, [], none⟩,
  ⟨false, .other, 0, 0, false, [], none⟩,
  ⟨false, .other, 0, 0, false, [], none⟩,
  ⟨true, .int .u64, 1, 8, false, [.int .u64 0], some [.int .u64]⟩,
  ⟨true, .slice 156, 1, 24, false, [.slice none 0 0], none⟩,
  ⟨true, .struct [(0, 85, 2), (2, 219, 1)], 3, 40, true, [.int .i64 0, .int .i64 0, .slice none 0 0], none⟩,
  ⟨true, .struct [(0, 85, 2), (2, 219, 1)], 3, 40, true, [.int .i64 0, .int .i64 0, .slice none 0 0], none⟩,
  ⟨false, .other, 0, 0, false, [], none⟩,
  ⟨true, .struct [(0, 85, 2), (2, 161, 1)], 3, 40, true, [.int .i64 0, .int .i64 0, .slice none 0 0], none⟩,
  ⟨true, .struct [(0, 85, 2), (2, 161, 1)], 3, 40, true, [.int .i64 0, .int .i64 0, .slice none 0 0], none⟩,
  ⟨false, .other, 0, 0, false, [], none⟩,
  ⟨false, .other, 0, 0, false, [], none⟩,
  ⟨false, .other, 0, 0, false, [], none⟩,
  ⟨false, .other, 0, 0, false, [], none⟩,
  ⟨false, .other, 0, 0, false, [], none⟩,
  ⟨false, .other, 0, 0, false, [], none⟩,
  ⟨false, .other, 0, 0, false, [], none⟩,
  ⟨false, .other, 0, 0, false, [], none⟩,
  ⟨false, .other, 0, 0, false, [], none⟩,
  ⟨false, .other, 0, 0, false, [], none⟩,
  ⟨false, .other, 0, 0, false, [], none⟩,
  ⟨false, .other, 0, 0, false, [], none⟩,
  ⟨true, .ptr 105, 1, 8, false, [.pointer none], none⟩,
  ⟨false, .other, 0, 0, false, [], none⟩,
  ⟨false, .other, 0, 0, false, [], none⟩,
  ⟨false, .other, 0, 0, false, [], none⟩,
  ⟨true, .slice 75, 1, 24, false, [.slice none 0 0], none⟩,
  ⟨false, .other, 0, 0, false, [], none⟩,
  ⟨true, .map 85 4, 1, 8, false, [.map none], none⟩,
  ⟨false, .other, 0, 0, false, [], none⟩,
  ⟨false, .other, 0, 0, false, [], none⟩,
  ⟨false, .other, 0, 0, false, [], none⟩,
  ⟨false, .other, 0, 0, false, [], none⟩,
  ⟨true, .struct [(0, 2, 1), (1, 94, 2)], 3, 24, true, [.int .i64 0, .int .i64 0, .int .u64 0], some [.int .i64, .int .i64, .int .u64]⟩,
  ⟨true, .struct [(0, 2, 1), (1, 94, 2)], 3, 24, true, [.int .i64 0, .int .i64 0, .int .u64 0], some [.int .i64, .int .i64, .int .u64]⟩,
  ⟨false, .other, 0, 0, false, [], none⟩,
  ⟨false, .other, 0, 0, false, [], none⟩,
  ⟨false, .other, 0, 0, false, [], none⟩,
  ⟨false, .other, 0, 0, false, [], none⟩,
  ⟨true, .struct [(0, 92, 1), (1, 92, 1)], 2, 16, true, [.int .u64 0, .int .u64 0], some [.int .u64, .int .u64]⟩,
  ⟨true, .struct [(0, 92, 1), (1, 92, 1)], 2, 16, true, [.int .u64 0, .int .u64 0], some [.int .u64, .int .u64]⟩,
  ⟨false, .other, 0, 0, false, [], none⟩,
  ⟨false, .other, 0, 0, false, [], none⟩,
  ⟨false, .other, 0, 0, false, [], none⟩,
  ⟨false, .other, 0, 0, false, [], none⟩,
  ⟨false, .other, 0, 0, false, [], none⟩,
  ⟨false, .other, 0, 0, false, [], none⟩,
  ⟨true, .ptr 249, 1, 8, false, [.pointer none], none⟩,
  ⟨false, .other, 0, 0, false, [], none⟩,
  ⟨false, .other, 0, 0, false, [], none⟩,
  ⟨false, .other, 0, 0, false, [], none⟩,
  ⟨true, .int .i64, 1, 8, false, [.int .i64 0], some [.int .i64]⟩,
  ⟨false, .other, 0, 0, false, [], none⟩,
  ⟨false, .other, 0, 0, false, [], none⟩,
  ⟨false, .other, 0, 0, false, [], none⟩,
  ⟨false, .other, 0, 0, false, [], none⟩,
  ⟨false, .other, 0, 0, false, [], none⟩,
  ⟨false, .other, 0, 0, false, [], none⟩,
  ⟨false, .other, 0, 0, false, [], none⟩,
  ⟨true, .int .u32, 1, 4, false, [.int .u32 0], some [.int .u32]⟩,
  ⟨false, .other, 0, 0, false, [], none⟩,
  ⟨true, .int .u64, 1, 8, false, [.int .u64 0], some [.int .u64]⟩,
  ⟨false, .other, 0, 0, false, [], none⟩,
  ⟨false, .other, 0, 0, false, [], none⟩,
  ⟨false, .other, 0, 0, false, [], none⟩,
  ⟨true, .ptr 3, 1, 8, false, [.pointer none], none⟩,
  ⟨false, .other, 0, 0, false, [], none⟩,
  ⟨true, .ptr 276, 1, 8, false, [.pointer none], none⟩,
  ⟨false, .other, 0, 0, false, [], none⟩,
  ⟨false, .other, 0, 0, false, [], none⟩,
  ⟨false, .other, 0, 0, false, [], none⟩,
  ⟨false, .other, 0, 0, false, [], none⟩,
  ⟨false, .other, 0, 0, false, [], none⟩,
  ⟨false, .other, 0, 0, false, [], none⟩,
  ⟨false, .other, 0, 0, false, [], none⟩,
  ⟨false, .other, 0, 0, false, [], none⟩,
  ⟨false, .other, 0, 0, false, [], none⟩,
  ⟨false, .other, 0, 0, false, [], none⟩,
  ⟨false, .other, 0, 0, false, [], none⟩,
  ⟨true, .ptr 5, 1, 8, false, [.pointer none], none⟩,
  ⟨false, .other, 0, 0, false, [], none⟩,
  ⟨false, .other, 0, 0, false, [], none⟩,
  ⟨false, .other, 0, 0, false, [], none⟩,
  ⟨false, .other, 0, 0, false, [], none⟩,
  ⟨false, .other, 0, 0, false, [], none⟩]

theorem tab_ok : TableOk Try.prog tab := tableOk_of (by kernel_rfl)
end Go.Proofs.Ytnldhkhnfodplaa

namespace Go.Proofs.Ytnldhkhnfodplaa
open Go Go.Vc Go.RowKit
theorem mixedP : Try.prog.follows .mixedOrders = true := by decide +kernel
theorem es_ok {f : FuncId} {fn : Func} {c : Code} {A : DT} {Q : QT} (F : Wd → A.den → Option Q.den) (C : ESs) (hC : ESsOk Try.prog C) (O : DTs) (JC JL : List (Nat × DJ))
    (hf : Try.prog.funcs[f]? = some fn) (hb : fn.body = some c) (hn : (fn.name == "runtime.NumGoroutine") = false) (hl : loopsOk (cuts (JC.map (·.1))) c = true) (hq : Q.ok = true)
    (h : ∀ W x, evF W tab C O JC JL fn A Q x = F W x) : ECok Try.prog f (.es ⟨A, Q, F stdW⟩) :=
  ⟨hq, fun x q hx => evF_ct tab_ok hC mixedP hf hb hn hl fun _ => (h stdW x).trans hx⟩
theorem ls_ok {f : FuncId} {fn : Func} {c : Code} {A : List PK} {B E : List BK} {Q : LQT} (F : Wd → (pkT A (inT A B)).den → Option (Q.den × (bkT E .unit).den)) (C : ESs) (hC : ESsOk Try.prog C) (O : DTs) (JC JL : List (Nat × DJ))
    (hf : Try.prog.funcs[f]? = some fn) (hb : fn.body = some c) (hn : (fn.name == "runtime.NumGoroutine") = false) (hl : loopsOk (cuts (JC.map (·.1))) c = true) (hq : Q.ok = true) (hBE : tysE B E = true) (hB : (B.all fun B => B.cells.all CK.cok) = true) (hE : (E.all fun B => B.cells.all CK.cok) = true)
    (h : ∀ W z, evFL W tab C O JC JL fn A B E Q z = F W z) : ECok Try.prog f (.ls ⟨A, B, E, Q, F stdW⟩) :=
  ⟨hq, hBE, hE, fun z o hz => evFL_ct tab_ok hC mixedP hf hb hn hl hBE hB ((h stdW z).trans hz)⟩
end Go.Proofs.Ytnldhkhnfodplaa

namespace Go.Vc
open Go Go.RowKit
theorem QRsH_of {U : Nat → Prop} {w : World} : ∀ {rs : List R} {vs : List Value}, listH U w rs vs → QRsH U w (rs.map .r) vs []
  | [], vs, h => by simp only [listH] at h; exact ⟨h, rfl⟩
  | r :: rs, vs, h => by
    simp only [listH] at h
    obtain ⟨u, us, rfl, h1, h2⟩ := h
    exact ⟨u, us, [], [], rfl, rfl, ⟨rfl, h1⟩, QRsH_of h2⟩
theorem CtQ.tup {P : Program} {f : FuncId} {ars rs : List R} (h : CtQ P f ars (.r (.tup rs))) : CtQ P f ars (.tup (rs.map .r)) := by
  intro U w vs hU hvs
  refine (h U w vs hU hvs).mono fun v w' ⟨os, h1, h2⟩ => ⟨os, ?_, h2⟩
  simp only [QR.h, R.h] at h1 ⊢
  obtain ⟨rfl, us, rfl, h3⟩ := h1
  exact ⟨us, rfl, QRsH_of h3⟩
end Go.Vc
namespace Go.Proofs.Ytnldhkhnfodplaa
open Go Go.Vc Go.RowKit
abbrev rU (n : Int) : R := .val (.int .u64 n)
theorem add64_ct (x y c : Int) (hx : 0 ≤ x) (hy : 0 ≤ y) (hc0 : 0 ≤ c) (hc : c ≤ 1) : Ct Try.prog 178 [rU x, rU y, rU c] (.tup [rU ((x + y + c) % 18446744073709551616), rU ((x + y + c) / 18446744073709551616)]) := by
  refine ctG_ext (v := .tuple #[.int .u64 ((x + y + c) % 18446744073709551616), .int .u64 ((x + y + c) / 18446744073709551616)]) (fun w => ?_) ⟨rfl, rfl, trivial⟩
  rw [run_callFunc_extern Try.func178 (by decide +kernel) rfl rfl (e := add64Entry) (by kernel_rfl)]
  show ((add64Entry #[.int .u64 x, .int .u64 y, .int .u64 c]).run Try.prog w).andThen _ = _
  rw [run_add64 x y c hx hy hc0 hc]; rfl
theorem run_sub64' (x y : Nat) (b : Nat) (hb : b ≤ 1) (w : World) : ((Extern.MathBitsCarry.rows[1]!).2 #[.int .u64 x, .int .u64 y, .int .u64 b]).run Try.prog w =
    .ok (.tuple #[.int .u64 (((x + 18446744073709551616 - y - b) % 18446744073709551616 : Nat) : Int), .int .u64 ((if x < y + b then 1 else 0 : Nat) : Int)]) w := by
  have : b = 0 ∨ b = 1 := by omega
  rcases this with rfl | rfl <;> rfl
theorem sub64_ct (x y b : Int) (hx : 0 ≤ x) (hy : 0 ≤ y) (hy2 : y < 18446744073709551616) (hb0 : 0 ≤ b) (hb : b ≤ 1) : Ct Try.prog 179 [rU x, rU y, rU b] (.tup [rU ((x - y - b) % 18446744073709551616), rU (if x < y + b then 1 else 0)]) := by
  obtain ⟨x, rfl⟩ := Int.eq_ofNat_of_zero_le hx
  obtain ⟨y, rfl⟩ := Int.eq_ofNat_of_zero_le hy
  obtain ⟨b, rfl⟩ := Int.eq_ofNat_of_zero_le hb0
  refine ctG_ext (v := .tuple #[.int .u64 (((x : Int) - y - b) % 18446744073709551616), .int .u64 (if (x : Int) < y + b then 1 else 0)]) (fun w => ?_) ⟨rfl, rfl, trivial⟩
  rw [run_callFunc_extern Try.func179 (by decide +kernel) rfl rfl (e := (Extern.MathBitsCarry.rows[1]!).2) (by kernel_rfl)]
  show (((Extern.MathBitsCarry.rows[1]!).2 #[.int .u64 x, .int .u64 y, .int .u64 b]).run Try.prog w).andThen _ = _
  rw [run_sub64' x y b (by omega) w]
  have e1 : (((x + 18446744073709551616 - y - b) % 18446744073709551616 : Nat) : Int) = ((x : Int) - y - b) % 18446744073709551616 := by omega
  have e2 : ((if x < y + b then 1 else 0 : Nat) : Int) = if (x : Int) < y + b then 1 else 0 := by split <;> split <;> omega
  rw [e1, e2]; rfl
def add64 (x y c : Int) : Option (Int × Int × Unit) := if 0 ≤ x ∧ 0 ≤ y ∧ 0 ≤ c ∧ c ≤ 1 then some ((x + y + c) % 18446744073709551616, (x + y + c) / 18446744073709551616, ()) else none
def sub64 (x y b : Int) : Option (Int × Int × Unit) := if 0 ≤ x ∧ 0 ≤ y ∧ y < 18446744073709551616 ∧ 0 ≤ b ∧ b ≤ 1 then some ((x - y - b) % 18446744073709551616, if x < y + b then 1 else 0, ()) else none
def add64_s : ES := ⟨.pair (.int .u64) (.pair (.int .u64) (.pair (.int .u64) .unit)), .pair (.v (.int .u64)) (.pair (.v (.int .u64)) .unit), fun x => add64 x.1 x.2.1 x.2.2.1⟩
def sub64_s : ES := ⟨.pair (.int .u64) (.pair (.int .u64) (.pair (.int .u64) .unit)), .pair (.v (.int .u64)) (.pair (.v (.int .u64)) .unit), fun x => sub64 x.1 x.2.1 x.2.2.1⟩
theorem add64_ok : ECok Try.prog 178 (.es add64_s) := by
  refine ⟨rfl, fun x q h => ?_⟩
  replace h : add64 x.1 x.2.1 x.2.2.1 = some q := h
  unfold add64 at h
  split at h
  · rename_i hc
    have h := Option.some.inj h
    subst h
    exact (CtQ.of (add64_ct x.1 x.2.1 x.2.2.1 hc.1 hc.2.1 hc.2.2.1 hc.2.2.2)).tup
  · cases h
theorem sub64_ok : ECok Try.prog 179 (.es sub64_s) := by
  refine ⟨rfl, fun x q h => ?_⟩
  replace h : sub64 x.1 x.2.1 x.2.2.1 = some q := h
  unfold sub64 at h
  split at h
  · rename_i hc
    have h := Option.some.inj h
    subst h
    exact (CtQ.of (sub64_ct x.1 x.2.1 x.2.2.1 hc.1 hc.2.1 hc.2.2.1 hc.2.2.2.1 hc.2.2.2.2)).tup
  · cases h
end Go.Proofs.Ytnldhkhnfodplaa

namespace Go.Proofs.Ytnldhkhnfodplaa
open Go Go.Vc Go.RowKit
set_option maxRecDepth 100000
@[reducible] def tAUnit : DT := (.pair (.int .i64) (.pair (.int .i64) .unit))
abbrev AUnit' := Int × Int × Unit
@[reducible] def tACommand : DT := (.pair (.int .i64) (.pair (.int .i64) (.pair (.int .i64) (.pair tAUnit (.pair tAUnit (.pair (.int .i64) (.pair (.int .i64) (.pair (.int .i64) (.pair (.int .i64) (.pair (.int .i64) (.pair (.int .i64) (.pair (.slc (.int .i64)) .unit))))))))))))
abbrev ACommand' := Int × Int × Int × AUnit' × AUnit' × Int × Int × Int × Int × Int × Int × (List Int) × Unit
@[reducible] def tPackReader : DT := (.pair .bool (.pair (.slc (.int .u8)) (.pair (.int .i64) .unit)))
abbrev PackReader' := Bool × (List Int) × Int × Unit
@[reducible] def tNovationref04Reader : DT := (.pair (.slc (.int .u8)) (.pair (.int .i64) .unit))
abbrev Novationref04Reader' := (List Int) × Int × Unit
@[reducible] def tPackWriter : DT := (.pair .bool (.pair (.slc (.int .u8)) .unit))
abbrev PackWriter' := Bool × (List Int) × Unit
noncomputable def ref01_CutW (W : Wd) (b : List Int) (n : Int) : Option (List Int) := 
 W.cnd (decide (n < (b.length : Int))) (W.bnd n b.length fun h1 => some (b.take h1))
  (some b)
noncomputable def ref01_Cut (b : List Int) (n : Int) : Option (List Int) := ref01_CutW stdW b n
noncomputable def ref01_Cut_s : ES := ⟨(.pair (.slc (.int .u8)) (.pair (.int .i64) .unit)), (.v (.slc (.int .u8))), fun x => ref01_Cut x.1 x.2.1⟩
theorem ref01_Cut_ok : ECok Try.prog 35 (.es ref01_Cut_s)   := es_ok (A := (.pair (.slc (.int .u8)) (.pair (.int .i64) .unit))) (Q := (.v (.slc (.int .u8)))) (fun W x => ref01_CutW W x.1 x.2.1) [] trivial [] [] [] Try.func35 rfl (by decide +kernel) rfl rfl (fun W x => by kernel_rfl)
noncomputable def law34_ShortW (W : Wd) (c : ACommand') : Option ACommand' := 
 W.join (fun (z1 : Int × Int × Int × Int × Int × Int × Int × Int × Int × Int × Int × Int × Int × List (Int) × Unit) => some (z1.1, (z1.2.1, (z1.2.2.1, ((z1.2.2.2.1, (z1.2.2.2.2.1, ())), ((z1.2.2.2.2.2.1, (z1.2.2.2.2.2.2.1, ())), (z1.2.2.2.2.2.2.2.1, (z1.2.2.2.2.2.2.2.2.1, (z1.2.2.2.2.2.2.2.2.2.1, (z1.2.2.2.2.2.2.2.2.2.2.1, (z1.2.2.2.2.2.2.2.2.2.2.2.1, (z1.2.2.2.2.2.2.2.2.2.2.2.2.1, (z1.2.2.2.2.2.2.2.2.2.2.2.2.2.1, ())))))))))))))
  fun k2 => 
  W.cnd (decide (40 < (c.2.2.2.2.2.2.2.2.2.2.2.1.length : Int))) (W.bnd 40 c.2.2.2.2.2.2.2.2.2.2.2.1.length fun h3 => (k2 (c.1, (c.2.1, (c.2.2.1, (c.2.2.2.1.1, (c.2.2.2.1.2.1, (c.2.2.2.2.1.1, (c.2.2.2.2.1.2.1, (c.2.2.2.2.2.1, (c.2.2.2.2.2.2.1, (c.2.2.2.2.2.2.2.1, (c.2.2.2.2.2.2.2.2.1, (c.2.2.2.2.2.2.2.2.2.1, (c.2.2.2.2.2.2.2.2.2.2.1, ((c.2.2.2.2.2.2.2.2.2.2.2.1.take h3), ()))))))))))))))))
   ((k2 (c.1, (c.2.1, (c.2.2.1, (c.2.2.2.1.1, (c.2.2.2.1.2.1, (c.2.2.2.2.1.1, (c.2.2.2.2.1.2.1, (c.2.2.2.2.2.1, (c.2.2.2.2.2.2.1, (c.2.2.2.2.2.2.2.1, (c.2.2.2.2.2.2.2.2.1, (c.2.2.2.2.2.2.2.2.2.1, (c.2.2.2.2.2.2.2.2.2.2.1, (c.2.2.2.2.2.2.2.2.2.2.2.1, ()))))))))))))))))
noncomputable def law34_Short (c : ACommand') : Option ACommand' := law34_ShortW stdW c
noncomputable def law34_Short_s : ES := ⟨(.pair tACommand .unit), (.v tACommand), fun x => law34_Short x.1⟩
theorem law34_Short_ok : ECok Try.prog 60 (.es law34_Short_s)   := es_ok (A := (.pair tACommand .unit)) (Q := (.v tACommand)) (fun W x => law34_ShortW W x.1) [] trivial [] [(3, ⟨[], [(0, [.t (.int .i64), .t (.int .i64), .t (.int .i64), .t (.int .i64), .t (.int .i64), .t (.int .i64), .t (.int .i64), .t (.int .i64), .t (.int .i64), .t (.int .i64), .t (.int .i64), .t (.int .i64), .t (.int .i64), .t (.slc (.int .i64))])], []⟩)] [] Try.func60 rfl (by decide +kernel) rfl rfl (fun W x => by kernel_rfl)
noncomputable def slices_Clonebyte_byteW (W : Wd) (s : List Int) : Option (List Int) := W.nilq (List.isEmpty s) fun g1 => 
 W.cnd (Go.Vc.notIf false g1) (some [])
  (W.room ((0 : Nat) + s.length) 1 (some ([] ++ s)))
noncomputable def slices_Clonebyte_byte (s : List Int) : Option (List Int) := slices_Clonebyte_byteW stdW s
noncomputable def slices_Clonebyte_byte_s : ES := ⟨(.pair (.slc (.int .u8)) .unit), (.own 5 (.int .u8)), fun x => slices_Clonebyte_byte x.1⟩
theorem slices_Clonebyte_byte_ok : ECok Try.prog 86 (.es slices_Clonebyte_byte_s)   := es_ok (A := (.pair (.slc (.int .u8)) .unit)) (Q := (.own 5 (.int .u8))) (fun W x => slices_Clonebyte_byteW W x.1) [] trivial [] [] [] Try.func86 rfl (by decide +kernel) rfl rfl (fun W x => by kernel_rfl)
noncomputable def pack_OpenW (W : Wd) (b : List Int) : Option ((Bool × (List Int) × Int × Unit) × (Unit)) := W.call (slices_Clonebyte_byte b) fun v1 => some ((true, (v1, (0, ()))), ())
noncomputable def pack_Open (b : List Int) : Option ((Bool × (List Int) × Int × Unit) × (Unit)) := pack_OpenW stdW b
noncomputable def pack_Open_s : LS := ⟨[.v (.slc (.int .u8))], [], [], (.obj ⟨65, [.v .bool, .v (.slc (.int .u8)), .v (.int .i64)]⟩), fun x => pack_Open x.1⟩
theorem pack_Open_ok : ECok Try.prog 36 (.ls pack_Open_s)   := ls_ok (A := [.v (.slc (.int .u8))]) (B := []) (E := []) (Q := (.obj ⟨65, [.v .bool, .v (.slc (.int .u8)), .v (.int .i64)]⟩)) (fun W x => pack_OpenW W x.1) [(86, .es slices_Clonebyte_byte_s)] ⟨slices_Clonebyte_byte_ok, trivial⟩ [] [] [] Try.func36 rfl (by decide +kernel) rfl rfl rfl rfl rfl (fun W x => by kernel_rfl)
noncomputable def pack_Reader_goodW (W : Wd) (r0 : Bool) (r1 : List Int) (r2 : Int) : Option (Bool × (Bool × (List Int) × Int × Unit)) := 
 W.cnd r0 (some ((r2 == 0), (r0, (r1, (r2, ())))))
  (some (false, (r0, (r1, (r2, ())))))
noncomputable def pack_Reader_good (r0 : Bool) (r1 : List Int) (r2 : Int) : Option (Bool × (Bool × (List Int) × Int × Unit)) := pack_Reader_goodW stdW r0 r1 r2
noncomputable def pack_Reader_good_s : LS := ⟨[.ptr], [⟨65, [.v .bool, .v (.slc (.int .u8)), .v (.int .i64)]⟩], [⟨65, [.v .bool, .v (.slc (.int .u8)), .v (.int .i64)]⟩], (.q (.v .bool)), fun x => pack_Reader_good x.1 x.2.1 x.2.2.1⟩
theorem pack_Reader_good_ok : ECok Try.prog 87 (.ls pack_Reader_good_s)   := ls_ok (A := [.ptr]) (B := [⟨65, [.v .bool, .v (.slc (.int .u8)), .v (.int .i64)]⟩]) (E := [⟨65, [.v .bool, .v (.slc (.int .u8)), .v (.int .i64)]⟩]) (Q := (.q (.v .bool))) (fun W x => pack_Reader_goodW W x.1 x.2.1 x.2.2.1) [] trivial [] [] [] Try.func87 rfl (by decide +kernel) rfl rfl rfl rfl rfl (fun W x => by kernel_rfl)
noncomputable def pack_Reader_failW (W : Wd) (e : Int) (r0 : Bool) (r1 : List Int) (r2 : Int) : Option (Unit × (Bool × (List Int) × Int × Unit)) := some ((), (r0, ([], (e, ()))))
noncomputable def pack_Reader_fail (e : Int) (r0 : Bool) (r1 : List Int) (r2 : Int) : Option (Unit × (Bool × (List Int) × Int × Unit)) := pack_Reader_failW stdW e r0 r1 r2
noncomputable def pack_Reader_fail_s : LS := ⟨[.ptr, .v (.int .i64)], [⟨65, [.v .bool, .v (.slc (.int .u8)), .v (.int .i64)]⟩], [⟨65, [.v .bool, .v (.slc (.int .u8)), .v (.int .i64)]⟩], (.q .unit), fun x => pack_Reader_fail x.1 x.2.1 x.2.2.1 x.2.2.2.1⟩
theorem pack_Reader_fail_ok : ECok Try.prog 90 (.ls pack_Reader_fail_s)   := ls_ok (A := [.ptr, .v (.int .i64)]) (B := [⟨65, [.v .bool, .v (.slc (.int .u8)), .v (.int .i64)]⟩]) (E := [⟨65, [.v .bool, .v (.slc (.int .u8)), .v (.int .i64)]⟩]) (Q := (.q .unit)) (fun W x => pack_Reader_failW W x.1 x.2.1 x.2.2.1 x.2.2.2.1) [] trivial [] [] [] Try.func90 rfl (by decide +kernel) rfl rfl rfl rfl rfl (fun W x => by kernel_rfl)
noncomputable def pack_Reader_numberW (W : Wd) (r0 : Bool) (r1 : List Int) (r2 : Int) : Option ((Int × Bool × Unit) × (Bool × (List Int) × Int × Unit)) := 
 W.loop (fun (z1 : Int × Int × Bool × List (Int) × Int × Unit) again2 => 
  W.cnd ((z1.2.2.2.1.length : Int) == 0) (W.call (pack_Reader_fail 4 z1.2.2.1 z1.2.2.2.1 z1.2.2.2.2.1) fun v3 => some ((0, (false, ())), (v3.2.1, (v3.2.2.1, v3.2.2.2))))
   (W.idx z1.2.2.2.1 0 fun x4 => W.bnd 1 z1.2.2.2.1.length fun h5 => 
   W.join (fun (z6 : Bool × Unit) => 
    W.cnd z6.1 (W.call (pack_Reader_fail 3 z1.2.2.1 ((z1.2.2.2.1.take z1.2.2.2.1.length).drop h5) z1.2.2.2.2.1) fun v7 => some ((0, (false, ())), (v7.2.1, (v7.2.2.1, v7.2.2.2))))
     (W.nn z1.2.1 (
     W.cnd (decide (x4 < 128)) (some (((Go.bits Go.BinOp.or Go.IntKind.u64 z1.1 (IntKind.u64.wrap ((IntKind.u64.wrap (Go.bits Go.BinOp.and Go.IntKind.u8 x4 127)) * (2 ^ (Min.min (Int.toNat z1.2.1) (Go.IntKind.bits Go.IntKind.u64)))))), (true, ())), (z1.2.2.1, (((z1.2.2.2.1.take z1.2.2.2.1.length).drop h5), z1.2.2.2.2))))
      ((again2 ((Go.bits Go.BinOp.or Go.IntKind.u64 z1.1 (IntKind.u64.wrap ((IntKind.u64.wrap (Go.bits Go.BinOp.and Go.IntKind.u8 x4 127)) * (2 ^ (Min.min (Int.toNat z1.2.1) (Go.IntKind.bits Go.IntKind.u64)))))), ((IntKind.i64.wrap (z1.2.1 + 7)), (z1.2.2.1, (((z1.2.2.2.1.take z1.2.2.2.1.length).drop h5), z1.2.2.2.2)))))))))
    fun k8 => 
    W.cnd (decide (63 < z1.2.1)) ((k8 (true, ())))
     (
     W.cnd (z1.2.1 == 63) (
      W.cnd (decide (1 < x4)) ((k8 (true, ())))
       (
       W.cnd (x4 == 0) ((k8 ((decide (0 < z1.2.1)), ())))
        ((k8 (false, ())))))
      (
      W.cnd (x4 == 0) ((k8 ((decide (0 < z1.2.1)), ())))
       ((k8 (false, ())))))))
  (0, (0, (r0, (r1, (r2, ())))))
noncomputable def pack_Reader_number (r0 : Bool) (r1 : List Int) (r2 : Int) : Option ((Int × Bool × Unit) × (Bool × (List Int) × Int × Unit)) := pack_Reader_numberW stdW r0 r1 r2
noncomputable def pack_Reader_number_s : LS := ⟨[.ptr], [⟨65, [.v .bool, .v (.slc (.int .u8)), .v (.int .i64)]⟩], [⟨65, [.v .bool, .v (.slc (.int .u8)), .v (.int .i64)]⟩], (.q (.pair (.v (.int .u64)) (.pair (.v .bool) .unit))), fun x => pack_Reader_number x.1 x.2.1 x.2.2.1⟩
theorem pack_Reader_number_ok : ECok Try.prog 88 (.ls pack_Reader_number_s)   := ls_ok (A := [.ptr]) (B := [⟨65, [.v .bool, .v (.slc (.int .u8)), .v (.int .i64)]⟩]) (E := [⟨65, [.v .bool, .v (.slc (.int .u8)), .v (.int .i64)]⟩]) (Q := (.q (.pair (.v (.int .u64)) (.pair (.v .bool) .unit)))) (fun W x => pack_Reader_numberW W x.1 x.2.1 x.2.2.1) [(90, .ls pack_Reader_fail_s)] ⟨pack_Reader_fail_ok, trivial⟩ [] [(500048, ⟨[(48, .t .bool)], [], []⟩)] [(4, ⟨[(4, .t (.int .u64)), (5, .t (.int .i64))], [(0, [.t .bool, .t (.slc (.int .u8)), .t (.int .i64)])], []⟩)] Try.func88 rfl (by decide +kernel) rfl rfl rfl rfl rfl (fun W x => by kernel_rfl)
noncomputable def pack_unfoldedW (W : Wd) (u : Int) : Option Int := W.nn 1 (some (Go.bits Go.BinOp.xor Go.IntKind.i64 (IntKind.i64.wrap (Int.fdiv u (2 ^ (Min.min (Int.toNat 1) (Go.IntKind.bits Go.IntKind.u64))))) (IntKind.i64.wrap (0 - (IntKind.i64.wrap (Go.bits Go.BinOp.and Go.IntKind.u64 u 1))))))
noncomputable def pack_unfolded (u : Int) : Option Int := pack_unfoldedW stdW u
noncomputable def pack_unfolded_s : ES := ⟨(.pair (.int .u64) .unit), (.v (.int .i64)), fun x => pack_unfolded x.1⟩
theorem pack_unfolded_ok : ECok Try.prog 89 (.es pack_unfolded_s)   := es_ok (A := (.pair (.int .u64) .unit)) (Q := (.v (.int .i64))) (fun W x => pack_unfoldedW W x.1) [] trivial [] [] [] Try.func89 rfl (by decide +kernel) rfl rfl (fun W x => by kernel_rfl)
noncomputable def pack_Reader_IntW (W : Wd) (lo : Int) (hi : Int) (r0 : Bool) (r1 : List Int) (r2 : Int) : Option (Int × (Bool × (List Int) × Int × Unit)) := W.call (pack_Reader_good r0 r1 r2) fun v1 => 
 W.cnd (!v1.1) (some (0, (v1.2.1, (v1.2.2.1, v1.2.2.2))))
  (W.call (pack_Reader_number v1.2.1 v1.2.2.1 v1.2.2.2.1) fun v2 => W.call (pack_unfolded v2.1.1) fun v3 => 
  W.cnd (!v2.1.2.1) (some (0, (v2.2.1, (v2.2.2.1, v2.2.2.2))))
   (
   W.join (fun (z4 : Bool × Unit) => 
    W.cnd z4.1 (W.call (pack_Reader_fail 7 v2.2.1 v2.2.2.1 v2.2.2.2.1) fun v5 => some (0, (v5.2.1, (v5.2.2.1, v5.2.2.2))))
     (some (v3, (v2.2.1, (v2.2.2.1, v2.2.2.2)))))
    fun k6 => 
    W.cnd (decide (v3 < lo)) ((k6 (true, ())))
     ((k6 ((decide (hi < v3)), ())))))
noncomputable def pack_Reader_Int (lo : Int) (hi : Int) (r0 : Bool) (r1 : List Int) (r2 : Int) : Option (Int × (Bool × (List Int) × Int × Unit)) := pack_Reader_IntW stdW lo hi r0 r1 r2
noncomputable def pack_Reader_Int_s : LS := ⟨[.ptr, .v (.int .i64), .v (.int .i64)], [⟨65, [.v .bool, .v (.slc (.int .u8)), .v (.int .i64)]⟩], [⟨65, [.v .bool, .v (.slc (.int .u8)), .v (.int .i64)]⟩], (.q (.v (.int .i64))), fun x => pack_Reader_Int x.1 x.2.1 x.2.2.1 x.2.2.2.1 x.2.2.2.2.1⟩
theorem pack_Reader_Int_ok : ECok Try.prog 37 (.ls pack_Reader_Int_s)   := ls_ok (A := [.ptr, .v (.int .i64), .v (.int .i64)]) (B := [⟨65, [.v .bool, .v (.slc (.int .u8)), .v (.int .i64)]⟩]) (E := [⟨65, [.v .bool, .v (.slc (.int .u8)), .v (.int .i64)]⟩]) (Q := (.q (.v (.int .i64)))) (fun W x => pack_Reader_IntW W x.1 x.2.1 x.2.2.1 x.2.2.2.1 x.2.2.2.2.1) [(87, .ls pack_Reader_good_s), (88, .ls pack_Reader_number_s), (89, .es pack_unfolded_s), (90, .ls pack_Reader_fail_s)] ⟨pack_Reader_good_ok, pack_Reader_number_ok, pack_unfolded_ok, pack_Reader_fail_ok, trivial⟩ [] [(500023, ⟨[(23, .t .bool)], [], []⟩)] [] Try.func37 rfl (by decide +kernel) rfl rfl rfl rfl rfl (fun W x => by kernel_rfl)
noncomputable def cmd_smallW (W : Wd) (to_ : Int) (r0 : Bool) (r1 : List Int) (r2 : Int) : Option (Int × (Bool × (List Int) × Int × Unit)) := W.call (pack_Reader_Int 0 to_ r0 r1 r2) fun v1 => some (v1.1, (v1.2.1, (v1.2.2.1, v1.2.2.2)))
noncomputable def cmd_small (to_ : Int) (r0 : Bool) (r1 : List Int) (r2 : Int) : Option (Int × (Bool × (List Int) × Int × Unit)) := cmd_smallW stdW to_ r0 r1 r2
noncomputable def cmd_small_s : LS := ⟨[.ptr, .v (.int .i64)], [⟨65, [.v .bool, .v (.slc (.int .u8)), .v (.int .i64)]⟩], [⟨65, [.v .bool, .v (.slc (.int .u8)), .v (.int .i64)]⟩], (.q (.v (.int .i64))), fun x => cmd_small x.1 x.2.1 x.2.2.1 x.2.2.2.1⟩
theorem cmd_small_ok : ECok Try.prog 129 (.ls cmd_small_s)   := ls_ok (A := [.ptr, .v (.int .i64)]) (B := [⟨65, [.v .bool, .v (.slc (.int .u8)), .v (.int .i64)]⟩]) (E := [⟨65, [.v .bool, .v (.slc (.int .u8)), .v (.int .i64)]⟩]) (Q := (.q (.v (.int .i64)))) (fun W x => cmd_smallW W x.1 x.2.1 x.2.2.1 x.2.2.2.1) [(37, .ls pack_Reader_Int_s)] ⟨pack_Reader_Int_ok, trivial⟩ [] [] [] Try.func129 rfl (by decide +kernel) rfl rfl rfl rfl rfl (fun W x => by kernel_rfl)
noncomputable def cmd_FieldsW (W : Wd) (op : Int) : Option ByteArray := 
 W.join (fun (z1 : Bool × Unit) => 
  W.cnd z1.1 (some (ByteArray.mk (Array.mk (77 :: (81 :: [])))))
   (
   W.cnd (op == 2) (some (ByteArray.mk (Array.mk (73 :: (81 :: (80 :: (78 :: [])))))))
    (
    W.cnd (op == 3) (some (ByteArray.mk (Array.mk (65 :: (80 :: (81 :: []))))))
     (
     W.cnd (op == 4) (some (ByteArray.mk (Array.mk (85 :: (77 :: (68 :: []))))))
      (
      W.join (fun (z2 : Bool × Unit) => 
       W.cnd z2.1 (some (ByteArray.mk (Array.mk (85 :: []))))
        (
        W.join (fun (z3 : Bool × Unit) => 
         W.cnd z3.1 (some (ByteArray.mk (Array.mk (85 :: (79 :: (73 :: (81 :: (80 :: []))))))))
          (
          W.join (fun (z4 : Bool × Unit) => 
           W.cnd z4.1 (some (ByteArray.mk (Array.mk (68 :: []))))
            (
            W.cnd (op == 12) (some (ByteArray.mk (Array.mk (85 :: (73 :: (78 :: []))))))
             (
             W.cnd (op == 13) (some (ByteArray.mk (Array.mk (68 :: (79 :: (81 :: []))))))
              (
              W.cnd (op == 14) (some (ByteArray.mk (Array.mk (73 :: (80 :: [])))))
               (
               W.cnd (op == 15) (some (ByteArray.mk (Array.mk (65 :: (80 :: [])))))
                (
                W.join (fun (z5 : Bool × Unit) => 
                 W.cnd z5.1 (some (ByteArray.mk (Array.mk (85 :: (65 :: (84 :: (81 :: [])))))))
                  (
                  W.join (fun (z6 : Bool × Unit) => 
                   W.cnd z6.1 (some (ByteArray.mk (Array.mk (85 :: (79 :: [])))))
                    (
                    W.join (fun (z7 : Bool × Unit) => 
                     W.cnd z7.1 (some (ByteArray.mk (Array.mk (77 :: []))))
                      (some (ByteArray.mk (Array.mk []))))
                     fun k8 => 
                     W.join (fun (z9 : Bool × Unit) => 
                      W.cnd z9.1 ((k8 z9))
                       (
                       W.join (fun (z10 : Bool × Unit) => 
                        W.cnd z10.1 ((k8 z10))
                         ((k8 ((op == 31), ()))))
                        fun k11 => (k11 ((op == 25), ()))))
                      fun k12 => (k12 ((op == 23), ()))))
                   fun k13 => 
                   W.join (fun (z14 : Bool × Unit) => 
                    W.cnd z14.1 ((k13 z14))
                     ((k13 ((op == 20), ()))))
                    fun k15 => (k15 ((op == 19), ()))))
                 fun k16 => 
                 W.join (fun (z17 : Bool × Unit) => 
                  W.cnd z17.1 ((k16 z17))
                   ((k16 ((op == 18), ()))))
                  fun k18 => (k18 ((op == 17), ()))))))))
           fun k19 => 
           W.join (fun (z20 : Bool × Unit) => 
            W.cnd z20.1 ((k19 z20))
             (
             W.join (fun (z21 : Bool × Unit) => 
              W.cnd z21.1 ((k19 z21))
               ((k19 ((op == 11), ()))))
              fun k22 => (k22 ((op == 10), ()))))
            fun k23 => (k23 ((op == 9), ()))))
         fun k24 => 
         W.join (fun (z25 : Bool × Unit) => 
          W.cnd z25.1 ((k24 z25))
           (
           W.join (fun (z26 : Bool × Unit) => 
            W.cnd z26.1 ((k24 z26))
             ((k24 ((op == 24), ()))))
            fun k27 => (k27 ((op == 8), ()))))
          fun k28 => (k28 ((op == 7), ()))))
       fun k29 => 
       W.join (fun (z30 : Bool × Unit) => 
        W.cnd z30.1 ((k29 z30))
         (
         W.join (fun (z31 : Bool × Unit) => 
          W.cnd z31.1 ((k29 z31))
           (
           W.join (fun (z32 : Bool × Unit) => 
            W.cnd z32.1 ((k29 z32))
             (
             W.join (fun (z33 : Bool × Unit) => 
              W.cnd z33.1 ((k29 z33))
               (
               W.join (fun (z34 : Bool × Unit) => 
                W.cnd z34.1 ((k29 z34))
                 ((k29 ((op == 29), ()))))
                fun k35 => (k35 ((op == 28), ()))))
              fun k36 => (k36 ((op == 27), ()))))
            fun k37 => (k37 ((op == 26), ()))))
          fun k38 => (k38 ((op == 22), ()))))
        fun k39 => (k39 ((op == 5), ())))))))
  fun k40 => 
  W.join (fun (z41 : Bool × Unit) => 
   W.cnd z41.1 ((k40 z41))
    (
    W.join (fun (z42 : Bool × Unit) => 
     W.cnd z42.1 ((k40 z42))
      ((k40 ((op == 21), ()))))
     fun k43 => (k43 ((op == 6), ()))))
   fun k44 => (k44 ((op == 1), ()))
noncomputable def cmd_Fields (op : Int) : Option ByteArray := cmd_FieldsW stdW op
noncomputable def cmd_Fields_s : ES := ⟨(.pair (.int .i64) .unit), (.v .str), fun x => cmd_Fields x.1⟩
theorem cmd_Fields_ok : ECok Try.prog 65 (.es cmd_Fields_s)   := es_ok (A := (.pair (.int .i64) .unit)) (Q := (.v .str)) (fun W x => cmd_FieldsW W x.1) [] trivial [] [(500004, ⟨[(4, .t .bool)], [], []⟩), (500014, ⟨[(14, .t .bool)], [], []⟩), (500021, ⟨[(21, .t .bool)], [], []⟩), (500025, ⟨[(25, .t .bool)], [], []⟩), (500037, ⟨[(37, .t .bool)], [], []⟩), (500040, ⟨[(40, .t .bool)], [], []⟩), (500043, ⟨[(43, .t .bool)], [], []⟩)] [] Try.func65 rfl (by decide +kernel) rfl rfl (fun W x => by kernel_rfl)
noncomputable def cmd_placeW (W : Wd) (r0 : Bool) (r1 : List Int) (r2 : Int) : Option (AUnit' × (Bool × (List Int) × Int × Unit)) := W.call (cmd_small 16 r0 r1 r2) fun v1 => W.call (cmd_small 16 v1.2.1 v1.2.2.1 v1.2.2.2.1) fun v2 => some ((v1.1, (v2.1, ())), (v2.2.1, (v2.2.2.1, v2.2.2.2)))
noncomputable def cmd_place (r0 : Bool) (r1 : List Int) (r2 : Int) : Option (AUnit' × (Bool × (List Int) × Int × Unit)) := cmd_placeW stdW r0 r1 r2
noncomputable def cmd_place_s : LS := ⟨[.ptr], [⟨65, [.v .bool, .v (.slc (.int .u8)), .v (.int .i64)]⟩], [⟨65, [.v .bool, .v (.slc (.int .u8)), .v (.int .i64)]⟩], (.q (.v tAUnit)), fun x => cmd_place x.1 x.2.1 x.2.2.1⟩
theorem cmd_place_ok : ECok Try.prog 173 (.ls cmd_place_s)   := ls_ok (A := [.ptr]) (B := [⟨65, [.v .bool, .v (.slc (.int .u8)), .v (.int .i64)]⟩]) (E := [⟨65, [.v .bool, .v (.slc (.int .u8)), .v (.int .i64)]⟩]) (Q := (.q (.v tAUnit))) (fun W x => cmd_placeW W x.1 x.2.1 x.2.2.1) [(129, .ls cmd_small_s)] ⟨cmd_small_ok, trivial⟩ [] [] [] Try.func173 rfl (by decide +kernel) rfl rfl rfl rfl rfl (fun W x => by kernel_rfl)
noncomputable def pack_Reader_ErrW (W : Wd) (r0 : Bool) (r1 : List Int) (r2 : Int) : Option (Int × (Bool × (List Int) × Int × Unit)) := 
 W.cnd (!r0) (some (1, (r0, (r1, (r2, ())))))
  (some (r2, (r0, (r1, (r2, ())))))
noncomputable def pack_Reader_Err (r0 : Bool) (r1 : List Int) (r2 : Int) : Option (Int × (Bool × (List Int) × Int × Unit)) := pack_Reader_ErrW stdW r0 r1 r2
noncomputable def pack_Reader_Err_s : LS := ⟨[.ptr], [⟨65, [.v .bool, .v (.slc (.int .u8)), .v (.int .i64)]⟩], [⟨65, [.v .bool, .v (.slc (.int .u8)), .v (.int .i64)]⟩], (.q (.v (.int .i64))), fun x => pack_Reader_Err x.1 x.2.1 x.2.2.1⟩
theorem pack_Reader_Err_ok : ECok Try.prog 41 (.ls pack_Reader_Err_s)   := ls_ok (A := [.ptr]) (B := [⟨65, [.v .bool, .v (.slc (.int .u8)), .v (.int .i64)]⟩]) (E := [⟨65, [.v .bool, .v (.slc (.int .u8)), .v (.int .i64)]⟩]) (Q := (.q (.v (.int .i64)))) (fun W x => pack_Reader_ErrW W x.1 x.2.1 x.2.2.1) [] trivial [] [] [] Try.func41 rfl (by decide +kernel) rfl rfl rfl rfl rfl (fun W x => by kernel_rfl)
noncomputable def cmd_numbersW (W : Wd) (to_ : Int) (r0 : Bool) (r1 : List Int) (r2 : Int) : Option ((List Int) × (Bool × (List Int) × Int × Unit)) := 
 W.join (fun (z1 : Bool × List (Int) × Int × List (Int) × Unit) => some (z1.2.2.2.1, (z1.1, (z1.2.1, (z1.2.2.1, ())))))
  fun k2 => W.call (cmd_small to_ r0 r1 r2) fun v3 => 
  W.loop (fun (z4 : Int × Bool × List (Int) × Int × List (Int) × Unit) again5 => 
   W.cnd (decide (0 < z4.1)) (W.call (pack_Reader_Err z4.2.1 z4.2.2.1 z4.2.2.2.1) fun v6 => 
    W.cnd (v6.1 == 0) (W.call (pack_Reader_Int (-9223372036854775808) 9223372036854775807 v6.2.1 v6.2.2.1 v6.2.2.2.1) fun v7 => W.room (z4.2.2.2.2.1.length + (v7.1 :: []).length) 8 ((again5 ((IntKind.i64.wrap (z4.1 - 1)), (v7.2.1, (v7.2.2.1, (v7.2.2.2.1, ((z4.2.2.2.2.1 ++ (v7.1 :: [])), ()))))))))
     ((k2 (v6.2.1, (v6.2.2.1, (v6.2.2.2.1, (z4.2.2.2.2.1, ())))))))
    ((k2 (z4.2.1, (z4.2.2.1, (z4.2.2.2.1, (z4.2.2.2.2.1, ())))))))
   (v3.1, (v3.2.1, (v3.2.2.1, (v3.2.2.2.1, ([], ())))))
noncomputable def cmd_numbers (to_ : Int) (r0 : Bool) (r1 : List Int) (r2 : Int) : Option ((List Int) × (Bool × (List Int) × Int × Unit)) := cmd_numbersW stdW to_ r0 r1 r2
noncomputable def cmd_numbers_s : LS := ⟨[.ptr, .v (.int .i64)], [⟨65, [.v .bool, .v (.slc (.int .u8)), .v (.int .i64)]⟩], [⟨65, [.v .bool, .v (.slc (.int .u8)), .v (.int .i64)]⟩], (.q (.own 2 (.int .i64))), fun x => cmd_numbers x.1 x.2.1 x.2.2.1 x.2.2.2.1⟩
theorem cmd_numbers_ok : ECok Try.prog 128 (.ls cmd_numbers_s)   := ls_ok (A := [.ptr, .v (.int .i64)]) (B := [⟨65, [.v .bool, .v (.slc (.int .u8)), .v (.int .i64)]⟩]) (E := [⟨65, [.v .bool, .v (.slc (.int .u8)), .v (.int .i64)]⟩]) (Q := (.q (.own 2 (.int .i64)))) (fun W x => cmd_numbersW W x.1 x.2.1 x.2.2.1 x.2.2.2.1) [(129, .ls cmd_small_s), (41, .ls pack_Reader_Err_s), (37, .ls pack_Reader_Int_s)] ⟨cmd_small_ok, pack_Reader_Err_ok, pack_Reader_Int_ok, trivial⟩ [] [(6, ⟨[(5, .row 1)], [(0, [.t .bool, .t (.slc (.int .u8)), .t (.int .i64)])], [.dead, .own 2 (.int .i64)]⟩)] [(3, ⟨[(5, .row 1), (6, .t (.int .i64))], [(0, [.t .bool, .t (.slc (.int .u8)), .t (.int .i64)])], [.dead, .own 2 (.int .i64)]⟩)] Try.func128 rfl (by decide +kernel) rfl rfl rfl rfl rfl (fun W x => by kernel_rfl)
noncomputable def cmd_takeW (W : Wd) (name : Int) (r0 : Bool) (r1 : List Int) (r2 : Int) (c0 : Int) (c1 : Int) (c2 : Int) (c3 : Int) (c4 : Int) (c5 : Int) (c6 : Int) (c7 : Int) (c8 : Int) (c9 : Int) (c10 : Int) (c11 : Int) (c12 : Int) (c13 : List Int) : Option (Unit × (Bool × (List Int) × Int × Int × Int × Int × Int × Int × Int × Int × Int × Int × Int × Int × Int × Int × (List Int) × Unit)) := 
 W.cnd (name == 77) (W.call (cmd_small 8 r0 r1 r2) fun v1 => some ((), (v1.2.1, (v1.2.2.1, (v1.2.2.2.1, (c0, (c1, (v1.1, (c3, (c4, (c5, (c6, (c7, (c8, (c9, (c10, (c11, (c12, (c13, ())))))))))))))))))))
  (
  W.cnd (name == 85) (W.call (cmd_place r0 r1 r2) fun v2 => some ((), (v2.2.1, (v2.2.2.1, (v2.2.2.2.1, (c0, (c1, (c2, (v2.1.1, (v2.1.2.1, (c5, (c6, (c7, (c8, (c9, (c10, (c11, (c12, (c13, ())))))))))))))))))))
   (
   W.cnd (name == 79) (W.call (cmd_place r0 r1 r2) fun v3 => some ((), (v3.2.1, (v3.2.2.1, (v3.2.2.2.1, (c0, (c1, (c2, (c3, (c4, (v3.1.1, (v3.1.2.1, (c7, (c8, (c9, (c10, (c11, (c12, (c13, ())))))))))))))))))))
    (
    W.cnd (name == 73) (W.call (cmd_small 8 r0 r1 r2) fun v4 => some ((), (v4.2.1, (v4.2.2.1, (v4.2.2.2.1, (c0, (c1, (c2, (c3, (c4, (c5, (c6, (v4.1, (c8, (c9, (c10, (c11, (c12, (c13, ())))))))))))))))))))
     (
     W.cnd (name == 65) (W.call (cmd_small 4 r0 r1 r2) fun v5 => some ((), (v5.2.1, (v5.2.2.1, (v5.2.2.2.1, (c0, (c1, (c2, (c3, (c4, (c5, (c6, (c7, (v5.1, (c9, (c10, (c11, (c12, (c13, ())))))))))))))))))))
      (
      W.cnd (name == 84) (W.call (cmd_small 255 r0 r1 r2) fun v6 => some ((), (v6.2.1, (v6.2.2.1, (v6.2.2.2.1, (c0, (c1, (c2, (c3, (c4, (c5, (c6, (c7, (c8, (v6.1, (c10, (c11, (c12, (c13, ())))))))))))))))))))
       (
       W.cnd (name == 68) (W.call (cmd_small 1048576 r0 r1 r2) fun v7 => some ((), (v7.2.1, (v7.2.2.1, (v7.2.2.2.1, (c0, (c1, (c2, (c3, (c4, (c5, (c6, (c7, (c8, (c9, (v7.1, (c11, (c12, (c13, ())))))))))))))))))))
        (
        W.cnd (name == 81) (W.call (pack_Reader_Int (-9223372036854775808) 9223372036854775807 r0 r1 r2) fun v8 => some ((), (v8.2.1, (v8.2.2.1, (v8.2.2.2.1, (c0, (c1, (c2, (c3, (c4, (c5, (c6, (c7, (c8, (c9, (c10, (v8.1, (c12, (c13, ())))))))))))))))))))
         (
         W.cnd (name == 80) (W.call (pack_Reader_Int (-9223372036854775808) 9223372036854775807 r0 r1 r2) fun v9 => some ((), (v9.2.1, (v9.2.2.1, (v9.2.2.2.1, (c0, (c1, (c2, (c3, (c4, (c5, (c6, (c7, (c8, (c9, (c10, (c11, (v9.1, (c13, ())))))))))))))))))))
          (
          W.cnd (name == 78) (W.call (cmd_numbers 32 r0 r1 r2) fun v10 => some ((), (v10.2.1, (v10.2.2.1, (v10.2.2.2.1, (c0, (c1, (c2, (c3, (c4, (c5, (c6, (c7, (c8, (c9, (c10, (c11, (c12, (v10.1, ())))))))))))))))))))
           (some ((), (r0, (r1, (r2, (c0, (c1, (c2, (c3, (c4, (c5, (c6, (c7, (c8, (c9, (c10, (c11, (c12, (c13, ()))))))))))))))))))))))))))))
noncomputable def cmd_take (name : Int) (r0 : Bool) (r1 : List Int) (r2 : Int) (c0 : Int) (c1 : Int) (c2 : Int) (c3 : Int) (c4 : Int) (c5 : Int) (c6 : Int) (c7 : Int) (c8 : Int) (c9 : Int) (c10 : Int) (c11 : Int) (c12 : Int) (c13 : List Int) : Option (Unit × (Bool × (List Int) × Int × Int × Int × Int × Int × Int × Int × Int × Int × Int × Int × Int × Int × Int × (List Int) × Unit)) := cmd_takeW stdW name r0 r1 r2 c0 c1 c2 c3 c4 c5 c6 c7 c8 c9 c10 c11 c12 c13
noncomputable def cmd_take_s : LS := ⟨[.ptr, .ptr, .v (.int .i32)], [⟨65, [.v .bool, .v (.slc (.int .u8)), .v (.int .i64)]⟩, ⟨105, [.v (.int .i64), .v (.int .i64), .v (.int .i64), .v (.int .i64), .v (.int .i64), .v (.int .i64), .v (.int .i64), .v (.int .i64), .v (.int .i64), .v (.int .i64), .v (.int .i64), .v (.int .i64), .v (.int .i64), .row 2 (.int .i64)]⟩], [⟨65, [.v .bool, .v (.slc (.int .u8)), .v (.int .i64)]⟩, ⟨105, [.v (.int .i64), .v (.int .i64), .v (.int .i64), .v (.int .i64), .v (.int .i64), .v (.int .i64), .v (.int .i64), .v (.int .i64), .v (.int .i64), .v (.int .i64), .v (.int .i64), .v (.int .i64), .v (.int .i64), .row 2 (.int .i64)]⟩], (.q .unit), fun x => cmd_take x.1 x.2.1 x.2.2.1 x.2.2.2.1 x.2.2.2.2.1 x.2.2.2.2.2.1 x.2.2.2.2.2.2.1 x.2.2.2.2.2.2.2.1 x.2.2.2.2.2.2.2.2.1 x.2.2.2.2.2.2.2.2.2.1 x.2.2.2.2.2.2.2.2.2.2.1 x.2.2.2.2.2.2.2.2.2.2.2.1 x.2.2.2.2.2.2.2.2.2.2.2.2.1 x.2.2.2.2.2.2.2.2.2.2.2.2.2.1 x.2.2.2.2.2.2.2.2.2.2.2.2.2.2.1 x.2.2.2.2.2.2.2.2.2.2.2.2.2.2.2.1 x.2.2.2.2.2.2.2.2.2.2.2.2.2.2.2.2.1 x.2.2.2.2.2.2.2.2.2.2.2.2.2.2.2.2.2.1⟩
theorem cmd_take_ok : ECok Try.prog 156 (.ls cmd_take_s)   := ls_ok (A := [.ptr, .ptr, .v (.int .i32)]) (B := [⟨65, [.v .bool, .v (.slc (.int .u8)), .v (.int .i64)]⟩, ⟨105, [.v (.int .i64), .v (.int .i64), .v (.int .i64), .v (.int .i64), .v (.int .i64), .v (.int .i64), .v (.int .i64), .v (.int .i64), .v (.int .i64), .v (.int .i64), .v (.int .i64), .v (.int .i64), .v (.int .i64), .row 2 (.int .i64)]⟩]) (E := [⟨65, [.v .bool, .v (.slc (.int .u8)), .v (.int .i64)]⟩, ⟨105, [.v (.int .i64), .v (.int .i64), .v (.int .i64), .v (.int .i64), .v (.int .i64), .v (.int .i64), .v (.int .i64), .v (.int .i64), .v (.int .i64), .v (.int .i64), .v (.int .i64), .v (.int .i64), .v (.int .i64), .row 2 (.int .i64)]⟩]) (Q := (.q .unit)) (fun W x => cmd_takeW W x.1 x.2.1 x.2.2.1 x.2.2.2.1 x.2.2.2.2.1 x.2.2.2.2.2.1 x.2.2.2.2.2.2.1 x.2.2.2.2.2.2.2.1 x.2.2.2.2.2.2.2.2.1 x.2.2.2.2.2.2.2.2.2.1 x.2.2.2.2.2.2.2.2.2.2.1 x.2.2.2.2.2.2.2.2.2.2.2.1 x.2.2.2.2.2.2.2.2.2.2.2.2.1 x.2.2.2.2.2.2.2.2.2.2.2.2.2.1 x.2.2.2.2.2.2.2.2.2.2.2.2.2.2.1 x.2.2.2.2.2.2.2.2.2.2.2.2.2.2.2.1 x.2.2.2.2.2.2.2.2.2.2.2.2.2.2.2.2.1 x.2.2.2.2.2.2.2.2.2.2.2.2.2.2.2.2.2.1) [(129, .ls cmd_small_s), (173, .ls cmd_place_s), (37, .ls pack_Reader_Int_s), (128, .ls cmd_numbers_s)] ⟨cmd_small_ok, cmd_place_ok, pack_Reader_Int_ok, cmd_numbers_ok, trivial⟩ [] [] [] Try.func156 rfl (by decide +kernel) rfl rfl rfl rfl rfl (fun W x => by kernel_rfl)
noncomputable def pack_Reader_EndW (W : Wd) (r0 : Bool) (r1 : List Int) (r2 : Int) : Option (Int × (Bool × (List Int) × Int × Unit)) := W.call (pack_Reader_Err r0 r1 r2) fun v1 => 
 W.cnd (v1.1 != 0) (some (v1.1, (v1.2.1, (v1.2.2.1, v1.2.2.2))))
  (
  W.cnd (decide (0 < (v1.2.2.1.length : Int))) (some (5, (v1.2.1, (v1.2.2.1, v1.2.2.2))))
   (some (0, (v1.2.1, (v1.2.2.1, v1.2.2.2)))))
noncomputable def pack_Reader_End (r0 : Bool) (r1 : List Int) (r2 : Int) : Option (Int × (Bool × (List Int) × Int × Unit)) := pack_Reader_EndW stdW r0 r1 r2
noncomputable def pack_Reader_End_s : LS := ⟨[.ptr], [⟨65, [.v .bool, .v (.slc (.int .u8)), .v (.int .i64)]⟩], [⟨65, [.v .bool, .v (.slc (.int .u8)), .v (.int .i64)]⟩], (.q (.v (.int .i64))), fun x => pack_Reader_End x.1 x.2.1 x.2.2.1⟩
theorem pack_Reader_End_ok : ECok Try.prog 39 (.ls pack_Reader_End_s)   := ls_ok (A := [.ptr]) (B := [⟨65, [.v .bool, .v (.slc (.int .u8)), .v (.int .i64)]⟩]) (E := [⟨65, [.v .bool, .v (.slc (.int .u8)), .v (.int .i64)]⟩]) (Q := (.q (.v (.int .i64)))) (fun W x => pack_Reader_EndW W x.1 x.2.1 x.2.2.1) [(41, .ls pack_Reader_Err_s)] ⟨pack_Reader_Err_ok, trivial⟩ [] [] [] Try.func39 rfl (by decide +kernel) rfl rfl rfl rfl rfl (fun W x => by kernel_rfl)
noncomputable def cmd_readW (W : Wd) (b : List Int) : Option (ACommand' × Int × Unit) := W.call (pack_Open b) fun v1 => W.call (pack_Reader_Int 1 31 v1.1.1 v1.1.2.1 v1.1.2.2.1) fun v2 => W.call (cmd_small 8 v2.2.1 v2.2.2.1 v2.2.2.2.1) fun v3 => W.call (cmd_Fields v2.1) fun v4 => 
 W.loop (fun (z5 : Bool × List (Int) × Int × Int × Int × Int × Int × Int × Int × Int × Int × Int × Int × Int × Int × Int × ByteArray × Int × List (Int) × Unit) again6 => 
  W.next z5.2.2.2.2.2.2.2.2.2.2.2.2.2.2.2.2.1 z5.2.2.2.2.2.2.2.2.2.2.2.2.2.2.2.2.2.1 (fun c8 q9 => W.call (cmd_take c8 z5.1 z5.2.1 z5.2.2.1 z5.2.2.2.1 z5.2.2.2.2.1 z5.2.2.2.2.2.1 z5.2.2.2.2.2.2.1 z5.2.2.2.2.2.2.2.1 z5.2.2.2.2.2.2.2.2.1 z5.2.2.2.2.2.2.2.2.2.1 z5.2.2.2.2.2.2.2.2.2.2.1 z5.2.2.2.2.2.2.2.2.2.2.2.1 z5.2.2.2.2.2.2.2.2.2.2.2.2.1 z5.2.2.2.2.2.2.2.2.2.2.2.2.2.1 z5.2.2.2.2.2.2.2.2.2.2.2.2.2.2.1 z5.2.2.2.2.2.2.2.2.2.2.2.2.2.2.2.1 z5.2.2.2.2.2.2.2.2.2.2.2.2.2.2.2.2.2.2.1) fun v10 => (again6 (v10.2.1, (v10.2.2.1, (v10.2.2.2.1, (v10.2.2.2.2.1, (v10.2.2.2.2.2.1, (v10.2.2.2.2.2.2.1, (v10.2.2.2.2.2.2.2.1, (v10.2.2.2.2.2.2.2.2.1, (v10.2.2.2.2.2.2.2.2.2.1, (v10.2.2.2.2.2.2.2.2.2.2.1, (v10.2.2.2.2.2.2.2.2.2.2.2.1, (v10.2.2.2.2.2.2.2.2.2.2.2.2.1, (v10.2.2.2.2.2.2.2.2.2.2.2.2.2.1, (v10.2.2.2.2.2.2.2.2.2.2.2.2.2.2.1, (v10.2.2.2.2.2.2.2.2.2.2.2.2.2.2.2.1, (v10.2.2.2.2.2.2.2.2.2.2.2.2.2.2.2.2.1, (z5.2.2.2.2.2.2.2.2.2.2.2.2.2.2.2.2.1, (q9, (v10.2.2.2.2.2.2.2.2.2.2.2.2.2.2.2.2.2.1, ())))))))))))))))))))))
   (W.call (pack_Reader_End z5.1 z5.2.1 z5.2.2.1) fun v7 => 
   W.cnd (v7.1 != 0) (some ((0, (0, (0, ((0, (0, ())), ((0, (0, ())), (0, (0, (0, (0, (0, (0, ([], ())))))))))))), (3, ())))
    (some ((z5.2.2.2.1, (z5.2.2.2.2.1, (z5.2.2.2.2.2.1, ((z5.2.2.2.2.2.2.1, (z5.2.2.2.2.2.2.2.1, ())), ((z5.2.2.2.2.2.2.2.2.1, (z5.2.2.2.2.2.2.2.2.2.1, ())), (z5.2.2.2.2.2.2.2.2.2.2.1, (z5.2.2.2.2.2.2.2.2.2.2.2.1, (z5.2.2.2.2.2.2.2.2.2.2.2.2.1, (z5.2.2.2.2.2.2.2.2.2.2.2.2.2.1, (z5.2.2.2.2.2.2.2.2.2.2.2.2.2.2.1, (z5.2.2.2.2.2.2.2.2.2.2.2.2.2.2.2.1, (z5.2.2.2.2.2.2.2.2.2.2.2.2.2.2.2.2.2.2.1, ())))))))))))), (0, ())))))
  (v3.2.1, (v3.2.2.1, (v3.2.2.2.1, (v2.1, (v3.1, (0, (0, (0, (0, (0, (0, (0, (0, (0, (0, (0, (v4, (0, ([], ())))))))))))))))))))
noncomputable def cmd_read (b : List Int) : Option (ACommand' × Int × Unit) := cmd_readW stdW b
noncomputable def cmd_read_s : ES := ⟨(.pair (.slc (.int .u8)) .unit), (.pair (.v tACommand) (.pair (.v (.int .i64)) .unit)), fun x => cmd_read x.1⟩
theorem cmd_read_ok : ECok Try.prog 118 (.es cmd_read_s)   := es_ok (A := (.pair (.slc (.int .u8)) .unit)) (Q := (.pair (.v tACommand) (.pair (.v (.int .i64)) .unit))) (fun W x => cmd_readW W x.1) [(36, .ls pack_Open_s), (37, .ls pack_Reader_Int_s), (129, .ls cmd_small_s), (65, .es cmd_Fields_s), (156, .ls cmd_take_s), (39, .ls pack_Reader_End_s)] ⟨pack_Open_ok, pack_Reader_Int_ok, cmd_small_ok, cmd_Fields_ok, cmd_take_ok, pack_Reader_End_ok, trivial⟩ [] [] [(4, ⟨[(18, .ob 0)], [(1, [.t .bool, .t (.slc (.int .u8)), .t (.int .i64)]), (2, [.t (.int .i64), .t (.int .i64), .t (.int .i64), .t (.int .i64), .t (.int .i64), .t (.int .i64), .t (.int .i64), .t (.int .i64), .t (.int .i64), .t (.int .i64), .t (.int .i64), .t (.int .i64), .t (.int .i64), .row 1])], [.itr, .own 2 (.int .i64)]⟩)] Try.func118 rfl (by decide +kernel) rfl rfl (fun W x => by kernel_rfl)
noncomputable def cmd_DecodeW (W : Wd) (b : List Int) : Option (ACommand' × Int × Unit) := W.call (cmd_read b) fun v1 => some ((v1.1.1, (v1.1.2.1, (v1.1.2.2.1, (v1.1.2.2.2.1, (v1.1.2.2.2.2.1, (v1.1.2.2.2.2.2.1, (v1.1.2.2.2.2.2.2.1, (v1.1.2.2.2.2.2.2.2.1, (v1.1.2.2.2.2.2.2.2.2.1, (v1.1.2.2.2.2.2.2.2.2.2.1, (v1.1.2.2.2.2.2.2.2.2.2.2.1, (v1.1.2.2.2.2.2.2.2.2.2.2.2.1, ())))))))))))), v1.2)
noncomputable def cmd_Decode (b : List Int) : Option (ACommand' × Int × Unit) := cmd_DecodeW stdW b
noncomputable def cmd_Decode_s : ES := ⟨(.pair (.slc (.int .u8)) .unit), (.pair (.v tACommand) (.pair (.v (.int .i64)) .unit)), fun x => cmd_Decode x.1⟩
theorem cmd_Decode_ok : ECok Try.prog 68 (.es cmd_Decode_s)   := es_ok (A := (.pair (.slc (.int .u8)) .unit)) (Q := (.pair (.v tACommand) (.pair (.v (.int .i64)) .unit))) (fun W x => cmd_DecodeW W x.1) [(118, .es cmd_read_s)] ⟨cmd_read_ok, trivial⟩ [] [] [] Try.func68 rfl (by decide +kernel) rfl rfl (fun W x => by kernel_rfl)
noncomputable def ref04_Reader_failW (W : Wd) (e : Int) (r0 : List Int) (r1 : Int) : Option (Unit × ((List Int) × Int × Unit)) := some ((), ([], (e, ())))
noncomputable def ref04_Reader_fail (e : Int) (r0 : List Int) (r1 : Int) : Option (Unit × ((List Int) × Int × Unit)) := ref04_Reader_failW stdW e r0 r1
noncomputable def ref04_Reader_fail_s : LS := ⟨[.ptr, .v (.int .i64)], [⟨195, [.v (.slc (.int .u8)), .v (.int .i64)]⟩], [⟨195, [.v (.slc (.int .u8)), .v (.int .i64)]⟩], (.q .unit), fun x => ref04_Reader_fail x.1 x.2.1 x.2.2.1⟩
theorem ref04_Reader_fail_ok : ECok Try.prog 158 (.ls ref04_Reader_fail_s)   := ls_ok (A := [.ptr, .v (.int .i64)]) (B := [⟨195, [.v (.slc (.int .u8)), .v (.int .i64)]⟩]) (E := [⟨195, [.v (.slc (.int .u8)), .v (.int .i64)]⟩]) (Q := (.q .unit)) (fun W x => ref04_Reader_failW W x.1 x.2.1 x.2.2.1) [] trivial [] [] [] Try.func158 rfl (by decide +kernel) rfl rfl rfl rfl rfl (fun W x => by kernel_rfl)
noncomputable def ref04_Reader_GetW (W : Wd) (lo : Int) (hi : Int) (r0 : List Int) (r1 : Int) : Option (Int × ((List Int) × Int × Unit)) := 
 W.cnd (r1 != 0) (some (0, (r0, (r1, ()))))
  (
  W.join (fun (z1 : Int × Unit) => 
   W.join (fun (z2 : Bool × Unit) => 
    W.cnd z2.1 (W.call (ref04_Reader_fail 4 r0 r1) fun v3 => some (0, (v3.2.1, v3.2.2)))
     (
     W.join (fun (z4 : Bool × Unit) => 
      W.cnd z4.1 (W.call (ref04_Reader_fail 3 r0 r1) fun v5 => some (0, (v5.2.1, v5.2.2)))
       (
       W.loop (fun (z6 : Int × Int × Unit) again7 => 
        W.cnd (decide (0 < z6.2.1)) (W.idx r0 (IntKind.i64.wrap (z6.2.1 - 1)) fun x8 => W.nz 128 ((again7 ((IntKind.u64.wrap ((IntKind.u64.wrap (128 * z6.1)) + (Int.tmod (IntKind.u64.wrap x8) 128))), ((IntKind.i64.wrap (z6.2.1 - 1)), ())))))
         (W.bnd (IntKind.i64.wrap (z1.1 + 1)) r0.length fun h9 => W.nz 2 (
         W.join (fun (z10 : Int × Unit) => 
          W.join (fun (z11 : Bool × Unit) => 
           W.cnd z11.1 (W.call (ref04_Reader_fail 7 ((r0.take r0.length).drop h9) r1) fun v12 => some (0, (v12.2.1, v12.2.2)))
            (some (z10.1, (((r0.take r0.length).drop h9), (r1, ())))))
           fun k13 => 
           W.cnd (decide (z10.1 < lo)) ((k13 (true, ())))
            ((k13 ((decide (hi < z10.1)), ()))))
          fun k14 => W.nz 2 (
          W.cnd ((Int.tmod z6.1 2) == 1) ((k14 ((IntKind.i64.wrap ((IntKind.i64.wrap (0 - (IntKind.i64.wrap (IntKind.u64.wrap (Int.tdiv z6.1 2))))) - 1)), ())))
           ((k14 ((IntKind.i64.wrap (IntKind.u64.wrap (Int.tdiv z6.1 2))), ())))))))
        (0, ((IntKind.i64.wrap (z1.1 + 1)), ()))))
      fun k15 => 
      W.cnd (z1.1 == 10) ((k15 (true, ())))
       (
       W.cnd (z1.1 == 9) (W.idx r0 9 fun x16 => 
        W.cnd (decide (1 < x16)) ((k15 (true, ())))
         (
         W.cnd (decide (0 < z1.1)) (W.idx r0 z1.1 fun x17 => (k15 ((x17 == 0), ())))
          ((k15 (false, ())))))
        (
        W.cnd (decide (0 < z1.1)) (W.idx r0 z1.1 fun x18 => (k15 ((x18 == 0), ())))
         ((k15 (false, ())))))))
    fun k19 => 
    W.cnd (decide (z1.1 < 10)) ((k19 ((z1.1 == (r0.length : Int)), ())))
     ((k19 (false, ()))))
   fun k20 => 
   W.loop (fun (z21 : Int × Unit) again22 => 
    W.cnd (decide (z21.1 < (r0.length : Int))) (W.idx r0 z21.1 fun x23 => 
     W.cnd (decide (128 ≤ x23)) (
      W.cnd (decide (z21.1 < 10)) ((again22 ((IntKind.i64.wrap (z21.1 + 1)), ())))
       ((k20 z21)))
      ((k20 z21)))
     ((k20 z21)))
    (0, ()))
noncomputable def ref04_Reader_Get (lo : Int) (hi : Int) (r0 : List Int) (r1 : Int) : Option (Int × ((List Int) × Int × Unit)) := ref04_Reader_GetW stdW lo hi r0 r1
noncomputable def ref04_Reader_Get_s : LS := ⟨[.ptr, .v (.int .i64), .v (.int .i64)], [⟨195, [.v (.slc (.int .u8)), .v (.int .i64)]⟩], [⟨195, [.v (.slc (.int .u8)), .v (.int .i64)]⟩], (.q (.v (.int .i64))), fun x => ref04_Reader_Get x.1 x.2.1 x.2.2.1 x.2.2.2.1⟩
theorem ref04_Reader_Get_ok : ECok Try.prog 123 (.ls ref04_Reader_Get_s)   := ls_ok (A := [.ptr, .v (.int .i64), .v (.int .i64)]) (B := [⟨195, [.v (.slc (.int .u8)), .v (.int .i64)]⟩]) (E := [⟨195, [.v (.slc (.int .u8)), .v (.int .i64)]⟩]) (Q := (.q (.v (.int .i64)))) (fun W x => ref04_Reader_GetW W x.1 x.2.1 x.2.2.1 x.2.2.2.1) [(158, .ls ref04_Reader_fail_s)] ⟨ref04_Reader_fail_ok, trivial⟩ [] [(6, ⟨[(7, .t (.int .i64))], [], []⟩), (21, ⟨[(10, .t (.int .i64))], [], []⟩), (500049, ⟨[(49, .t .bool)], [], []⟩), (500080, ⟨[(80, .t .bool)], [], []⟩), (500128, ⟨[(128, .t .bool)], [], []⟩)] [(4, ⟨[(7, .t (.int .i64))], [], []⟩), (14, ⟨[(8, .t (.int .u64)), (9, .t (.int .i64))], [], []⟩)] Try.func123 rfl (by decide +kernel) rfl rfl rfl rfl rfl (fun W x => by kernel_rfl)
noncomputable def ref34_getW (W : Wd) (r0 : List Int) (r1 : Int) : Option (Int × ((List Int) × Int × Unit)) := W.call (ref04_Reader_Get (-9223372036854775808) 9223372036854775807 r0 r1) fun v1 => some (v1.1, (v1.2.1, v1.2.2))
noncomputable def ref34_get (r0 : List Int) (r1 : Int) : Option (Int × ((List Int) × Int × Unit)) := ref34_getW stdW r0 r1
noncomputable def ref34_get_s : LS := ⟨[.ptr], [⟨195, [.v (.slc (.int .u8)), .v (.int .i64)]⟩], [⟨195, [.v (.slc (.int .u8)), .v (.int .i64)]⟩], (.q (.v (.int .i64))), fun x => ref34_get x.1 x.2.1⟩
theorem ref34_get_ok : ECok Try.prog 122 (.ls ref34_get_s)   := ls_ok (A := [.ptr]) (B := [⟨195, [.v (.slc (.int .u8)), .v (.int .i64)]⟩]) (E := [⟨195, [.v (.slc (.int .u8)), .v (.int .i64)]⟩]) (Q := (.q (.v (.int .i64)))) (fun W x => ref34_getW W x.1 x.2.1) [(123, .ls ref04_Reader_Get_s)] ⟨ref04_Reader_Get_ok, trivial⟩ [] [] [] Try.func122 rfl (by decide +kernel) rfl rfl rfl rfl rfl (fun W x => by kernel_rfl)
noncomputable def ref34_FieldsW (W : Wd) (op : Int) : Option ByteArray := 
 W.join (fun (z1 : Bool × Unit) => 
  W.cnd z1.1 (some (ByteArray.mk (Array.mk (77 :: (81 :: [])))))
   (
   W.cnd (op == 2) (some (ByteArray.mk (Array.mk (73 :: (81 :: (80 :: (78 :: [])))))))
    (
    W.cnd (op == 3) (some (ByteArray.mk (Array.mk (65 :: (80 :: (81 :: []))))))
     (
     W.cnd (op == 4) (some (ByteArray.mk (Array.mk (85 :: (77 :: (68 :: []))))))
      (
      W.join (fun (z2 : Bool × Unit) => 
       W.cnd z2.1 (some (ByteArray.mk (Array.mk (85 :: []))))
        (
        W.join (fun (z3 : Bool × Unit) => 
         W.cnd z3.1 (some (ByteArray.mk (Array.mk (85 :: (79 :: (73 :: (81 :: (80 :: []))))))))
          (
          W.join (fun (z4 : Bool × Unit) => 
           W.cnd z4.1 (some (ByteArray.mk (Array.mk (68 :: []))))
            (
            W.cnd (op == 12) (some (ByteArray.mk (Array.mk (85 :: (73 :: (78 :: []))))))
             (
             W.cnd (op == 13) (some (ByteArray.mk (Array.mk (68 :: (79 :: (81 :: []))))))
              (
              W.cnd (op == 14) (some (ByteArray.mk (Array.mk (73 :: (80 :: [])))))
               (
               W.cnd (op == 15) (some (ByteArray.mk (Array.mk (65 :: (80 :: [])))))
                (
                W.join (fun (z5 : Bool × Unit) => 
                 W.cnd z5.1 (some (ByteArray.mk (Array.mk (85 :: (65 :: (84 :: (81 :: [])))))))
                  (
                  W.join (fun (z6 : Bool × Unit) => 
                   W.cnd z6.1 (some (ByteArray.mk (Array.mk (85 :: (79 :: [])))))
                    (
                    W.join (fun (z7 : Bool × Unit) => 
                     W.cnd z7.1 (some (ByteArray.mk (Array.mk (77 :: []))))
                      (some (ByteArray.mk (Array.mk []))))
                     fun k8 => 
                     W.cnd (op == 23) ((k8 (true, ())))
                      (
                      W.cnd (op == 25) ((k8 (true, ())))
                       ((k8 ((op == 31), ()))))))
                   fun k9 => 
                   W.cnd (op == 19) ((k9 (true, ())))
                    ((k9 ((op == 20), ())))))
                 fun k10 => 
                 W.cnd (op == 17) ((k10 (true, ())))
                  ((k10 ((op == 18), ())))))))))
           fun k11 => 
           W.cnd (decide (9 ≤ op)) ((k11 ((decide (op ≤ 11)), ())))
            ((k11 (false, ())))))
         fun k12 => 
         W.cnd (op == 7) ((k12 (true, ())))
          (
          W.cnd (op == 8) ((k12 (true, ())))
           ((k12 ((op == 24), ()))))))
       fun k13 => 
       W.cnd (op == 5) ((k13 (true, ())))
        (
        W.cnd (op == 22) ((k13 (true, ())))
         (
         W.cnd (decide (26 ≤ op)) ((k13 ((decide (op ≤ 29)), ())))
          ((k13 (false, ()))))))))))
  fun k14 => 
  W.cnd (op == 1) ((k14 (true, ())))
   (
   W.cnd (op == 6) ((k14 (true, ())))
    ((k14 ((op == 21), ()))))
noncomputable def ref34_Fields (op : Int) : Option ByteArray := ref34_FieldsW stdW op
noncomputable def ref34_Fields_s : ES := ⟨(.pair (.int .i64) .unit), (.v .str), fun x => ref34_Fields x.1⟩
theorem ref34_Fields_ok : ECok Try.prog 66 (.es ref34_Fields_s)   := es_ok (A := (.pair (.int .i64) .unit)) (Q := (.v .str)) (fun W x => ref34_FieldsW W x.1) [] trivial [] [(500012, ⟨[(12, .t .bool)], [], []⟩), (500032, ⟨[(32, .t .bool)], [], []⟩), (500042, ⟨[(42, .t .bool)], [], []⟩), (500048, ⟨[(48, .t .bool)], [], []⟩), (500062, ⟨[(62, .t .bool)], [], []⟩), (500068, ⟨[(68, .t .bool)], [], []⟩), (500078, ⟨[(78, .t .bool)], [], []⟩)] [] Try.func66 rfl (by decide +kernel) rfl rfl (fun W x => by kernel_rfl)
noncomputable def ref04_Reader_EndW (W : Wd) (r0 : List Int) (r1 : Int) : Option (Int × ((List Int) × Int × Unit)) := 
 W.join (fun (z1 : Bool × Unit) => 
  W.cnd z1.1 (some (5, (r0, (r1, ()))))
   (some (r1, (r0, (r1, ())))))
  fun k2 => 
  W.cnd (r1 == 0) ((k2 ((decide (0 < (r0.length : Int))), ())))
   ((k2 (false, ())))
noncomputable def ref04_Reader_End (r0 : List Int) (r1 : Int) : Option (Int × ((List Int) × Int × Unit)) := ref04_Reader_EndW stdW r0 r1
noncomputable def ref04_Reader_End_s : LS := ⟨[.ptr], [⟨195, [.v (.slc (.int .u8)), .v (.int .i64)]⟩], [⟨195, [.v (.slc (.int .u8)), .v (.int .i64)]⟩], (.q (.v (.int .i64))), fun x => ref04_Reader_End x.1 x.2.1⟩
theorem ref04_Reader_End_ok : ECok Try.prog 124 (.ls ref04_Reader_End_s)   := ls_ok (A := [.ptr]) (B := [⟨195, [.v (.slc (.int .u8)), .v (.int .i64)]⟩]) (E := [⟨195, [.v (.slc (.int .u8)), .v (.int .i64)]⟩]) (Q := (.q (.v (.int .i64)))) (fun W x => ref04_Reader_EndW W x.1 x.2.1) [] trivial [] [(500015, ⟨[(15, .t .bool)], [], []⟩)] [] Try.func124 rfl (by decide +kernel) rfl rfl rfl rfl rfl (fun W x => by kernel_rfl)
noncomputable def ref34_hasW (W : Wd) (s : ByteArray) (c : Int) : Option Bool := 
 W.loop (fun (z1 : Int × Unit) again2 => 
  W.cnd (decide (z1.1 < (s.size : Int))) (W.sidx s z1.1 fun x3 => 
   W.cnd (x3 == c) (some true)
    ((again2 ((IntKind.i64.wrap (z1.1 + 1)), ()))))
   (some false))
  (0, ())
noncomputable def ref34_has (s : ByteArray) (c : Int) : Option Bool := ref34_hasW stdW s c
noncomputable def ref34_has_s : ES := ⟨(.pair .str (.pair (.int .u8) .unit)), (.v .bool), fun x => ref34_has x.1 x.2.1⟩
theorem ref34_has_ok : ECok Try.prog 121 (.es ref34_has_s)   := es_ok (A := (.pair .str (.pair (.int .u8) .unit))) (Q := (.v .bool)) (fun W x => ref34_hasW W x.1 x.2.1) [] trivial [] [] [(2, ⟨[(5, .t (.int .i64))], [], []⟩)] Try.func121 rfl (by decide +kernel) rfl rfl (fun W x => by kernel_rfl)
noncomputable def ref34_withinW (W : Wd) (n : Int) (to_ : Int) (named : Bool) : Option Bool := 
 W.cnd (n == 0) (some true)
  (
  W.cnd named (
   W.cnd (decide (0 < n)) (some (decide (n ≤ to_)))
    (some false))
   (some false))
noncomputable def ref34_within (n : Int) (to_ : Int) (named : Bool) : Option Bool := ref34_withinW stdW n to_ named
noncomputable def ref34_within_s : ES := ⟨(.pair (.int .i64) (.pair (.int .i64) (.pair .bool .unit))), (.v .bool), fun x => ref34_within x.1 x.2.1 x.2.2.1⟩
theorem ref34_within_ok : ECok Try.prog 120 (.es ref34_within_s)   := es_ok (A := (.pair (.int .i64) (.pair (.int .i64) (.pair .bool .unit)))) (Q := (.v .bool)) (fun W x => ref34_withinW W x.1 x.2.1 x.2.2.1) [] trivial [] [] [] Try.func120 rfl (by decide +kernel) rfl rfl (fun W x => by kernel_rfl)
noncomputable def ref34_IsW (W : Wd) (c : ACommand') : Option Bool := W.call (ref34_Fields c.1) fun v1 => 
 W.join (fun (z2 : Bool × Unit) => 
  W.cnd z2.1 (some false)
   (
   W.join (fun (z3 : Bool × Unit) => 
    W.cnd z3.1 (some false)
     (
     W.join (fun (z4 : Bool × Unit) => 
      W.cnd z4.1 (some false)
       (
       W.join (fun (z5 : Bool × Unit) => 
        W.cnd z5.1 (some false)
         (
         W.cnd ((c.2.2.2.2.2.2.2.2.2.2.2.1.length : Int) == 0) (some true)
          (W.call (ref34_has v1 78) fun v6 => 
          W.cnd v6 (some (decide ((c.2.2.2.2.2.2.2.2.2.2.2.1.length : Int) ≤ 32)))
           (some false))))
        fun k7 => 
        W.cnd (c.2.2.2.2.2.2.2.2.2.1 != 0) (W.call (ref34_has v1 81) fun v8 => 
         W.cnd (!v8) ((k7 (true, ())))
          (
          W.cnd (c.2.2.2.2.2.2.2.2.2.2.1 != 0) (W.call (ref34_has v1 80) fun v9 => (k7 ((!v9), ())))
           ((k7 (false, ())))))
         (
         W.cnd (c.2.2.2.2.2.2.2.2.2.2.1 != 0) (W.call (ref34_has v1 80) fun v10 => (k7 ((!v10), ())))
          ((k7 (false, ()))))))
      fun k11 => W.call (ref34_has v1 85) fun v12 => W.call (ref34_within c.2.2.2.1.1 16 v12) fun v13 => 
      W.cnd (!v13) (W.both (W.both (W.both ((k11 (true, ()))) ((k11 (true, ())))) (W.both ((k11 (true, ()))) ((k11 (true, ()))))) (W.both (W.both ((k11 (true, ()))) ((k11 (true, ())))) (W.both ((k11 (true, ()))) ((k11 (true, ()))))))
       (W.both (W.call (ref34_has v1 85) fun v14 => W.call (ref34_within c.2.2.2.1.2.1 16 v14) fun v15 => 
        W.cnd (!v15) (W.both (W.both ((k11 (true, ()))) ((k11 (true, ())))) (W.both ((k11 (true, ()))) ((k11 (true, ())))))
         (W.both (W.call (ref34_has v1 79) fun v16 => W.call (ref34_within c.2.2.2.2.1.1 16 v16) fun v17 => 
          W.cnd (!v17) (W.both ((k11 (true, ()))) ((k11 (true, ()))))
           (W.both (W.call (ref34_has v1 79) fun v18 => W.call (ref34_within c.2.2.2.2.1.2.1 16 v18) fun v19 => (k11 ((!v19), ()))) (W.call (ref34_has v1 79) fun v20 => W.call (ref34_within c.2.2.2.2.1.2.1 16 v20) fun v21 => (k11 ((!v21), ()))))) (W.call (ref34_has v1 79) fun v22 => W.call (ref34_within c.2.2.2.2.1.1 16 v22) fun v23 => 
          W.cnd (!v23) (W.both ((k11 (true, ()))) ((k11 (true, ()))))
           (W.both (W.call (ref34_has v1 79) fun v24 => W.call (ref34_within c.2.2.2.2.1.2.1 16 v24) fun v25 => (k11 ((!v25), ()))) (W.call (ref34_has v1 79) fun v26 => W.call (ref34_within c.2.2.2.2.1.2.1 16 v26) fun v27 => (k11 ((!v27), ()))))))) (W.call (ref34_has v1 85) fun v28 => W.call (ref34_within c.2.2.2.1.2.1 16 v28) fun v29 => 
        W.cnd (!v29) (W.both (W.both ((k11 (true, ()))) ((k11 (true, ())))) (W.both ((k11 (true, ()))) ((k11 (true, ())))))
         (W.both (W.call (ref34_has v1 79) fun v30 => W.call (ref34_within c.2.2.2.2.1.1 16 v30) fun v31 => 
          W.cnd (!v31) (W.both ((k11 (true, ()))) ((k11 (true, ()))))
           (W.both (W.call (ref34_has v1 79) fun v32 => W.call (ref34_within c.2.2.2.2.1.2.1 16 v32) fun v33 => (k11 ((!v33), ()))) (W.call (ref34_has v1 79) fun v34 => W.call (ref34_within c.2.2.2.2.1.2.1 16 v34) fun v35 => (k11 ((!v35), ()))))) (W.call (ref34_has v1 79) fun v36 => W.call (ref34_within c.2.2.2.2.1.1 16 v36) fun v37 => 
          W.cnd (!v37) (W.both ((k11 (true, ()))) ((k11 (true, ()))))
           (W.both (W.call (ref34_has v1 79) fun v38 => W.call (ref34_within c.2.2.2.2.1.2.1 16 v38) fun v39 => (k11 ((!v39), ()))) (W.call (ref34_has v1 79) fun v40 => W.call (ref34_within c.2.2.2.2.1.2.1 16 v40) fun v41 => (k11 ((!v41), ()))))))))))
    fun k42 => W.call (ref34_has v1 77) fun v43 => W.call (ref34_within c.2.2.1 8 v43) fun v44 => 
    W.cnd (!v44) (W.both (W.both (W.both (W.both ((k42 (true, ()))) ((k42 (true, ())))) (W.both ((k42 (true, ()))) ((k42 (true, ()))))) (W.both (W.both ((k42 (true, ()))) ((k42 (true, ())))) (W.both ((k42 (true, ()))) ((k42 (true, ())))))) (W.both (W.both (W.both ((k42 (true, ()))) ((k42 (true, ())))) (W.both ((k42 (true, ()))) ((k42 (true, ()))))) (W.both (W.both ((k42 (true, ()))) ((k42 (true, ())))) (W.both ((k42 (true, ()))) ((k42 (true, ())))))))
     (W.both (W.call (ref34_has v1 73) fun v45 => W.call (ref34_within c.2.2.2.2.2.1 8 v45) fun v46 => 
      W.cnd (!v46) (W.both (W.both (W.both ((k42 (true, ()))) ((k42 (true, ())))) (W.both ((k42 (true, ()))) ((k42 (true, ()))))) (W.both (W.both ((k42 (true, ()))) ((k42 (true, ())))) (W.both ((k42 (true, ()))) ((k42 (true, ()))))))
       (W.both (W.call (ref34_has v1 65) fun v47 => W.call (ref34_within c.2.2.2.2.2.2.1 4 v47) fun v48 => 
        W.cnd (!v48) (W.both (W.both ((k42 (true, ()))) ((k42 (true, ())))) (W.both ((k42 (true, ()))) ((k42 (true, ())))))
         (W.both (W.call (ref34_has v1 84) fun v49 => W.call (ref34_within c.2.2.2.2.2.2.2.1 255 v49) fun v50 => 
          W.cnd (!v50) (W.both ((k42 (true, ()))) ((k42 (true, ()))))
           (W.both (W.call (ref34_has v1 68) fun v51 => W.call (ref34_within c.2.2.2.2.2.2.2.2.1 1048576 v51) fun v52 => (k42 ((!v52), ()))) (W.call (ref34_has v1 68) fun v53 => W.call (ref34_within c.2.2.2.2.2.2.2.2.1 1048576 v53) fun v54 => (k42 ((!v54), ()))))) (W.call (ref34_has v1 84) fun v55 => W.call (ref34_within c.2.2.2.2.2.2.2.1 255 v55) fun v56 => 
          W.cnd (!v56) (W.both ((k42 (true, ()))) ((k42 (true, ()))))
           (W.both (W.call (ref34_has v1 68) fun v57 => W.call (ref34_within c.2.2.2.2.2.2.2.2.1 1048576 v57) fun v58 => (k42 ((!v58), ()))) (W.call (ref34_has v1 68) fun v59 => W.call (ref34_within c.2.2.2.2.2.2.2.2.1 1048576 v59) fun v60 => (k42 ((!v60), ()))))))) (W.call (ref34_has v1 65) fun v61 => W.call (ref34_within c.2.2.2.2.2.2.1 4 v61) fun v62 => 
        W.cnd (!v62) (W.both (W.both ((k42 (true, ()))) ((k42 (true, ())))) (W.both ((k42 (true, ()))) ((k42 (true, ())))))
         (W.both (W.call (ref34_has v1 84) fun v63 => W.call (ref34_within c.2.2.2.2.2.2.2.1 255 v63) fun v64 => 
          W.cnd (!v64) (W.both ((k42 (true, ()))) ((k42 (true, ()))))
           (W.both (W.call (ref34_has v1 68) fun v65 => W.call (ref34_within c.2.2.2.2.2.2.2.2.1 1048576 v65) fun v66 => (k42 ((!v66), ()))) (W.call (ref34_has v1 68) fun v67 => W.call (ref34_within c.2.2.2.2.2.2.2.2.1 1048576 v67) fun v68 => (k42 ((!v68), ()))))) (W.call (ref34_has v1 84) fun v69 => W.call (ref34_within c.2.2.2.2.2.2.2.1 255 v69) fun v70 => 
          W.cnd (!v70) (W.both ((k42 (true, ()))) ((k42 (true, ()))))
           (W.both (W.call (ref34_has v1 68) fun v71 => W.call (ref34_within c.2.2.2.2.2.2.2.2.1 1048576 v71) fun v72 => (k42 ((!v72), ()))) (W.call (ref34_has v1 68) fun v73 => W.call (ref34_within c.2.2.2.2.2.2.2.2.1 1048576 v73) fun v74 => (k42 ((!v74), ()))))))))) (W.call (ref34_has v1 73) fun v75 => W.call (ref34_within c.2.2.2.2.2.1 8 v75) fun v76 => 
      W.cnd (!v76) (W.both (W.both (W.both ((k42 (true, ()))) ((k42 (true, ())))) (W.both ((k42 (true, ()))) ((k42 (true, ()))))) (W.both (W.both ((k42 (true, ()))) ((k42 (true, ())))) (W.both ((k42 (true, ()))) ((k42 (true, ()))))))
       (W.both (W.call (ref34_has v1 65) fun v77 => W.call (ref34_within c.2.2.2.2.2.2.1 4 v77) fun v78 => 
        W.cnd (!v78) (W.both (W.both ((k42 (true, ()))) ((k42 (true, ())))) (W.both ((k42 (true, ()))) ((k42 (true, ())))))
         (W.both (W.call (ref34_has v1 84) fun v79 => W.call (ref34_within c.2.2.2.2.2.2.2.1 255 v79) fun v80 => 
          W.cnd (!v80) (W.both ((k42 (true, ()))) ((k42 (true, ()))))
           (W.both (W.call (ref34_has v1 68) fun v81 => W.call (ref34_within c.2.2.2.2.2.2.2.2.1 1048576 v81) fun v82 => (k42 ((!v82), ()))) (W.call (ref34_has v1 68) fun v83 => W.call (ref34_within c.2.2.2.2.2.2.2.2.1 1048576 v83) fun v84 => (k42 ((!v84), ()))))) (W.call (ref34_has v1 84) fun v85 => W.call (ref34_within c.2.2.2.2.2.2.2.1 255 v85) fun v86 => 
          W.cnd (!v86) (W.both ((k42 (true, ()))) ((k42 (true, ()))))
           (W.both (W.call (ref34_has v1 68) fun v87 => W.call (ref34_within c.2.2.2.2.2.2.2.2.1 1048576 v87) fun v88 => (k42 ((!v88), ()))) (W.call (ref34_has v1 68) fun v89 => W.call (ref34_within c.2.2.2.2.2.2.2.2.1 1048576 v89) fun v90 => (k42 ((!v90), ()))))))) (W.call (ref34_has v1 65) fun v91 => W.call (ref34_within c.2.2.2.2.2.2.1 4 v91) fun v92 => 
        W.cnd (!v92) (W.both (W.both ((k42 (true, ()))) ((k42 (true, ())))) (W.both ((k42 (true, ()))) ((k42 (true, ())))))
         (W.both (W.call (ref34_has v1 84) fun v93 => W.call (ref34_within c.2.2.2.2.2.2.2.1 255 v93) fun v94 => 
          W.cnd (!v94) (W.both ((k42 (true, ()))) ((k42 (true, ()))))
           (W.both (W.call (ref34_has v1 68) fun v95 => W.call (ref34_within c.2.2.2.2.2.2.2.2.1 1048576 v95) fun v96 => (k42 ((!v96), ()))) (W.call (ref34_has v1 68) fun v97 => W.call (ref34_within c.2.2.2.2.2.2.2.2.1 1048576 v97) fun v98 => (k42 ((!v98), ()))))) (W.call (ref34_has v1 84) fun v99 => W.call (ref34_within c.2.2.2.2.2.2.2.1 255 v99) fun v100 => 
          W.cnd (!v100) (W.both ((k42 (true, ()))) ((k42 (true, ()))))
           (W.both (W.call (ref34_has v1 68) fun v101 => W.call (ref34_within c.2.2.2.2.2.2.2.2.1 1048576 v101) fun v102 => (k42 ((!v102), ()))) (W.call (ref34_has v1 68) fun v103 => W.call (ref34_within c.2.2.2.2.2.2.2.2.1 1048576 v103) fun v104 => (k42 ((!v104), ()))))))))))))
  fun k105 => 
  W.cnd (decide (c.1 < 1)) ((k105 (true, ())))
   (
   W.cnd (decide (31 < c.1)) ((k105 (true, ())))
    (
    W.cnd (decide (c.2.1 < 0)) ((k105 (true, ())))
     ((k105 ((decide (8 < c.2.1)), ())))))
noncomputable def ref34_Is (c : ACommand') : Option Bool := ref34_IsW stdW c
noncomputable def ref34_Is_s : ES := ⟨(.pair tACommand .unit), (.v .bool), fun x => ref34_Is x.1⟩
theorem ref34_Is_ok : ECok Try.prog 64 (.es ref34_Is_s)   := es_ok (A := (.pair tACommand .unit)) (Q := (.v .bool)) (fun W x => ref34_IsW W x.1) [(66, .es ref34_Fields_s), (121, .es ref34_has_s), (120, .es ref34_within_s)] ⟨ref34_Fields_ok, ref34_has_ok, ref34_within_ok, trivial⟩ [(4, [], (.rd 0 (.rd 1 (.rd 2 (.op 3 (.op 4 (.rd 5 (.rd 6 (.rd 7 (.rd 9 (.two 8 10 (.op 10 (.op 11 (.rd 12 (.rd 13 (.rd 14 (.rd 15 (.rd 17 (.two 16 18 (.op 18 (.op 19 (.rd 20 (.rd 21 (.rd 22 (.rd 23 (.rd 25 (.two 24 26 (.op 26 (.op 27 (.rd 28 (.rd 29 (.rd 30 (.rd 31 (.rd 33 (.two 32 34 (ofL [(34, false), (35, false), (36, true), (37, true)]) (ofL [(32, false), (35, false), (36, true), (37, true)]))))))))) (.op 24 (.op 27 (.rd 28 (.rd 29 (.rd 30 (.rd 31 (.rd 33 (.two 32 34 (ofL [(34, false), (35, false), (36, true), (37, true)]) (ofL [(32, false), (35, false), (36, true), (37, true)]))))))))))))))))) (.op 16 (.op 19 (.rd 20 (.rd 21 (.rd 22 (.rd 23 (.rd 25 (.two 24 26 (.op 26 (.op 27 (.rd 28 (.rd 29 (.rd 30 (.rd 31 (.rd 33 (.two 32 34 (ofL [(34, false), (35, false), (36, true), (37, true)]) (ofL [(32, false), (35, false), (36, true), (37, true)]))))))))) (.op 24 (.op 27 (.rd 28 (.rd 29 (.rd 30 (.rd 31 (.rd 33 (.two 32 34 (ofL [(34, false), (35, false), (36, true), (37, true)]) (ofL [(32, false), (35, false), (36, true), (37, true)]))))))))))))))))))))))))) (.op 8 (.op 11 (.rd 12 (.rd 13 (.rd 14 (.rd 15 (.rd 17 (.two 16 18 (.op 18 (.op 19 (.rd 20 (.rd 21 (.rd 22 (.rd 23 (.rd 25 (.two 24 26 (.op 26 (.op 27 (.rd 28 (.rd 29 (.rd 30 (.rd 31 (.rd 33 (.two 32 34 (ofL [(34, false), (35, false), (36, true), (37, true)]) (ofL [(32, false), (35, false), (36, true), (37, true)]))))))))) (.op 24 (.op 27 (.rd 28 (.rd 29 (.rd 30 (.rd 31 (.rd 33 (.two 32 34 (ofL [(34, false), (35, false), (36, true), (37, true)]) (ofL [(32, false), (35, false), (36, true), (37, true)]))))))))))))))))) (.op 16 (.op 19 (.rd 20 (.rd 21 (.rd 22 (.rd 23 (.rd 25 (.two 24 26 (.op 26 (.op 27 (.rd 28 (.rd 29 (.rd 30 (.rd 31 (.rd 33 (.two 32 34 (ofL [(34, false), (35, false), (36, true), (37, true)]) (ofL [(32, false), (35, false), (36, true), (37, true)]))))))))) (.op 24 (.op 27 (.rd 28 (.rd 29 (.rd 30 (.rd 31 (.rd 33 (.two 32 34 (ofL [(34, false), (35, false), (36, true), (37, true)]) (ofL [(32, false), (35, false), (36, true), (37, true)])))))))))))))))))))))))))))))))))))), (6, [], (.rd 0 (.rd 1 (.rd 2 (.rd 3 (.op 4 (.op 5 (.rd 6 (.rd 7 (.rd 8 (.rd 9 (.rd 11 (.two 10 12 (.op 12 (.op 13 (.rd 14 (.rd 15 (.rd 16 (.rd 17 (.rd 18 (.rd 20 (.two 19 21 (.op 21 (.op 22 (.rd 23 (.rd 24 (.rd 25 (.rd 26 (.rd 27 (.rd 29 (.two 28 30 (ofL [(30, false), (31, false), (32, true), (33, true)]) (ofL [(28, false), (31, false), (32, true), (33, true)])))))))))) (.op 19 (.op 22 (.rd 23 (.rd 24 (.rd 25 (.rd 26 (.rd 27 (.rd 29 (.two 28 30 (ofL [(30, false), (31, false), (32, true), (33, true)]) (ofL [(28, false), (31, false), (32, true), (33, true)]))))))))))))))))))) (.op 10 (.op 13 (.rd 14 (.rd 15 (.rd 16 (.rd 17 (.rd 18 (.rd 20 (.two 19 21 (.op 21 (.op 22 (.rd 23 (.rd 24 (.rd 25 (.rd 26 (.rd 27 (.rd 29 (.two 28 30 (ofL [(30, false), (31, false), (32, true), (33, true)]) (ofL [(28, false), (31, false), (32, true), (33, true)])))))))))) (.op 19 (.op 22 (.rd 23 (.rd 24 (.rd 25 (.rd 26 (.rd 27 (.rd 29 (.two 28 30 (ofL [(30, false), (31, false), (32, true), (33, true)]) (ofL [(28, false), (31, false), (32, true), (33, true)]))))))))))))))))))))))))))))))))] [(500024, ⟨[(24, .t .bool)], [], []⟩), (500062, ⟨[(62, .t .bool)], [], []⟩), (500096, ⟨[(96, .t .bool)], [], []⟩), (500114, ⟨[(114, .t .bool)], [], []⟩)] [] Try.func64 rfl (by decide +kernel) rfl rfl (fun W x => by kernel_rfl)
noncomputable def ref34_DecodeW (W : Wd) (b : List Int) : Option (ACommand' × Int × Unit) := W.call (ref34_get b 0) fun v1 => W.call (ref34_get v1.2.1 v1.2.2.1) fun v2 => W.call (ref34_Fields v1.1) fun v3 => 
 W.loop (fun (z4 : Int × List (Int) × Int × Int × Int × Int × Int × Int × Int × Int × Int × Int × Int × Int × Int × Int × List (Int) × Unit) again5 => 
  W.cnd (decide (z4.1 < (v3.size : Int))) (
   W.join (fun (z6 : List (Int) × Int × Int × Int × Int × Int × Int × Int × Int × Int × Int × Int × Int × Int × Int × List (Int) × Unit) => (again5 ((IntKind.i64.wrap (z4.1 + 1)), (z6.1, (z6.2.1, (z6.2.2.1, (z6.2.2.2.1, (z6.2.2.2.2.1, (z6.2.2.2.2.2.1, (z6.2.2.2.2.2.2.1, (z6.2.2.2.2.2.2.2.1, (z6.2.2.2.2.2.2.2.2.1, (z6.2.2.2.2.2.2.2.2.2.1, (z6.2.2.2.2.2.2.2.2.2.2.1, (z6.2.2.2.2.2.2.2.2.2.2.2.1, (z6.2.2.2.2.2.2.2.2.2.2.2.2.1, (z6.2.2.2.2.2.2.2.2.2.2.2.2.2.1, (z6.2.2.2.2.2.2.2.2.2.2.2.2.2.2.1, (z6.2.2.2.2.2.2.2.2.2.2.2.2.2.2.2.1, ())))))))))))))))))))
    fun k7 => W.sidx v3 z4.1 fun x8 => 
    W.cnd (x8 == 77) (W.call (ref34_get z4.2.1 z4.2.2.1) fun v9 => (k7 (v9.2.1, (v9.2.2.1, (z4.2.2.2.1, (z4.2.2.2.2.1, (v9.1, (z4.2.2.2.2.2.2.1, (z4.2.2.2.2.2.2.2.1, (z4.2.2.2.2.2.2.2.2.1, (z4.2.2.2.2.2.2.2.2.2.1, (z4.2.2.2.2.2.2.2.2.2.2.1, (z4.2.2.2.2.2.2.2.2.2.2.2.1, (z4.2.2.2.2.2.2.2.2.2.2.2.2.1, (z4.2.2.2.2.2.2.2.2.2.2.2.2.2.1, (z4.2.2.2.2.2.2.2.2.2.2.2.2.2.2.1, (z4.2.2.2.2.2.2.2.2.2.2.2.2.2.2.2.1, (z4.2.2.2.2.2.2.2.2.2.2.2.2.2.2.2.2.1, ()))))))))))))))))))
     (
     W.cnd (x8 == 85) (W.call (ref34_get z4.2.1 z4.2.2.1) fun v10 => W.call (ref34_get v10.2.1 v10.2.2.1) fun v11 => (k7 (v11.2.1, (v11.2.2.1, (z4.2.2.2.1, (z4.2.2.2.2.1, (z4.2.2.2.2.2.1, (v10.1, (v11.1, (z4.2.2.2.2.2.2.2.2.1, (z4.2.2.2.2.2.2.2.2.2.1, (z4.2.2.2.2.2.2.2.2.2.2.1, (z4.2.2.2.2.2.2.2.2.2.2.2.1, (z4.2.2.2.2.2.2.2.2.2.2.2.2.1, (z4.2.2.2.2.2.2.2.2.2.2.2.2.2.1, (z4.2.2.2.2.2.2.2.2.2.2.2.2.2.2.1, (z4.2.2.2.2.2.2.2.2.2.2.2.2.2.2.2.1, (z4.2.2.2.2.2.2.2.2.2.2.2.2.2.2.2.2.1, ()))))))))))))))))))
      (
      W.cnd (x8 == 79) (W.call (ref34_get z4.2.1 z4.2.2.1) fun v12 => W.call (ref34_get v12.2.1 v12.2.2.1) fun v13 => (k7 (v13.2.1, (v13.2.2.1, (z4.2.2.2.1, (z4.2.2.2.2.1, (z4.2.2.2.2.2.1, (z4.2.2.2.2.2.2.1, (z4.2.2.2.2.2.2.2.1, (v12.1, (v13.1, (z4.2.2.2.2.2.2.2.2.2.2.1, (z4.2.2.2.2.2.2.2.2.2.2.2.1, (z4.2.2.2.2.2.2.2.2.2.2.2.2.1, (z4.2.2.2.2.2.2.2.2.2.2.2.2.2.1, (z4.2.2.2.2.2.2.2.2.2.2.2.2.2.2.1, (z4.2.2.2.2.2.2.2.2.2.2.2.2.2.2.2.1, (z4.2.2.2.2.2.2.2.2.2.2.2.2.2.2.2.2.1, ()))))))))))))))))))
       (
       W.cnd (x8 == 73) (W.call (ref34_get z4.2.1 z4.2.2.1) fun v14 => (k7 (v14.2.1, (v14.2.2.1, (z4.2.2.2.1, (z4.2.2.2.2.1, (z4.2.2.2.2.2.1, (z4.2.2.2.2.2.2.1, (z4.2.2.2.2.2.2.2.1, (z4.2.2.2.2.2.2.2.2.1, (z4.2.2.2.2.2.2.2.2.2.1, (v14.1, (z4.2.2.2.2.2.2.2.2.2.2.2.1, (z4.2.2.2.2.2.2.2.2.2.2.2.2.1, (z4.2.2.2.2.2.2.2.2.2.2.2.2.2.1, (z4.2.2.2.2.2.2.2.2.2.2.2.2.2.2.1, (z4.2.2.2.2.2.2.2.2.2.2.2.2.2.2.2.1, (z4.2.2.2.2.2.2.2.2.2.2.2.2.2.2.2.2.1, ()))))))))))))))))))
        (
        W.cnd (x8 == 65) (W.call (ref34_get z4.2.1 z4.2.2.1) fun v15 => (k7 (v15.2.1, (v15.2.2.1, (z4.2.2.2.1, (z4.2.2.2.2.1, (z4.2.2.2.2.2.1, (z4.2.2.2.2.2.2.1, (z4.2.2.2.2.2.2.2.1, (z4.2.2.2.2.2.2.2.2.1, (z4.2.2.2.2.2.2.2.2.2.1, (z4.2.2.2.2.2.2.2.2.2.2.1, (v15.1, (z4.2.2.2.2.2.2.2.2.2.2.2.2.1, (z4.2.2.2.2.2.2.2.2.2.2.2.2.2.1, (z4.2.2.2.2.2.2.2.2.2.2.2.2.2.2.1, (z4.2.2.2.2.2.2.2.2.2.2.2.2.2.2.2.1, (z4.2.2.2.2.2.2.2.2.2.2.2.2.2.2.2.2.1, ()))))))))))))))))))
         (
         W.cnd (x8 == 84) (W.call (ref34_get z4.2.1 z4.2.2.1) fun v16 => (k7 (v16.2.1, (v16.2.2.1, (z4.2.2.2.1, (z4.2.2.2.2.1, (z4.2.2.2.2.2.1, (z4.2.2.2.2.2.2.1, (z4.2.2.2.2.2.2.2.1, (z4.2.2.2.2.2.2.2.2.1, (z4.2.2.2.2.2.2.2.2.2.1, (z4.2.2.2.2.2.2.2.2.2.2.1, (z4.2.2.2.2.2.2.2.2.2.2.2.1, (v16.1, (z4.2.2.2.2.2.2.2.2.2.2.2.2.2.1, (z4.2.2.2.2.2.2.2.2.2.2.2.2.2.2.1, (z4.2.2.2.2.2.2.2.2.2.2.2.2.2.2.2.1, (z4.2.2.2.2.2.2.2.2.2.2.2.2.2.2.2.2.1, ()))))))))))))))))))
          (
          W.cnd (x8 == 68) (W.call (ref34_get z4.2.1 z4.2.2.1) fun v17 => (k7 (v17.2.1, (v17.2.2.1, (z4.2.2.2.1, (z4.2.2.2.2.1, (z4.2.2.2.2.2.1, (z4.2.2.2.2.2.2.1, (z4.2.2.2.2.2.2.2.1, (z4.2.2.2.2.2.2.2.2.1, (z4.2.2.2.2.2.2.2.2.2.1, (z4.2.2.2.2.2.2.2.2.2.2.1, (z4.2.2.2.2.2.2.2.2.2.2.2.1, (z4.2.2.2.2.2.2.2.2.2.2.2.2.1, (v17.1, (z4.2.2.2.2.2.2.2.2.2.2.2.2.2.2.1, (z4.2.2.2.2.2.2.2.2.2.2.2.2.2.2.2.1, (z4.2.2.2.2.2.2.2.2.2.2.2.2.2.2.2.2.1, ()))))))))))))))))))
           (
           W.cnd (x8 == 81) (W.call (ref34_get z4.2.1 z4.2.2.1) fun v18 => (k7 (v18.2.1, (v18.2.2.1, (z4.2.2.2.1, (z4.2.2.2.2.1, (z4.2.2.2.2.2.1, (z4.2.2.2.2.2.2.1, (z4.2.2.2.2.2.2.2.1, (z4.2.2.2.2.2.2.2.2.1, (z4.2.2.2.2.2.2.2.2.2.1, (z4.2.2.2.2.2.2.2.2.2.2.1, (z4.2.2.2.2.2.2.2.2.2.2.2.1, (z4.2.2.2.2.2.2.2.2.2.2.2.2.1, (z4.2.2.2.2.2.2.2.2.2.2.2.2.2.1, (v18.1, (z4.2.2.2.2.2.2.2.2.2.2.2.2.2.2.2.1, (z4.2.2.2.2.2.2.2.2.2.2.2.2.2.2.2.2.1, ()))))))))))))))))))
            (
            W.cnd (x8 == 80) (W.call (ref34_get z4.2.1 z4.2.2.1) fun v19 => (k7 (v19.2.1, (v19.2.2.1, (z4.2.2.2.1, (z4.2.2.2.2.1, (z4.2.2.2.2.2.1, (z4.2.2.2.2.2.2.1, (z4.2.2.2.2.2.2.2.1, (z4.2.2.2.2.2.2.2.2.1, (z4.2.2.2.2.2.2.2.2.2.1, (z4.2.2.2.2.2.2.2.2.2.2.1, (z4.2.2.2.2.2.2.2.2.2.2.2.1, (z4.2.2.2.2.2.2.2.2.2.2.2.2.1, (z4.2.2.2.2.2.2.2.2.2.2.2.2.2.1, (z4.2.2.2.2.2.2.2.2.2.2.2.2.2.2.1, (v19.1, (z4.2.2.2.2.2.2.2.2.2.2.2.2.2.2.2.2.1, ()))))))))))))))))))
             (
             W.cnd (x8 == 78) (W.call (ref04_Reader_Get 0 32 z4.2.1 z4.2.2.1) fun v20 => 
              W.loop (fun (z21 : Int × List (Int) × Int × Int × Int × Int × Int × Int × Int × Int × Int × Int × Int × Int × Int × Int × List (Int) × Unit) again22 => 
               W.cnd (decide (z21.1 < v20.1)) (
                W.join (fun (z23 : List (Int) × Int × Int × Int × Int × Int × Int × Int × Int × Int × Int × Int × Int × Int × Int × List (Int) × Unit) => (again22 ((IntKind.i64.wrap (z21.1 + 1)), (z23.1, (z23.2.1, (z23.2.2.1, (z23.2.2.2.1, (z23.2.2.2.2.1, (z23.2.2.2.2.2.1, (z23.2.2.2.2.2.2.1, (z23.2.2.2.2.2.2.2.1, (z23.2.2.2.2.2.2.2.2.1, (z23.2.2.2.2.2.2.2.2.2.1, (z23.2.2.2.2.2.2.2.2.2.2.1, (z23.2.2.2.2.2.2.2.2.2.2.2.1, (z23.2.2.2.2.2.2.2.2.2.2.2.2.1, (z23.2.2.2.2.2.2.2.2.2.2.2.2.2.1, (z23.2.2.2.2.2.2.2.2.2.2.2.2.2.2.1, (z23.2.2.2.2.2.2.2.2.2.2.2.2.2.2.2.1, ())))))))))))))))))))
                 fun k24 => W.both (W.call (ref34_get z21.2.1 z21.2.2.1) fun v25 => W.room (z21.2.2.2.2.2.2.2.2.2.2.2.2.2.2.2.2.1.length + (v25.1 :: []).length) 8 ((k24 (v25.2.1, (v25.2.2.1, (z21.2.2.2.1, (z21.2.2.2.2.1, (z21.2.2.2.2.2.1, (z21.2.2.2.2.2.2.1, (z21.2.2.2.2.2.2.2.1, (z21.2.2.2.2.2.2.2.2.1, (z21.2.2.2.2.2.2.2.2.2.1, (z21.2.2.2.2.2.2.2.2.2.2.1, (z21.2.2.2.2.2.2.2.2.2.2.2.1, (z21.2.2.2.2.2.2.2.2.2.2.2.2.1, (z21.2.2.2.2.2.2.2.2.2.2.2.2.2.1, (z21.2.2.2.2.2.2.2.2.2.2.2.2.2.2.1, (z21.2.2.2.2.2.2.2.2.2.2.2.2.2.2.2.1, ((z21.2.2.2.2.2.2.2.2.2.2.2.2.2.2.2.2.1 ++ (v25.1 :: [])), ()))))))))))))))))))) (W.call (ref34_get z21.2.1 z21.2.2.1) fun v26 => W.both (W.room (z21.2.2.2.2.2.2.2.2.2.2.2.2.2.2.2.2.1.length + (v26.1 :: []).length) 8 ((k24 (v26.2.1, (v26.2.2.1, (z21.2.2.2.1, (z21.2.2.2.2.1, (z21.2.2.2.2.2.1, (z21.2.2.2.2.2.2.1, (z21.2.2.2.2.2.2.2.1, (z21.2.2.2.2.2.2.2.2.1, (z21.2.2.2.2.2.2.2.2.2.1, (z21.2.2.2.2.2.2.2.2.2.2.1, (z21.2.2.2.2.2.2.2.2.2.2.2.1, (z21.2.2.2.2.2.2.2.2.2.2.2.2.1, (z21.2.2.2.2.2.2.2.2.2.2.2.2.2.1, (z21.2.2.2.2.2.2.2.2.2.2.2.2.2.2.1, (z21.2.2.2.2.2.2.2.2.2.2.2.2.2.2.2.1, ((z21.2.2.2.2.2.2.2.2.2.2.2.2.2.2.2.2.1 ++ (v26.1 :: [])), ()))))))))))))))))))) (W.room (z21.2.2.2.2.2.2.2.2.2.2.2.2.2.2.2.2.1.length + (v26.1 :: []).length) 8 ((k24 (v26.2.1, (v26.2.2.1, (z21.2.2.2.1, (z21.2.2.2.2.1, (z21.2.2.2.2.2.1, (z21.2.2.2.2.2.2.1, (z21.2.2.2.2.2.2.2.1, (z21.2.2.2.2.2.2.2.2.1, (z21.2.2.2.2.2.2.2.2.2.1, (z21.2.2.2.2.2.2.2.2.2.2.1, (z21.2.2.2.2.2.2.2.2.2.2.2.1, (z21.2.2.2.2.2.2.2.2.2.2.2.2.1, (z21.2.2.2.2.2.2.2.2.2.2.2.2.2.1, (z21.2.2.2.2.2.2.2.2.2.2.2.2.2.2.1, (z21.2.2.2.2.2.2.2.2.2.2.2.2.2.2.2.1, ((z21.2.2.2.2.2.2.2.2.2.2.2.2.2.2.2.2.1 ++ (v26.1 :: [])), ())))))))))))))))))))))
                ((k7 (z21.2.1, (z21.2.2.1, (z21.2.2.2.1, (z21.2.2.2.2.1, (z21.2.2.2.2.2.1, (z21.2.2.2.2.2.2.1, (z21.2.2.2.2.2.2.2.1, (z21.2.2.2.2.2.2.2.2.1, (z21.2.2.2.2.2.2.2.2.2.1, (z21.2.2.2.2.2.2.2.2.2.2.1, (z21.2.2.2.2.2.2.2.2.2.2.2.1, (z21.2.2.2.2.2.2.2.2.2.2.2.2.1, (z21.2.2.2.2.2.2.2.2.2.2.2.2.2.1, (z21.2.2.2.2.2.2.2.2.2.2.2.2.2.2.1, (z21.2.2.2.2.2.2.2.2.2.2.2.2.2.2.2.1, (z21.2.2.2.2.2.2.2.2.2.2.2.2.2.2.2.2.1, ())))))))))))))))))))
               (0, (v20.2.1, (v20.2.2.1, (z4.2.2.2.1, (z4.2.2.2.2.1, (z4.2.2.2.2.2.1, (z4.2.2.2.2.2.2.1, (z4.2.2.2.2.2.2.2.1, (z4.2.2.2.2.2.2.2.2.1, (z4.2.2.2.2.2.2.2.2.2.1, (z4.2.2.2.2.2.2.2.2.2.2.1, (z4.2.2.2.2.2.2.2.2.2.2.2.1, (z4.2.2.2.2.2.2.2.2.2.2.2.2.1, (z4.2.2.2.2.2.2.2.2.2.2.2.2.2.1, (z4.2.2.2.2.2.2.2.2.2.2.2.2.2.2.1, (z4.2.2.2.2.2.2.2.2.2.2.2.2.2.2.2.1, (z4.2.2.2.2.2.2.2.2.2.2.2.2.2.2.2.2.1, ()))))))))))))))))))
              ((k7 (z4.2.1, (z4.2.2.1, (z4.2.2.2.1, (z4.2.2.2.2.1, (z4.2.2.2.2.2.1, (z4.2.2.2.2.2.2.1, (z4.2.2.2.2.2.2.2.1, (z4.2.2.2.2.2.2.2.2.1, (z4.2.2.2.2.2.2.2.2.2.1, (z4.2.2.2.2.2.2.2.2.2.2.1, (z4.2.2.2.2.2.2.2.2.2.2.2.1, (z4.2.2.2.2.2.2.2.2.2.2.2.2.1, (z4.2.2.2.2.2.2.2.2.2.2.2.2.2.1, (z4.2.2.2.2.2.2.2.2.2.2.2.2.2.2.1, (z4.2.2.2.2.2.2.2.2.2.2.2.2.2.2.2.1, (z4.2.2.2.2.2.2.2.2.2.2.2.2.2.2.2.2.1, ()))))))))))))))))))))))))))))
   (
   W.join (fun (z27 : Bool × List (Int) × Int × Int × Int × Int × Int × Int × Int × Int × Int × Int × Int × Int × Int × Int × List (Int) × Unit) => 
    W.cnd z27.1 (some ((0, (0, (0, ((0, (0, ())), ((0, (0, ())), (0, (0, (0, (0, (0, (0, ([], ())))))))))))), (3, ())))
     (some ((z27.2.2.2.1, (z27.2.2.2.2.1, (z27.2.2.2.2.2.1, ((z27.2.2.2.2.2.2.1, (z27.2.2.2.2.2.2.2.1, ())), ((z27.2.2.2.2.2.2.2.2.1, (z27.2.2.2.2.2.2.2.2.2.1, ())), (z27.2.2.2.2.2.2.2.2.2.2.1, (z27.2.2.2.2.2.2.2.2.2.2.2.1, (z27.2.2.2.2.2.2.2.2.2.2.2.2.1, (z27.2.2.2.2.2.2.2.2.2.2.2.2.2.1, (z27.2.2.2.2.2.2.2.2.2.2.2.2.2.2.1, (z27.2.2.2.2.2.2.2.2.2.2.2.2.2.2.2.1, (z27.2.2.2.2.2.2.2.2.2.2.2.2.2.2.2.2.1, ())))))))))))), (0, ()))))
    fun k28 => W.call (ref04_Reader_End z4.2.1 z4.2.2.1) fun v29 => 
    W.cnd (v29.1 != 0) ((k28 (true, (v29.2.1, (v29.2.2.1, (z4.2.2.2.1, (z4.2.2.2.2.1, (z4.2.2.2.2.2.1, (z4.2.2.2.2.2.2.1, (z4.2.2.2.2.2.2.2.1, (z4.2.2.2.2.2.2.2.2.1, (z4.2.2.2.2.2.2.2.2.2.1, (z4.2.2.2.2.2.2.2.2.2.2.1, (z4.2.2.2.2.2.2.2.2.2.2.2.1, (z4.2.2.2.2.2.2.2.2.2.2.2.2.1, (z4.2.2.2.2.2.2.2.2.2.2.2.2.2.1, (z4.2.2.2.2.2.2.2.2.2.2.2.2.2.2.1, (z4.2.2.2.2.2.2.2.2.2.2.2.2.2.2.2.1, (z4.2.2.2.2.2.2.2.2.2.2.2.2.2.2.2.2.1, ())))))))))))))))))))
     (W.call (ref34_Is (z4.2.2.2.1, (z4.2.2.2.2.1, (z4.2.2.2.2.2.1, ((z4.2.2.2.2.2.2.1, (z4.2.2.2.2.2.2.2.1, ())), ((z4.2.2.2.2.2.2.2.2.1, (z4.2.2.2.2.2.2.2.2.2.1, ())), (z4.2.2.2.2.2.2.2.2.2.2.1, (z4.2.2.2.2.2.2.2.2.2.2.2.1, (z4.2.2.2.2.2.2.2.2.2.2.2.2.1, (z4.2.2.2.2.2.2.2.2.2.2.2.2.2.1, (z4.2.2.2.2.2.2.2.2.2.2.2.2.2.2.1, (z4.2.2.2.2.2.2.2.2.2.2.2.2.2.2.2.1, (z4.2.2.2.2.2.2.2.2.2.2.2.2.2.2.2.2.1, ()))))))))))))) fun v30 => (k28 ((!v30), (v29.2.1, (v29.2.2.1, (z4.2.2.2.1, (z4.2.2.2.2.1, (z4.2.2.2.2.2.1, (z4.2.2.2.2.2.2.1, (z4.2.2.2.2.2.2.2.1, (z4.2.2.2.2.2.2.2.2.1, (z4.2.2.2.2.2.2.2.2.2.1, (z4.2.2.2.2.2.2.2.2.2.2.1, (z4.2.2.2.2.2.2.2.2.2.2.2.1, (z4.2.2.2.2.2.2.2.2.2.2.2.2.1, (z4.2.2.2.2.2.2.2.2.2.2.2.2.2.1, (z4.2.2.2.2.2.2.2.2.2.2.2.2.2.2.1, (z4.2.2.2.2.2.2.2.2.2.2.2.2.2.2.2.1, (z4.2.2.2.2.2.2.2.2.2.2.2.2.2.2.2.2.1, ())))))))))))))))))))))
  (0, (v2.2.1, (v2.2.2.1, (v1.1, (v2.1, (0, (0, (0, (0, (0, (0, (0, (0, (0, (0, (0, ([], ())))))))))))))))))
noncomputable def ref34_Decode (b : List Int) : Option (ACommand' × Int × Unit) := ref34_DecodeW stdW b
noncomputable def ref34_Decode_s : ES := ⟨(.pair (.slc (.int .u8)) .unit), (.pair (.v tACommand) (.pair (.v (.int .i64)) .unit)), fun x => ref34_Decode x.1⟩
theorem ref34_Decode_ok : ECok Try.prog 69 (.es ref34_Decode_s)   := es_ok (A := (.pair (.slc (.int .u8)) .unit)) (Q := (.pair (.v tACommand) (.pair (.v (.int .i64)) .unit))) (fun W x => ref34_DecodeW W x.1) [(122, .ls ref34_get_s), (66, .es ref34_Fields_s), (123, .ls ref04_Reader_Get_s), (124, .ls ref04_Reader_End_s), (64, .es ref34_Is_s)] ⟨ref34_get_ok, ref34_Fields_ok, ref04_Reader_Get_ok, ref04_Reader_End_ok, ref34_Is_ok, trivial⟩ [(34, [1, 2], (.rd 0 (.rd 2 (.two 1 3 (ofL [(3, false), (4, false), (5, false), (6, true), (7, false)]) (.two 1 4 (ofL [(4, false), (5, false), (6, true), (7, false)]) (ofL [(1, false), (5, false), (6, true), (7, false)]))))))] [(7, ⟨[], [(1, [.t (.slc (.int .u8)), .t (.int .i64)]), (2, [.t (.int .i64), .t (.int .i64), .t (.int .i64), .t (.int .i64), .t (.int .i64), .t (.int .i64), .t (.int .i64), .t (.int .i64), .t (.int .i64), .t (.int .i64), .t (.int .i64), .t (.int .i64), .t (.int .i64), .row 1])], [.dead, .own 2 (.int .i64)]⟩), (33, ⟨[], [(1, [.t (.slc (.int .u8)), .t (.int .i64)]), (2, [.t (.int .i64), .t (.int .i64), .t (.int .i64), .t (.int .i64), .t (.int .i64), .t (.int .i64), .t (.int .i64), .t (.int .i64), .t (.int .i64), .t (.int .i64), .t (.int .i64), .t (.int .i64), .t (.int .i64), .row 1])], [.dead, .own 2 (.int .i64)]⟩), (500109, ⟨[(109, .t .bool)], [(1, [.t (.slc (.int .u8)), .t (.int .i64)]), (2, [.t (.int .i64), .t (.int .i64), .t (.int .i64), .t (.int .i64), .t (.int .i64), .t (.int .i64), .t (.int .i64), .t (.int .i64), .t (.int .i64), .t (.int .i64), .t (.int .i64), .t (.int .i64), .t (.int .i64), .t (.slc (.int .i64))])], []⟩)] [(6, ⟨[(7, .t (.int .i64))], [(1, [.t (.slc (.int .u8)), .t (.int .i64)]), (2, [.t (.int .i64), .t (.int .i64), .t (.int .i64), .t (.int .i64), .t (.int .i64), .t (.int .i64), .t (.int .i64), .t (.int .i64), .t (.int .i64), .t (.int .i64), .t (.int .i64), .t (.int .i64), .t (.int .i64), .row 1])], [.dead, .own 2 (.int .i64)]⟩), (32, ⟨[(9, .t (.int .i64))], [(1, [.t (.slc (.int .u8)), .t (.int .i64)]), (2, [.t (.int .i64), .t (.int .i64), .t (.int .i64), .t (.int .i64), .t (.int .i64), .t (.int .i64), .t (.int .i64), .t (.int .i64), .t (.int .i64), .t (.int .i64), .t (.int .i64), .t (.int .i64), .t (.int .i64), .row 1])], [.dead, .own 2 (.int .i64)]⟩)] Try.func69 rfl (by decide +kernel) rfl rfl (fun W x => by kernel_rfl)
noncomputable def ref01_SameNumbersW (W : Wd) (a : List Int) (b : List Int) : Option Bool := 
 W.cnd ((a.length : Int) != (b.length : Int)) (some false)
  (
  W.loop (fun (z1 : Int × Unit) again2 => 
   W.cnd (decide (z1.1 < (a.length : Int))) (W.idx a z1.1 fun x3 => W.idx b z1.1 fun x4 => 
    W.cnd (x3 != x4) (some false)
     ((again2 ((IntKind.i64.wrap (z1.1 + 1)), ()))))
    (some true))
   (0, ()))
noncomputable def ref01_SameNumbers (a : List Int) (b : List Int) : Option Bool := ref01_SameNumbersW stdW a b
noncomputable def ref01_SameNumbers_s : ES := ⟨(.pair (.slc (.int .i64)) (.pair (.slc (.int .i64)) .unit)), (.v .bool), fun x => ref01_SameNumbers x.1 x.2.1⟩
theorem ref01_SameNumbers_ok : ECok Try.prog 125 (.es ref01_SameNumbers_s)   := es_ok (A := (.pair (.slc (.int .i64)) (.pair (.slc (.int .i64)) .unit))) (Q := (.v .bool)) (fun W x => ref01_SameNumbersW W x.1 x.2.1) [] trivial [(6, [], (ofL [(0, true), (1, true), (2, true), (3, true), (4, true), (5, true), (6, true), (7, true), (8, true)]))] [] [(4, ⟨[(5, .t (.int .i64))], [], []⟩)] Try.func125 rfl (by decide +kernel) rfl rfl (fun W x => by kernel_rfl)
noncomputable def ref34_SameW (W : Wd) (a : ACommand') (b : ACommand') : Option Bool := 
 W.join (fun (z1 : Bool × Unit) => 
  W.cnd z1.1 (some false)
   (
   W.cnd (a.2.2.2.2.2.2.1 == b.2.2.2.2.2.2.1) (
    W.cnd (a.2.2.2.2.2.2.2.1 == b.2.2.2.2.2.2.2.1) (
     W.cnd (a.2.2.2.2.2.2.2.2.1 == b.2.2.2.2.2.2.2.2.1) (
      W.cnd (a.2.2.2.2.2.2.2.2.2.1 == b.2.2.2.2.2.2.2.2.2.1) (
       W.cnd (a.2.2.2.2.2.2.2.2.2.2.1 == b.2.2.2.2.2.2.2.2.2.2.1) (W.call (ref01_SameNumbers a.2.2.2.2.2.2.2.2.2.2.2.1 b.2.2.2.2.2.2.2.2.2.2.2.1) fun v2 => some v2)
        (some false))
       (some false))
      (some false))
     (some false))
    (some false)))
  fun k3 => 
  W.cnd (a.1 != b.1) ((k3 (true, ())))
   (
   W.cnd (a.2.1 != b.2.1) ((k3 (true, ())))
    (
    W.cnd (a.2.2.1 != b.2.2.1) ((k3 (true, ())))
     (
     W.cnd (Go.Vc.notIf true ((a.2.2.2.1.1 == b.2.2.2.1.1) && (a.2.2.2.1.2.1 == b.2.2.2.1.2.1))) ((k3 (true, ())))
      (
      W.cnd (Go.Vc.notIf true ((a.2.2.2.2.1.1 == b.2.2.2.2.1.1) && (a.2.2.2.2.1.2.1 == b.2.2.2.2.1.2.1))) ((k3 (true, ())))
       ((k3 ((a.2.2.2.2.2.1 != b.2.2.2.2.2.1), ())))))))
noncomputable def ref34_Same (a : ACommand') (b : ACommand') : Option Bool := ref34_SameW stdW a b
noncomputable def ref34_Same_s : ES := ⟨(.pair tACommand (.pair tACommand .unit)), (.v .bool), fun x => ref34_Same x.1 x.2.1⟩
theorem ref34_Same_ok : ECok Try.prog 70 (.es ref34_Same_s)   := es_ok (A := (.pair tACommand (.pair tACommand .unit))) (Q := (.v .bool)) (fun W x => ref34_SameW W x.1 x.2.1) [(125, .es ref01_SameNumbers_s)] ⟨ref01_SameNumbers_ok, trivial⟩ [] [(500044, ⟨[(44, .t .bool)], [], []⟩)] [] Try.func70 rfl (by decide +kernel) rfl rfl (fun W x => by kernel_rfl)
noncomputable def pack_NewW (W : Wd) : Option ((Bool × (List Int) × Unit) × (Unit)) := some ((true, ([], ())), ())
noncomputable def pack_New : Option ((Bool × (List Int) × Unit) × (Unit)) := pack_NewW stdW
noncomputable def pack_New_s : LS := ⟨[], [], [], (.obj ⟨63, [.v .bool, .row 5 (.int .u8)]⟩), fun x => pack_New ⟩
theorem pack_New_ok : ECok Try.prog 25 (.ls pack_New_s)   := ls_ok (A := []) (B := []) (E := []) (Q := (.obj ⟨63, [.v .bool, .row 5 (.int .u8)]⟩)) (fun W x => pack_NewW W ) [] trivial [] [] [] Try.func25 rfl (by decide +kernel) rfl rfl rfl rfl rfl (fun W x => by kernel_rfl)
noncomputable def pack_Writer_okW (W : Wd) (w0 : Bool) (w1 : List Int) : Option (Bool × (Bool × (List Int) × Unit)) := some (w0, (w0, (w1, ())))
noncomputable def pack_Writer_ok (w0 : Bool) (w1 : List Int) : Option (Bool × (Bool × (List Int) × Unit)) := pack_Writer_okW stdW w0 w1
noncomputable def pack_Writer_ok_s : LS := ⟨[.ptr], [⟨63, [.v .bool, .row 5 (.int .u8)]⟩], [⟨63, [.v .bool, .row 5 (.int .u8)]⟩], (.q (.v .bool)), fun x => pack_Writer_ok x.1 x.2.1⟩
theorem pack_Writer_ok_ok : ECok Try.prog 82 (.ls pack_Writer_ok_s)   := ls_ok (A := [.ptr]) (B := [⟨63, [.v .bool, .row 5 (.int .u8)]⟩]) (E := [⟨63, [.v .bool, .row 5 (.int .u8)]⟩]) (Q := (.q (.v .bool))) (fun W x => pack_Writer_okW W x.1 x.2.1) [] trivial [] [] [] Try.func82 rfl (by decide +kernel) rfl rfl rfl rfl rfl (fun W x => by kernel_rfl)
noncomputable def pack_foldedW (W : Wd) (n : Int) : Option Int := W.nn 1 (W.nn 63 (some (Go.bits Go.BinOp.xor Go.IntKind.u64 (IntKind.u64.wrap (IntKind.i64.wrap (n * (2 ^ (Min.min (Int.toNat 1) (Go.IntKind.bits Go.IntKind.i64)))))) (IntKind.u64.wrap (Int.fdiv n (2 ^ (Min.min (Int.toNat 63) (Go.IntKind.bits Go.IntKind.i64))))))))
noncomputable def pack_folded (n : Int) : Option Int := pack_foldedW stdW n
noncomputable def pack_folded_s : ES := ⟨(.pair (.int .i64) .unit), (.v (.int .u64)), fun x => pack_folded x.1⟩
theorem pack_folded_ok : ECok Try.prog 84 (.es pack_folded_s)   := es_ok (A := (.pair (.int .i64) .unit)) (Q := (.v (.int .u64))) (fun W x => pack_foldedW W x.1) [] trivial [] [] [] Try.func84 rfl (by decide +kernel) rfl rfl (fun W x => by kernel_rfl)
noncomputable def pack_Writer_oneW (W : Wd) (u : Int) (w0 : Bool) (w1 : List Int) : Option (Unit × (Bool × (List Int) × Unit)) := 
 W.loop (fun (z1 : Int × Bool × List (Int) × Unit) again2 => 
  W.cnd (decide (128 ≤ z1.1)) (W.room (z1.2.2.1.length + ((Go.bits Go.BinOp.or Go.IntKind.u8 (IntKind.u8.wrap z1.1) 128) :: []).length) 1 (W.nn 7 ((again2 ((Int.fdiv z1.1 (2 ^ (Min.min (Int.toNat 7) (Go.IntKind.bits Go.IntKind.u64)))), (z1.2.1, ((z1.2.2.1 ++ ((Go.bits Go.BinOp.or Go.IntKind.u8 (IntKind.u8.wrap z1.1) 128) :: [])), ())))))))
   (W.room (z1.2.2.1.length + ((IntKind.u8.wrap z1.1) :: []).length) 1 (some ((), (z1.2.1, ((z1.2.2.1 ++ ((IntKind.u8.wrap z1.1) :: [])), ()))))))
  (u, (w0, (w1, ())))
noncomputable def pack_Writer_one (u : Int) (w0 : Bool) (w1 : List Int) : Option (Unit × (Bool × (List Int) × Unit)) := pack_Writer_oneW stdW u w0 w1
noncomputable def pack_Writer_one_s : LS := ⟨[.ptr, .v (.int .u64)], [⟨63, [.v .bool, .row 5 (.int .u8)]⟩], [⟨63, [.v .bool, .row 5 (.int .u8)]⟩], (.q .unit), fun x => pack_Writer_one x.1 x.2.1 x.2.2.1⟩
theorem pack_Writer_one_ok : ECok Try.prog 83 (.ls pack_Writer_one_s)   := ls_ok (A := [.ptr, .v (.int .u64)]) (B := [⟨63, [.v .bool, .row 5 (.int .u8)]⟩]) (E := [⟨63, [.v .bool, .row 5 (.int .u8)]⟩]) (Q := (.q .unit)) (fun W x => pack_Writer_oneW W x.1 x.2.1 x.2.2.1) [] trivial [] [] [(0, ⟨[(1, .t (.int .u64))], [(0, [.t .bool, .row 0])], [.own 5 (.int .u8)]⟩)] Try.func83 rfl (by decide +kernel) rfl rfl rfl rfl rfl (fun W x => by kernel_rfl)
noncomputable def pack_Writer_IntW (W : Wd) (l : List Int) (w0 : Bool) (w1 : List Int) : Option (Unit × (Bool × (List Int) × Unit)) := 
 W.join (fun (z1 : Bool × List (Int) × Unit) => some ((), (z1.1, (z1.2.1, ()))))
  fun k2 => W.call (pack_Writer_ok w0 w1) fun v3 => 
  W.cnd v3.1 (
   W.loop (fun (z4 : Int × Bool × List (Int) × Unit) again5 => 
    W.cnd (decide (z4.1 < (l.length : Int))) (W.idx l z4.1 fun x6 => W.call (pack_folded x6) fun v7 => W.call (pack_Writer_one v7 z4.2.1 z4.2.2.1) fun v8 => (again5 ((IntKind.i64.wrap (z4.1 + 1)), (v8.2.1, (v8.2.2.1, ())))))
     ((k2 (z4.2.1, (z4.2.2.1, ())))))
    (0, (v3.2.1, (v3.2.2.1, ()))))
   ((k2 (v3.2.1, (v3.2.2.1, ()))))
noncomputable def pack_Writer_Int (l : List Int) (w0 : Bool) (w1 : List Int) : Option (Unit × (Bool × (List Int) × Unit)) := pack_Writer_IntW stdW l w0 w1
noncomputable def pack_Writer_Int_s : LS := ⟨[.ptr, .v (.slc (.int .i64))], [⟨63, [.v .bool, .row 5 (.int .u8)]⟩], [⟨63, [.v .bool, .row 5 (.int .u8)]⟩], (.ptr 0), fun x => pack_Writer_Int x.1 x.2.1 x.2.2.1⟩
theorem pack_Writer_Int_ok : ECok Try.prog 26 (.ls pack_Writer_Int_s)   := ls_ok (A := [.ptr, .v (.slc (.int .i64))]) (B := [⟨63, [.v .bool, .row 5 (.int .u8)]⟩]) (E := [⟨63, [.v .bool, .row 5 (.int .u8)]⟩]) (Q := (.ptr 0)) (fun W x => pack_Writer_IntW W x.1 x.2.1 x.2.2.1) [(82, .ls pack_Writer_ok_s), (84, .es pack_folded_s), (83, .ls pack_Writer_one_s)] ⟨pack_Writer_ok_ok, pack_folded_ok, pack_Writer_one_ok, trivial⟩ [] [(7, ⟨[], [(0, [.t .bool, .row 0])], [.own 5 (.int .u8)]⟩)] [(3, ⟨[(11, .t (.int .i64))], [(0, [.t .bool, .row 0])], [.own 5 (.int .u8)]⟩)] Try.func26 rfl (by decide +kernel) rfl rfl rfl rfl rfl (fun W x => by kernel_rfl)
noncomputable def cmd_unitW (W : Wd) (u : AUnit') (w0 : Bool) (w1 : List Int) : Option (Unit × (Bool × (List Int) × Unit)) := W.call (pack_Writer_Int (u.1 :: (u.2.1 :: [])) w0 w1) fun v1 => some ((), (v1.2.1, (v1.2.2.1, ())))
noncomputable def cmd_unit (u : AUnit') (w0 : Bool) (w1 : List Int) : Option (Unit × (Bool × (List Int) × Unit)) := cmd_unitW stdW u w0 w1
noncomputable def cmd_unit_s : LS := ⟨[.ptr, .v tAUnit], [⟨63, [.v .bool, .row 5 (.int .u8)]⟩], [⟨63, [.v .bool, .row 5 (.int .u8)]⟩], (.q .unit), fun x => cmd_unit x.1 x.2.1 x.2.2.1⟩
theorem cmd_unit_ok : ECok Try.prog 126 (.ls cmd_unit_s)   := ls_ok (A := [.ptr, .v tAUnit]) (B := [⟨63, [.v .bool, .row 5 (.int .u8)]⟩]) (E := [⟨63, [.v .bool, .row 5 (.int .u8)]⟩]) (Q := (.q .unit)) (fun W x => cmd_unitW W x.1 x.2.1 x.2.2.1) [(26, .ls pack_Writer_Int_s)] ⟨pack_Writer_Int_ok, trivial⟩ [] [] [] Try.func126 rfl (by decide +kernel) rfl rfl rfl rfl rfl (fun W x => by kernel_rfl)
noncomputable def cmd_fieldW (W : Wd) (c : ACommand') (name : Int) (w0 : Bool) (w1 : List Int) : Option (Unit × (Bool × (List Int) × Unit)) := 
 W.cnd (name == 77) (W.call (pack_Writer_Int (c.2.2.1 :: []) w0 w1) fun v1 => some ((), (v1.2.1, (v1.2.2.1, ()))))
  (
  W.cnd (name == 85) (W.call (cmd_unit c.2.2.2.1 w0 w1) fun v2 => some ((), (v2.2.1, (v2.2.2.1, ()))))
   (
   W.cnd (name == 79) (W.call (cmd_unit c.2.2.2.2.1 w0 w1) fun v3 => some ((), (v3.2.1, (v3.2.2.1, ()))))
    (
    W.cnd (name == 73) (W.call (pack_Writer_Int (c.2.2.2.2.2.1 :: []) w0 w1) fun v4 => some ((), (v4.2.1, (v4.2.2.1, ()))))
     (
     W.cnd (name == 65) (W.call (pack_Writer_Int (c.2.2.2.2.2.2.1 :: []) w0 w1) fun v5 => some ((), (v5.2.1, (v5.2.2.1, ()))))
      (
      W.cnd (name == 84) (W.call (pack_Writer_Int (c.2.2.2.2.2.2.2.1 :: []) w0 w1) fun v6 => some ((), (v6.2.1, (v6.2.2.1, ()))))
       (
       W.cnd (name == 68) (W.call (pack_Writer_Int (c.2.2.2.2.2.2.2.2.1 :: []) w0 w1) fun v7 => some ((), (v7.2.1, (v7.2.2.1, ()))))
        (
        W.cnd (name == 81) (W.call (pack_Writer_Int (c.2.2.2.2.2.2.2.2.2.1 :: []) w0 w1) fun v8 => some ((), (v8.2.1, (v8.2.2.1, ()))))
         (
         W.cnd (name == 80) (W.call (pack_Writer_Int (c.2.2.2.2.2.2.2.2.2.2.1 :: []) w0 w1) fun v9 => some ((), (v9.2.1, (v9.2.2.1, ()))))
          (
          W.cnd (name == 78) (W.call (pack_Writer_Int ((c.2.2.2.2.2.2.2.2.2.2.2.1.length : Int) :: []) w0 w1) fun v10 => W.call (pack_Writer_Int c.2.2.2.2.2.2.2.2.2.2.2.1 v10.2.1 v10.2.2.1) fun v11 => some ((), (v11.2.1, (v11.2.2.1, ()))))
           (some ((), (w0, (w1, ())))))))))))))
noncomputable def cmd_field (c : ACommand') (name : Int) (w0 : Bool) (w1 : List Int) : Option (Unit × (Bool × (List Int) × Unit)) := cmd_fieldW stdW c name w0 w1
noncomputable def cmd_field_s : LS := ⟨[.ptr, .v tACommand, .v (.int .i32)], [⟨63, [.v .bool, .row 5 (.int .u8)]⟩], [⟨63, [.v .bool, .row 5 (.int .u8)]⟩], (.q .unit), fun x => cmd_field x.1 x.2.1 x.2.2.1 x.2.2.2.1⟩
theorem cmd_field_ok : ECok Try.prog 155 (.ls cmd_field_s)   := ls_ok (A := [.ptr, .v tACommand, .v (.int .i32)]) (B := [⟨63, [.v .bool, .row 5 (.int .u8)]⟩]) (E := [⟨63, [.v .bool, .row 5 (.int .u8)]⟩]) (Q := (.q .unit)) (fun W x => cmd_fieldW W x.1 x.2.1 x.2.2.1 x.2.2.2.1) [(26, .ls pack_Writer_Int_s), (126, .ls cmd_unit_s)] ⟨pack_Writer_Int_ok, cmd_unit_ok, trivial⟩ [(21, [0], (ofL [(0, true), (1, true), (2, true), (3, true), (6, true), (7, true), (4, false), (5, false), (8, false)]))] [] [] Try.func155 rfl (by decide +kernel) rfl rfl rfl rfl rfl (fun W x => by kernel_rfl)
noncomputable def pack_Writer_DoneW (W : Wd) (w0 : Bool) (w1 : List Int) : Option ((List Int) × (Bool × (List Int) × Unit)) := W.call (pack_Writer_ok w0 w1) fun v1 => 
 W.cnd (!v1.1) (some ([], (v1.2.1, (v1.2.2.1, ()))))
  (W.call (slices_Clonebyte_byte v1.2.2.1) fun v2 => some (v2, (v1.2.1, (v1.2.2.1, ()))))
noncomputable def pack_Writer_Done (w0 : Bool) (w1 : List Int) : Option ((List Int) × (Bool × (List Int) × Unit)) := pack_Writer_DoneW stdW w0 w1
noncomputable def pack_Writer_Done_s : LS := ⟨[.ptr], [⟨63, [.v .bool, .row 5 (.int .u8)]⟩], [⟨63, [.v .bool, .v (.slc (.int .u8))]⟩], (.q (.own 5 (.int .u8))), fun x => pack_Writer_Done x.1 x.2.1⟩
theorem pack_Writer_Done_ok : ECok Try.prog 33 (.ls pack_Writer_Done_s)   := ls_ok (A := [.ptr]) (B := [⟨63, [.v .bool, .row 5 (.int .u8)]⟩]) (E := [⟨63, [.v .bool, .v (.slc (.int .u8))]⟩]) (Q := (.q (.own 5 (.int .u8)))) (fun W x => pack_Writer_DoneW W x.1 x.2.1) [(82, .ls pack_Writer_ok_s), (86, .es slices_Clonebyte_byte_s)] ⟨pack_Writer_ok_ok, slices_Clonebyte_byte_ok, trivial⟩ [] [] [] Try.func33 rfl (by decide +kernel) rfl rfl rfl rfl rfl (fun W x => by kernel_rfl)
noncomputable def cmd_bytesOfW (W : Wd) (c : ACommand') : Option (List Int) := W.both (W.call (pack_New) fun v1 => W.call (pack_Writer_Int (c.1 :: (c.2.1 :: [])) v1.1.1 v1.1.2.1) fun v2 => W.call (cmd_Fields c.1) fun v3 => 
  W.loop (fun (z4 : Bool × List (Int) × ByteArray × Int × Unit) again5 => 
   W.next z4.2.2.1 z4.2.2.2.1 (fun c7 q8 => W.call (cmd_field (c.1, (c.2.1, (c.2.2.1, (c.2.2.2.1, (c.2.2.2.2.1, (c.2.2.2.2.2.1, (c.2.2.2.2.2.2.1, (c.2.2.2.2.2.2.2.1, (c.2.2.2.2.2.2.2.2.1, (c.2.2.2.2.2.2.2.2.2.1, (c.2.2.2.2.2.2.2.2.2.2.1, (c.2.2.2.2.2.2.2.2.2.2.2.1, ())))))))))))) c7 z4.1 z4.2.1) fun v9 => (again5 (v9.2.1, (v9.2.2.1, (z4.2.2.1, (q8, ()))))))
    (W.call (pack_Writer_Done z4.1 z4.2.1) fun v6 => some v6.1))
   (v2.2.1, (v2.2.2.1, (v3, (0, ()))))) (W.call (pack_New) fun v10 => W.call (pack_Writer_Int (c.1 :: (c.2.1 :: [])) v10.1.1 v10.1.2.1) fun v11 => W.call (cmd_Fields c.1) fun v12 => 
  W.loop (fun (z13 : Bool × List (Int) × ByteArray × Int × Unit) again14 => 
   W.next z13.2.2.1 z13.2.2.2.1 (fun c16 q17 => W.call (cmd_field (c.1, (c.2.1, (c.2.2.1, (c.2.2.2.1, (c.2.2.2.2.1, (c.2.2.2.2.2.1, (c.2.2.2.2.2.2.1, (c.2.2.2.2.2.2.2.1, (c.2.2.2.2.2.2.2.2.1, (c.2.2.2.2.2.2.2.2.2.1, (c.2.2.2.2.2.2.2.2.2.2.1, (c.2.2.2.2.2.2.2.2.2.2.2.1, ())))))))))))) c16 z13.1 z13.2.1) fun v18 => (again14 (v18.2.1, (v18.2.2.1, (z13.2.2.1, (q17, ()))))))
    (W.call (pack_Writer_Done z13.1 z13.2.1) fun v15 => some v15.1))
   (v11.2.1, (v11.2.2.1, (v12, (0, ())))))
noncomputable def cmd_bytesOf (c : ACommand') : Option (List Int) := cmd_bytesOfW stdW c
noncomputable def cmd_bytesOf_s : ES := ⟨(.pair tACommand .unit), (.own 5 (.int .u8)), fun x => cmd_bytesOf x.1⟩
theorem cmd_bytesOf_ok : ECok Try.prog 116 (.es cmd_bytesOf_s)   := es_ok (A := (.pair tACommand .unit)) (Q := (.own 5 (.int .u8))) (fun W x => cmd_bytesOfW W x.1) [(25, .ls pack_New_s), (26, .ls pack_Writer_Int_s), (65, .es cmd_Fields_s), (155, .ls cmd_field_s), (33, .ls pack_Writer_Done_s)] ⟨pack_New_ok, pack_Writer_Int_ok, cmd_Fields_ok, cmd_field_ok, pack_Writer_Done_ok, trivial⟩ [(1, [], (.rd 1 (.rd 2 (.rd 3 (.rd 4 (.two 0 5 (ofL [(5, false), (6, false), (7, true)]) (ofL [(0, false), (6, false), (7, true)])))))))] [] [(3, ⟨[(16, .ob 2)], [(1, [.t .bool, .row 0])], [.own 5 (.int .u8), .dead, .itr]⟩), (3, ⟨[(16, .ob 2)], [(1, [.t .bool, .row 1])], [.dead, .own 5 (.int .u8), .itr]⟩)] Try.func116 rfl (by decide +kernel) rfl rfl (fun W x => by kernel_rfl)
noncomputable def slices_Equalint64_int64W (W : Wd) (s1 : List Int) (s2 : List Int) : Option Bool := 
 W.cnd ((s1.length : Int) != (s2.length : Int)) (some false)
  (
  W.loop (fun (z1 : Int × Unit) again2 => 
   W.cnd (decide (z1.1 < (s1.length : Int))) (W.idx s1 z1.1 fun x3 => W.idx s2 z1.1 fun x4 => 
    W.cnd (x3 != x4) (some false)
     ((again2 ((IntKind.i64.wrap (z1.1 + 1)), ()))))
    (some true))
   (0, ()))
noncomputable def slices_Equalint64_int64 (s1 : List Int) (s2 : List Int) : Option Bool := slices_Equalint64_int64W stdW s1 s2
noncomputable def slices_Equalint64_int64_s : ES := ⟨(.pair (.slc (.int .i64)) (.pair (.slc (.int .i64)) .unit)), (.v .bool), fun x => slices_Equalint64_int64 x.1 x.2.1⟩
theorem slices_Equalint64_int64_ok : ECok Try.prog 157 (.es slices_Equalint64_int64_s)   := es_ok (A := (.pair (.slc (.int .i64)) (.pair (.slc (.int .i64)) .unit))) (Q := (.v .bool)) (fun W x => slices_Equalint64_int64W W x.1 x.2.1) [] trivial [(6, [], (ofL [(0, true), (1, true), (2, true), (3, true), (4, true), (5, true), (6, true), (7, true), (8, true)]))] [] [(4, ⟨[(13, .t (.int .i64))], [], []⟩)] Try.func157 rfl (by decide +kernel) rfl rfl (fun W x => by kernel_rfl)
noncomputable def cmd_sameW (W : Wd) (a : ACommand') (b : ACommand') : Option Bool := W.call (slices_Equalint64_int64 a.2.2.2.2.2.2.2.2.2.2.2.1 b.2.2.2.2.2.2.2.2.2.2.2.1) fun v1 => 
 W.cnd v1 (
  W.cnd (a.1 == b.1) (
   W.cnd (a.2.1 == b.2.1) (
    W.cnd (a.2.2.1 == b.2.2.1) (
     W.cnd (Go.Vc.notIf false ((a.2.2.2.1.1 == b.2.2.2.1.1) && (a.2.2.2.1.2.1 == b.2.2.2.1.2.1))) (
      W.cnd (Go.Vc.notIf false ((a.2.2.2.2.1.1 == b.2.2.2.2.1.1) && (a.2.2.2.2.1.2.1 == b.2.2.2.2.1.2.1))) (
       W.cnd (a.2.2.2.2.2.1 == b.2.2.2.2.2.1) (
        W.cnd (a.2.2.2.2.2.2.1 == b.2.2.2.2.2.2.1) (
         W.cnd (a.2.2.2.2.2.2.2.1 == b.2.2.2.2.2.2.2.1) (
          W.cnd (a.2.2.2.2.2.2.2.2.1 == b.2.2.2.2.2.2.2.2.1) (
           W.cnd (a.2.2.2.2.2.2.2.2.2.1 == b.2.2.2.2.2.2.2.2.2.1) (some (a.2.2.2.2.2.2.2.2.2.2.1 == b.2.2.2.2.2.2.2.2.2.2.1))
            (some false))
           (some false))
          (some false))
         (some false))
        (some false))
       (some false))
      (some false))
     (some false))
    (some false))
   (some false))
  (some false)
noncomputable def cmd_same (a : ACommand') (b : ACommand') : Option Bool := cmd_sameW stdW a b
noncomputable def cmd_same_s : ES := ⟨(.pair tACommand (.pair tACommand .unit)), (.v .bool), fun x => cmd_same x.1 x.2.1⟩
theorem cmd_same_ok : ECok Try.prog 119 (.es cmd_same_s)   := es_ok (A := (.pair tACommand (.pair tACommand .unit))) (Q := (.v .bool)) (fun W x => cmd_sameW W x.1 x.2.1) [(157, .es slices_Equalint64_int64_s)] ⟨slices_Equalint64_int64_ok, trivial⟩ [] [] [] Try.func119 rfl (by decide +kernel) rfl rfl (fun W x => by kernel_rfl)
noncomputable def cmd_CheckW (W : Wd) (c : ACommand') : Option Int := W.call (cmd_bytesOf (c.1, (c.2.1, (c.2.2.1, (c.2.2.2.1, (c.2.2.2.2.1, (c.2.2.2.2.2.1, (c.2.2.2.2.2.2.1, (c.2.2.2.2.2.2.2.1, (c.2.2.2.2.2.2.2.2.1, (c.2.2.2.2.2.2.2.2.2.1, (c.2.2.2.2.2.2.2.2.2.2.1, (c.2.2.2.2.2.2.2.2.2.2.2.1, ()))))))))))))) fun v1 => W.call (cmd_read v1) fun v2 => 
 W.join (fun (z3 : Bool × Unit) => 
  W.cnd z3.1 (some 3)
   (some 0))
  fun k4 => 
  W.cnd (v2.2.1 != 0) ((k4 (true, ())))
   (W.call (cmd_same (v2.1.1, (v2.1.2.1, (v2.1.2.2.1, (v2.1.2.2.2.1, (v2.1.2.2.2.2.1, (v2.1.2.2.2.2.2.1, (v2.1.2.2.2.2.2.2.1, (v2.1.2.2.2.2.2.2.2.1, (v2.1.2.2.2.2.2.2.2.2.1, (v2.1.2.2.2.2.2.2.2.2.2.1, (v2.1.2.2.2.2.2.2.2.2.2.2.1, (v2.1.2.2.2.2.2.2.2.2.2.2.2.1, ())))))))))))) (c.1, (c.2.1, (c.2.2.1, (c.2.2.2.1, (c.2.2.2.2.1, (c.2.2.2.2.2.1, (c.2.2.2.2.2.2.1, (c.2.2.2.2.2.2.2.1, (c.2.2.2.2.2.2.2.2.1, (c.2.2.2.2.2.2.2.2.2.1, (c.2.2.2.2.2.2.2.2.2.2.1, (c.2.2.2.2.2.2.2.2.2.2.2.1, ()))))))))))))) fun v5 => (k4 ((!v5), ())))
noncomputable def cmd_Check (c : ACommand') : Option Int := cmd_CheckW stdW c
noncomputable def cmd_Check_s : ES := ⟨(.pair tACommand .unit), (.v (.int .i64)), fun x => cmd_Check x.1⟩
theorem cmd_Check_ok : ECok Try.prog 63 (.es cmd_Check_s)   := es_ok (A := (.pair tACommand .unit)) (Q := (.v (.int .i64))) (fun W x => cmd_CheckW W x.1) [(116, .es cmd_bytesOf_s), (118, .es cmd_read_s), (119, .es cmd_same_s)] ⟨cmd_bytesOf_ok, cmd_read_ok, cmd_same_ok, trivial⟩ [] [(500018, ⟨[(18, .t .bool)], [], []⟩)] [] Try.func63 rfl (by decide +kernel) rfl rfl (fun W x => by kernel_rfl)
noncomputable def cmd_EncodeW (W : Wd) (c : ACommand') : Option ((List Int) × Int × Unit) := W.call (cmd_Check (c.1, (c.2.1, (c.2.2.1, (c.2.2.2.1, (c.2.2.2.2.1, (c.2.2.2.2.2.1, (c.2.2.2.2.2.2.1, (c.2.2.2.2.2.2.2.1, (c.2.2.2.2.2.2.2.2.1, (c.2.2.2.2.2.2.2.2.2.1, (c.2.2.2.2.2.2.2.2.2.2.1, (c.2.2.2.2.2.2.2.2.2.2.2.1, ()))))))))))))) fun v1 => 
 W.cnd (v1 != 0) (some ([], (v1, ())))
  (W.call (cmd_bytesOf (c.1, (c.2.1, (c.2.2.1, (c.2.2.2.1, (c.2.2.2.2.1, (c.2.2.2.2.2.1, (c.2.2.2.2.2.2.1, (c.2.2.2.2.2.2.2.1, (c.2.2.2.2.2.2.2.2.1, (c.2.2.2.2.2.2.2.2.2.1, (c.2.2.2.2.2.2.2.2.2.2.1, (c.2.2.2.2.2.2.2.2.2.2.2.1, ()))))))))))))) fun v2 => some (v2, (0, ())))
noncomputable def cmd_Encode (c : ACommand') : Option ((List Int) × Int × Unit) := cmd_EncodeW stdW c
noncomputable def cmd_Encode_s : ES := ⟨(.pair tACommand .unit), (.pair (.own 5 (.int .u8)) (.pair (.v (.int .i64)) .unit)), fun x => cmd_Encode x.1⟩
theorem cmd_Encode_ok : ECok Try.prog 61 (.es cmd_Encode_s)   := es_ok (A := (.pair tACommand .unit)) (Q := (.pair (.own 5 (.int .u8)) (.pair (.v (.int .i64)) .unit))) (fun W x => cmd_EncodeW W x.1) [(63, .es cmd_Check_s), (116, .es cmd_bytesOf_s)] ⟨cmd_Check_ok, cmd_bytesOf_ok, trivial⟩ [] [] [] Try.func61 rfl (by decide +kernel) rfl rfl (fun W x => by kernel_rfl)
noncomputable def ref01_SameW (W : Wd) (a : List Int) (b : List Int) : Option Bool := 
 W.cnd ((a.length : Int) != (b.length : Int)) (some false)
  (
  W.loop (fun (z1 : Int × Unit) again2 => 
   W.cnd (decide (z1.1 < (a.length : Int))) (W.idx a z1.1 fun x3 => W.idx b z1.1 fun x4 => 
    W.cnd (x3 != x4) (some false)
     ((again2 ((IntKind.i64.wrap (z1.1 + 1)), ()))))
    (some true))
   (0, ()))
noncomputable def ref01_Same (a : List Int) (b : List Int) : Option Bool := ref01_SameW stdW a b
noncomputable def ref01_Same_s : ES := ⟨(.pair (.slc (.int .u8)) (.pair (.slc (.int .u8)) .unit)), (.v .bool), fun x => ref01_Same x.1 x.2.1⟩
theorem ref01_Same_ok : ECok Try.prog 32 (.es ref01_Same_s)   := es_ok (A := (.pair (.slc (.int .u8)) (.pair (.slc (.int .u8)) .unit))) (Q := (.v .bool)) (fun W x => ref01_SameW W x.1 x.2.1) [] trivial [(6, [], (ofL [(0, true), (1, true), (2, true), (3, true), (4, true), (5, true), (6, true), (7, true), (8, true)]))] [] [(4, ⟨[(5, .t (.int .i64))], [], []⟩)] Try.func32 rfl (by decide +kernel) rfl rfl (fun W x => by kernel_rfl)
noncomputable def law34_livesW (W : Wd) : Option Bool := W.call (cmd_Encode (16, (0, (0, ((0, (0, ())), ((0, (0, ())), (0, (0, (0, (0, (0, (0, ([], ()))))))))))))) fun v1 => W.call (cmd_Decode (32 :: (0 :: []))) fun v2 => 
 W.cnd (v1.2.1 == 0) (W.call (ref01_Same v1.1 (32 :: (0 :: []))) fun v3 => 
  W.cnd v3 (
   W.cnd (v2.2.1 == 0) (some (v2.1.1 == 16))
    (some false))
   (some false))
  (some false)
noncomputable def law34_lives : Option Bool := law34_livesW stdW
noncomputable def law34_lives_s : ES := ⟨.unit, (.v .bool), fun x => law34_lives ⟩
theorem law34_lives_ok : ECok Try.prog 67 (.es law34_lives_s)   := es_ok (A := .unit) (Q := (.v .bool)) (fun W x => law34_livesW W ) [(61, .es cmd_Encode_s), (68, .es cmd_Decode_s), (32, .es ref01_Same_s)] ⟨cmd_Encode_ok, cmd_Decode_ok, ref01_Same_ok, trivial⟩ [] [] [] Try.func67 rfl (by decide +kernel) rfl rfl (fun W x => by kernel_rfl)
noncomputable def law34_CmdDecodesW (W : Wd) (b : List Int) (c : ACommand') : Option Bool := 
 W.join (fun (z1 : List (Int) × Int × Int × Int × Int × Int × Int × Int × Int × Int × Int × Int × Int × Int × List (Int) × Unit) => W.call (cmd_Decode z1.1) fun v2 => W.call (ref34_Decode z1.1) fun v3 => 
  W.join (fun (z4 : Bool × Unit) => 
   W.cnd z4.1 (some false)
    (W.call (cmd_Encode (v2.1.1, (v2.1.2.1, (v2.1.2.2.1, (v2.1.2.2.2.1, (v2.1.2.2.2.2.1, (v2.1.2.2.2.2.2.1, (v2.1.2.2.2.2.2.2.1, (v2.1.2.2.2.2.2.2.2.1, (v2.1.2.2.2.2.2.2.2.2.1, (v2.1.2.2.2.2.2.2.2.2.2.1, (v2.1.2.2.2.2.2.2.2.2.2.2.1, (v2.1.2.2.2.2.2.2.2.2.2.2.2.1, ()))))))))))))) fun v5 => 
    W.join (fun (z6 : Bool × Unit) => 
     W.cnd z6.1 (some false)
      (W.call (cmd_Encode (z1.2.1, (z1.2.2.1, (z1.2.2.2.1, ((z1.2.2.2.2.1, (z1.2.2.2.2.2.1, ())), ((z1.2.2.2.2.2.2.1, (z1.2.2.2.2.2.2.2.1, ())), (z1.2.2.2.2.2.2.2.2.1, (z1.2.2.2.2.2.2.2.2.2.1, (z1.2.2.2.2.2.2.2.2.2.2.1, (z1.2.2.2.2.2.2.2.2.2.2.2.1, (z1.2.2.2.2.2.2.2.2.2.2.2.2.1, (z1.2.2.2.2.2.2.2.2.2.2.2.2.2.1, (z1.2.2.2.2.2.2.2.2.2.2.2.2.2.2.1, ()))))))))))))) fun v7 => 
      W.cnd (v7.2.1 != 0) (
       W.cnd ((v7.1.length : Int) == 0) (W.call (law34_lives) fun v8 => some v8)
        (some false))
       (W.call (cmd_Decode v7.1) fun v9 => 
       W.cnd (v9.2.1 == 0) (W.call (ref34_Same (v9.1.1, (v9.1.2.1, (v9.1.2.2.1, (v9.1.2.2.2.1, (v9.1.2.2.2.2.1, (v9.1.2.2.2.2.2.1, (v9.1.2.2.2.2.2.2.1, (v9.1.2.2.2.2.2.2.2.1, (v9.1.2.2.2.2.2.2.2.2.1, (v9.1.2.2.2.2.2.2.2.2.2.1, (v9.1.2.2.2.2.2.2.2.2.2.2.1, (v9.1.2.2.2.2.2.2.2.2.2.2.2.1, ())))))))))))) (z1.2.1, (z1.2.2.1, (z1.2.2.2.1, ((z1.2.2.2.2.1, (z1.2.2.2.2.2.1, ())), ((z1.2.2.2.2.2.2.1, (z1.2.2.2.2.2.2.2.1, ())), (z1.2.2.2.2.2.2.2.2.1, (z1.2.2.2.2.2.2.2.2.2.1, (z1.2.2.2.2.2.2.2.2.2.2.1, (z1.2.2.2.2.2.2.2.2.2.2.2.1, (z1.2.2.2.2.2.2.2.2.2.2.2.2.1, (z1.2.2.2.2.2.2.2.2.2.2.2.2.2.1, (z1.2.2.2.2.2.2.2.2.2.2.2.2.2.2.1, ()))))))))))))) fun v10 => 
        W.cnd v10 (W.call (law34_lives) fun v11 => some v11)
         (some false))
        (some false))))
     fun k12 => 
     W.cnd (v2.2.1 == 0) (
      W.cnd (v5.2.1 != 0) ((k12 (true, ())))
       (W.call (ref01_Same v5.1 z1.1) fun v13 => (k12 ((!v13), ()))))
      ((k12 (false, ())))))
   fun k14 => W.call (ref34_Same (v2.1.1, (v2.1.2.1, (v2.1.2.2.1, (v2.1.2.2.2.1, (v2.1.2.2.2.2.1, (v2.1.2.2.2.2.2.1, (v2.1.2.2.2.2.2.2.1, (v2.1.2.2.2.2.2.2.2.1, (v2.1.2.2.2.2.2.2.2.2.1, (v2.1.2.2.2.2.2.2.2.2.2.1, (v2.1.2.2.2.2.2.2.2.2.2.2.1, (v2.1.2.2.2.2.2.2.2.2.2.2.2.1, ())))))))))))) (v3.1.1, (v3.1.2.1, (v3.1.2.2.1, (v3.1.2.2.2.1, (v3.1.2.2.2.2.1, (v3.1.2.2.2.2.2.1, (v3.1.2.2.2.2.2.2.1, (v3.1.2.2.2.2.2.2.2.1, (v3.1.2.2.2.2.2.2.2.2.1, (v3.1.2.2.2.2.2.2.2.2.2.1, (v3.1.2.2.2.2.2.2.2.2.2.2.1, (v3.1.2.2.2.2.2.2.2.2.2.2.2.1, ()))))))))))))) fun v15 => 
   W.cnd (!v15) ((k14 (true, ())))
    ((k14 ((v2.2.1 != v3.2.1), ()))))
  fun k16 => W.both (W.call (ref01_Cut b 400) fun v17 => W.call (law34_Short (c.1, (c.2.1, (c.2.2.1, (c.2.2.2.1, (c.2.2.2.2.1, (c.2.2.2.2.2.1, (c.2.2.2.2.2.2.1, (c.2.2.2.2.2.2.2.1, (c.2.2.2.2.2.2.2.2.1, (c.2.2.2.2.2.2.2.2.2.1, (c.2.2.2.2.2.2.2.2.2.2.1, (c.2.2.2.2.2.2.2.2.2.2.2.1, ()))))))))))))) fun v18 => (k16 (v17, (v18.1, (v18.2.1, (v18.2.2.1, (v18.2.2.2.1.1, (v18.2.2.2.1.2.1, (v18.2.2.2.2.1.1, (v18.2.2.2.2.1.2.1, (v18.2.2.2.2.2.1, (v18.2.2.2.2.2.2.1, (v18.2.2.2.2.2.2.2.1, (v18.2.2.2.2.2.2.2.2.1, (v18.2.2.2.2.2.2.2.2.2.1, (v18.2.2.2.2.2.2.2.2.2.2.1, (v18.2.2.2.2.2.2.2.2.2.2.2.1, ()))))))))))))))))) (W.call (ref01_Cut b 400) fun v19 => W.call (law34_Short (c.1, (c.2.1, (c.2.2.1, (c.2.2.2.1, (c.2.2.2.2.1, (c.2.2.2.2.2.1, (c.2.2.2.2.2.2.1, (c.2.2.2.2.2.2.2.1, (c.2.2.2.2.2.2.2.2.1, (c.2.2.2.2.2.2.2.2.2.1, (c.2.2.2.2.2.2.2.2.2.2.1, (c.2.2.2.2.2.2.2.2.2.2.2.1, ()))))))))))))) fun v20 => (k16 (v19, (v20.1, (v20.2.1, (v20.2.2.1, (v20.2.2.2.1.1, (v20.2.2.2.1.2.1, (v20.2.2.2.2.1.1, (v20.2.2.2.2.1.2.1, (v20.2.2.2.2.2.1, (v20.2.2.2.2.2.2.1, (v20.2.2.2.2.2.2.2.1, (v20.2.2.2.2.2.2.2.2.1, (v20.2.2.2.2.2.2.2.2.2.1, (v20.2.2.2.2.2.2.2.2.2.2.1, (v20.2.2.2.2.2.2.2.2.2.2.2.1, ())))))))))))))))))
noncomputable def law34_CmdDecodes (b : List Int) (c : ACommand') : Option Bool := law34_CmdDecodesW stdW b c
noncomputable def law34_CmdDecodes_s : ES := ⟨(.pair (.slc (.int .u8)) (.pair tACommand .unit)), (.v .bool), fun x => law34_CmdDecodes x.1 x.2.1⟩
theorem law34_CmdDecodes_ok : ECok Try.prog 12 (.es law34_CmdDecodes_s)   := es_ok (A := (.pair (.slc (.int .u8)) (.pair tACommand .unit))) (Q := (.v .bool)) (fun W x => law34_CmdDecodesW W x.1 x.2.1) [(35, .es ref01_Cut_s), (60, .es law34_Short_s), (68, .es cmd_Decode_s), (69, .es ref34_Decode_s), (70, .es ref34_Same_s), (61, .es cmd_Encode_s), (32, .es ref01_Same_s), (67, .es law34_lives_s)] ⟨ref01_Cut_ok, law34_Short_ok, cmd_Decode_ok, ref34_Decode_ok, ref34_Same_ok, cmd_Encode_ok, ref01_Same_ok, law34_lives_ok, trivial⟩ [(1, [0], (.rd 0 (.two 1 2 (ofL [(2, false), (3, false), (4, true), (5, false)]) (ofL [(1, false), (3, false), (4, true), (5, false)]))))] [(2, ⟨[(0, .t (.slc (.int .u8)))], [(0, [.t (.int .i64), .t (.int .i64), .t (.int .i64), .t (.int .i64), .t (.int .i64), .t (.int .i64), .t (.int .i64), .t (.int .i64), .t (.int .i64), .t (.int .i64), .t (.int .i64), .t (.int .i64), .t (.int .i64), .t (.slc (.int .i64))])], []⟩), (500037, ⟨[(37, .t .bool)], [], []⟩), (500054, ⟨[(54, .t .bool)], [], []⟩)] [] Try.func12 rfl (by decide +kernel) rfl rfl (fun W x => by kernel_rfl)
end Go.Proofs.Ytnldhkhnfodplaa

namespace Go.Proofs.Ytnldhkhnfodplaa
open Go Go.Vc Go.RowKit
/-! ### pack, in plain words -/
theorem join_b {β : Type} {k : Bool × Unit → Option β} {f : (Bool × Unit → Option β) → Option β} (b : Bool) (h : ∀ K : Bool × Unit → Option β, f K = K (b, ())) : stdW.join k f = k (b, ()) := h k
theorem idx_z {α β : Type} {x : α} {l : List α} (K : α → Option β) : stdW.idx (x :: l) 0 K = K x := by show idxF (x :: l) 0 K = _; unfold idxF; simp
def Bt (l : List Int) : Prop := ∀ b ∈ l, 0 ≤ b ∧ b < 256
theorem r_unfolded (u : Nat) (hu : u < 18446744073709551616) : pack_unfolded (u : Int) = some (unf u) := by
  show pack_unfoldedW stdW u = _
  unfold pack_unfoldedW
  rw [nn_w (by omega), unf_bits u hu]
theorem r_folded {n : Int} (hn : Is64 n) : pack_folded n = some (fold n : Int) := by
  show pack_foldedW stdW n = _
  unfold pack_foldedW
  rw [nn_w (by omega), nn_w (by omega), fold_bits n hn]
def resN (x : Option Nat × List Int × Int) : Option ((Int × Bool × Unit) × (Bool × (List Int) × Int × Unit)) := some ((((x.1.getD 0 : Nat) : Int), (x.1.isSome, ())), (true, (x.2.1, (x.2.2, ()))))
theorem r_number {bs : List Int} (hb : Bt bs) (hl : bs.length < 9223372036854775807) : pack_Reader_number true bs 0 = resN (numS 0 0 bs) := by
  show pack_Reader_numberW stdW true bs 0 = _
  unfold pack_Reader_numberW
  refine (loop_std (fun z => z.2.2.2.1.length) (fun z => ∃ (u sh : Nat) (l : List Int), z = ((u : Int), ((sh : Int), (true, (l, (0, ()))))) ∧ u < 18446744073709551616 ∧ sh ≤ 70 ∧ Bt l ∧ l.length < 9223372036854775807) (fun z => resN (numS z.2.1.toNat z.1.toNat z.2.2.2.1)) ⟨0, 0, bs, rfl, by omega, by omega, hb, hl⟩ (by show bs.length < _; omega) ?_)
  rintro _ ⟨u, sh, l, rfl, hu, hsh, hbt, hlen⟩ again ha
  cases l with
  | nil =>
    rw [cnd_y (by rfl), call_w (show pack_Reader_fail 4 true [] 0 = some ((), (true, ([], (4, ())))) from rfl)]
    show _ = resN (numS sh u [])
    unfold numS; rfl
  | cons b r =>
    have h0 := hbt b (by simp)
    have hr : Bt r := fun x hx => hbt x (by simp [hx])
    show stdW.cnd (((b :: r).length : Int) == 0) _ _ = resN (numS sh u (b :: r))
    rw [cnd_n (by simp; omega)]
    show stdW.idx (b :: r) 0 _ = _
    rw [idx_z, bnd_w (by omega) (by simp; omega)]
    refine (join_b (decide (63 < sh ∨ (sh = 63 ∧ 1 < b) ∨ (b = 0 ∧ 0 < sh))) fun K => ?_).trans ?_
    · show stdW.cnd (decide ((63 : Int) < (sh : Int))) _ _ = _
      by_cases h1 : 63 < sh
      · rw [cnd_y (by simpa using by omega), decide_eq_true (.inl h1)]
      · rw [cnd_n (by simpa using by omega)]
        show stdW.cnd ((sh : Int) == 63) _ _ = _
        by_cases h2 : sh = 63
        · rw [cnd_y (by simp [h2])]
          by_cases h3 : 1 < b
          · rw [cnd_y (by simpa using h3), decide_eq_true (.inr (.inl ⟨h2, h3⟩))]
          · rw [cnd_n (by simpa using h3)]
            by_cases h4 : b = 0
            · rw [cnd_y (by simp [h4]), decide_eq_true (show 63 < sh ∨ (sh = 63 ∧ 1 < b) ∨ (b = 0 ∧ 0 < sh) from .inr (.inr ⟨h4, by omega⟩))]
              show K (decide ((0 : Int) < (sh : Int)), ()) = _
              rw [decide_eq_true (by omega)]
            · rw [cnd_n (by simp [h4]), decide_eq_false (by omega)]
        · rw [cnd_n (by simp; omega)]
          by_cases h4 : b = 0
          · rw [cnd_y (by simp [h4])]
            show K (decide ((0 : Int) < (sh : Int)), ()) = _
            congr 2
            apply decide_eq_decide.2; omega
          · rw [cnd_n (by simp [h4]), decide_eq_false (by omega)]
    · have ed : (List.take (b :: r).length (b :: r)).drop (Int.toNat 1) = r := by simp
      by_cases hbad : 63 < sh ∨ (sh = 63 ∧ 1 < b) ∨ (b = 0 ∧ 0 < sh)
      · rw [decide_eq_true hbad]
        show stdW.cnd true _ _ = _
        rw [cnd_y (by rfl), call_w (show pack_Reader_fail 3 true _ 0 = some ((), (true, ([], (3, ())))) from rfl)]
        unfold numS; rw [if_pos hbad]; rfl
      · rw [decide_eq_false hbad]
        show stdW.cnd false _ _ = _
        rw [cnd_n (by rfl)]
        show stdW.nn (sh : Int) _ = _
        rw [nn_w (by omega)]
        unfold numS; rw [if_neg hbad]
        have ub := uNext_bits (sh := sh) (u := u) (b := b) hu (by omega) h0
        by_cases h128 : b < 128
        · rw [cnd_y (by simpa using h128), if_pos h128]
          show some ((Go.bits Go.BinOp.or Go.IntKind.u64 (u : Int) (IntKind.u64.wrap ((IntKind.u64.wrap (Go.bits Go.BinOp.and Go.IntKind.u8 b 127)) * (2 ^ (Min.min (Int.toNat (sh : Int)) (Go.IntKind.bits Go.IntKind.u64))))), (true, ())), (true, ((List.take (b :: r).length (b :: r)).drop (Int.toNat 1), (0, ())))) = _
          rw [ub, ed]; rfl
        · rw [cnd_n (by simpa using h128), if_neg h128]
          show again (Go.bits Go.BinOp.or Go.IntKind.u64 (u : Int) (IntKind.u64.wrap ((IntKind.u64.wrap (Go.bits Go.BinOp.and Go.IntKind.u8 b 127)) * (2 ^ (Min.min (Int.toNat (sh : Int)) (Go.IntKind.bits Go.IntKind.u64))))), (IntKind.i64.wrap ((sh : Int) + 7), (true, ((List.take (b :: r).length (b :: r)).drop (Int.toNat 1), (0, ()))))) = _
          rw [ub, ed]
          have es : IntKind.i64.wrap ((sh : Int) + 7) = ((sh + 7 : Nat) : Int) := by rw [IntWalk.i64_in _ (by omega)]; omega
          rw [es]
          exact ha _ ⟨uNext sh u b, sh + 7, r, rfl, uNext_lt hu, by omega, hr, by simp at hlen; omega⟩ (by show r.length < (b :: r).length; simp)
theorem numS_len : ∀ (bs : List Int) (sh u : Nat), (numS sh u bs).2.1.length ≤ bs.length
  | [], sh, u => by simp [numS]
  | b :: r, sh, u => by
    unfold numS
    split
    · simp
    · split
      · simp
      · have := numS_len r (sh + 7) (uNext sh u b); simp; omega
/-- a reading, as data -/
def rd (lo hi : Int) (s : List Int × Int) : Int × (List Int × Int) := ((rdInt s.1 s.2 lo hi).1, ((rdInt s.1 s.2 lo hi).2.1, (rdInt s.1 s.2 lo hi).2.2))
theorem r_pInt {lo hi : Int} {s : List Int × Int} (hb : Bt s.1) (hl : s.1.length < 9223372036854775807) : pack_Reader_Int lo hi true s.1 s.2 = some ((rd lo hi s).1, (true, ((rd lo hi s).2.1, ((rd lo hi s).2.2, ())))) := by
  obtain ⟨bs, e⟩ := s
  show pack_Reader_IntW stdW lo hi true bs e = _
  unfold pack_Reader_IntW rd rdInt
  rw [call_w (show pack_Reader_good true bs e = some ((e == 0), (true, (bs, (e, ())))) from rfl)]
  by_cases he : e = 0
  · subst he
    rw [cnd_n (by rfl)]
    rw [if_neg (by simp)]
    show stdW.call (pack_Reader_number true bs 0) _ = _
    rw [r_number hb hl]
    have hlt := numS_lt bs 0 0 (by decide)
    rcases hN : numS 0 0 bs with ⟨_ | u, r, e'⟩
    · rw [call_w (show resN (none, r, e') = some ((((0 : Nat) : Int), (false, ())), (true, (r, (e', ())))) from rfl)]
      show stdW.call (pack_unfolded ((0 : Nat) : Int)) _ = _
      rw [call_w (r_unfolded 0 (by decide)), cnd_y (by rfl)]
    · rw [hN] at hlt
      rw [call_w (show resN (some u, r, e') = some (((u : Int), (true, ())), (true, (r, (e', ())))) from rfl)]
      show stdW.call (pack_unfolded (u : Int)) _ = _
      rw [call_w (r_unfolded u (hlt u rfl)), cnd_n (by rfl)]
      refine (join_b (decide (unf u < lo ∨ hi < unf u)) fun K => ?_).trans ?_
      · by_cases h1 : unf u < lo
        · rw [cnd_y (by simpa using h1), decide_eq_true (.inl h1)]
        · rw [cnd_n (by simpa using h1)]
          congr 2; apply decide_eq_decide.2; simp [h1]
      · show stdW.cnd _ _ _ = _
        by_cases h1 : unf u < lo ∨ hi < unf u
        · rw [cnd_y (by simpa using h1)]
          show _ = some ((if unf u < lo ∨ hi < unf u then _ else _ : Int × List Int × Int).1, (true, ((if unf u < lo ∨ hi < unf u then _ else _ : Int × List Int × Int).2.1, ((if unf u < lo ∨ hi < unf u then _ else _ : Int × List Int × Int).2.2, ()))))
          rw [if_pos h1]; rfl
        · rw [cnd_n (by simpa using h1)]
          show _ = some ((if unf u < lo ∨ hi < unf u then _ else _ : Int × List Int × Int).1, (true, ((if unf u < lo ∨ hi < unf u then _ else _ : Int × List Int × Int).2.1, ((if unf u < lo ∨ hi < unf u then _ else _ : Int × List Int × Int).2.2, ()))))
          rw [if_neg h1]
  · rw [cnd_y (by simp [he])]
    rw [if_pos he]
end Go.Proofs.Ytnldhkhnfodplaa

namespace Go.Proofs.Ytnldhkhnfodplaa
open Go Go.Vc Go.RowKit
/-! ### pack: writing, the ends -/
theorem fd7 (u : Nat) : (u : Int).fdiv (2 ^ (Min.min (Int.toNat 7) (Go.IntKind.bits Go.IntKind.u64))) = ((u / 128 : Nat) : Int) := by
  have e : (2 : Int) ^ (Min.min (Int.toNat 7) (Go.IntKind.bits Go.IntKind.u64)) = 128 := by decide +kernel
  rw [e, Int.fdiv_eq_ediv_of_nonneg _ (by omega)]; omega
theorem r_wOne {u : Nat} {b : List Int} (hu : u < 18446744073709551616) (hb : b.length ≤ 100000000) : pack_Writer_one (u : Int) true b = some ((), (true, (b ++ encU u, ()))) := by
  show pack_Writer_oneW stdW u true b = _
  unfold pack_Writer_oneW
  refine (loop_std (fun z => z.1.toNat) (fun z => ∃ (v : Nat) (l : List Int), z = ((v : Int), (true, (l, ()))) ∧ v < 18446744073709551616 ∧ l.length + (encU v).length ≤ 100000020) (fun z => some ((), (true, (z.2.2.1 ++ encU z.1.toNat, ())))) ⟨u, b, rfl, hu, by have := encU_len10 hu; omega⟩ (by show (u : Int).toNat < _; omega) ?_)
  rintro _ ⟨v, l, rfl, hv, hl⟩ again ha
  show stdW.cnd (decide ((128 : Int) ≤ (v : Int))) _ _ = some ((), (true, (l ++ encU (v : Int).toNat, ())))
  rw [Int.toNat_natCast]
  by_cases h : 128 ≤ v
  · rw [cnd_y (by simpa using by omega)]
    rw [encU_ge h] at hl ⊢
    simp only [List.length_cons] at hl
    rw [room_w (by simp only [List.length_cons, List.length_nil]; omega) (by simp only [List.length_cons, List.length_nil]; omega), nn_w (by omega)]
    show again ((v : Int).fdiv (2 ^ (Min.min (Int.toNat 7) (Go.IntKind.bits Go.IntKind.u64))), (true, (l ++ (Go.bits Go.BinOp.or Go.IntKind.u8 (IntKind.u8.wrap (v : Int)) 128) :: [], ()))) = _
    rw [fd7, or128]
    refine (ha _ ⟨v / 128, _, rfl, by omega, by simp only [List.length_append, List.length_cons, List.length_nil]; omega⟩ (by show ((v / 128 : Nat) : Int).toNat < ((v : Nat) : Int).toNat; omega)).trans ?_
    rw [Int.toNat_natCast, List.append_assoc]; rfl
  · rw [cnd_n (by simpa using by omega)]
    rw [encU_lt (by omega)] at hl ⊢
    rw [room_w (by simp only [List.length_cons, List.length_nil] at hl ⊢; omega) (by simp only [List.length_cons, List.length_nil] at hl ⊢; omega)]
    show some ((), (true, (l ++ (IntKind.u8.wrap (v : Int)) :: [], ()))) = _
    rw [u8c _ (by omega)]
theorem encs_nil : encs [] = [] := rfl
theorem encs_app (a b : List Int) : encs (a ++ b) = encs a ++ encs b := by unfold encs; rw [List.flatMap_append]
theorem encs_one (n : Int) : encs [n] = encU (fold n) := by unfold encs; simp
theorem encs_len {l : List Int} (h : ∀ n ∈ l, Is64 n) : (encs l).length ≤ 10 * l.length := by
  induction l with
  | nil => simp [encs]
  | cons x l ih =>
    have h1 := encU_len10 (fold_lt x (h x (by simp)))
    have h2 := ih fun n hn => h n (by simp [hn])
    unfold encs at h2 ⊢
    rw [List.flatMap_cons, List.length_append, List.length_cons]; omega
theorem r_wInt {l b : List Int} (hl : ∀ n ∈ l, Is64 n) (hn : l.length ≤ 1000000) (hb : b.length ≤ 50000000) : pack_Writer_Int l true b = some ((), (true, (b ++ encs l, ()))) := by
  show pack_Writer_IntW stdW l true b = _
  unfold pack_Writer_IntW
  rw [join_w, call_w (show pack_Writer_ok true b = some (true, (true, (b, ()))) from rfl), cnd_y (by rfl)]
  refine loop_list (l := l) (by omega) (fun i s => s = (true, (b ++ encs (l.take i), ()))) (fun _ _ => some ((), (true, (b ++ encs l, ())))) (by simp [encs]) ?_ ?_
  · rintro _ again rfl
    rw [cnd_end, List.take_length]
  · rintro i hi _ rfl again ha
    have hx := hl _ (List.getElem_mem hi)
    have hlen : (encs (l.take i)).length ≤ 10 * (l.take i).length := encs_len fun n hn => hl n (List.mem_of_mem_take hn)
    rw [List.length_take] at hlen
    rw [cnd_lt hi, idx_w hi, call_w (r_folded hx)]
    show stdW.call (pack_Writer_one (fold l[i] : Int) true (b ++ encs (l.take i))) _ = _
    rw [call_w (r_wOne (fold_lt _ hx) (by rw [List.length_append]; omega)), i64_s i (by omega)]
    refine ha _ ?_
    rw [show l.take (i + 1) = l.take i ++ [l[i]] by simp, encs_app, encs_one, List.append_assoc]
theorem nilq_w {β : Type} (e : Bool) (f : Bool → Option β) : stdW.nilq e f = nilF e f := rfl
theorem r_clone {l : List Int} (hl : l.length ≤ 100000000) : slices_Clonebyte_byte l = some l := by
  show slices_Clonebyte_byteW stdW l = _
  unfold slices_Clonebyte_byteW
  rw [nilq_w]
  refine nilF_eq ?_ ?_
  · rw [cnd_n (by rfl), room_w (by omega) (by omega)]; rfl
  · intro h
    rw [cnd_y (by rfl), List.isEmpty_iff.1 h]
theorem r_open {l : List Int} (hl : l.length ≤ 100000000) : pack_Open l = some ((true, (l, (0, ()))), ()) := by
  show pack_OpenW stdW l = _
  unfold pack_OpenW
  rw [call_w (r_clone hl)]
theorem r_done {l : List Int} (hl : l.length ≤ 100000000) : pack_Writer_Done true l = some (l, (true, (l, ()))) := by
  show pack_Writer_DoneW stdW true l = _
  unfold pack_Writer_DoneW
  rw [call_w (show pack_Writer_ok true l = some (true, (true, (l, ()))) from rfl), cnd_n (by rfl)]
  show stdW.call (slices_Clonebyte_byte l) _ = _
  rw [call_w (r_clone hl)]
/-- how a reading ends -/
def endE (s : List Int × Int) : Int := if s.2 ≠ 0 then s.2 else if 0 < s.1.length then 5 else 0
theorem r_pEnd (s : List Int × Int) : pack_Reader_End true s.1 s.2 = some (endE s, (true, (s.1, (s.2, ())))) := by
  obtain ⟨l, e⟩ := s
  show pack_Reader_EndW stdW true l e = _
  unfold pack_Reader_EndW endE
  rw [call_w (show pack_Reader_Err true l e = some (e, (true, (l, (e, ())))) from rfl)]
  by_cases he : e = 0
  · subst he
    rw [cnd_n (by rfl)]
    by_cases h : 0 < l.length
    · rw [cnd_y (decide_eq_true (by show (0 : Int) < (l.length : Int); omega))]; simp [h]
    · rw [cnd_n (decide_eq_false (by show ¬ (0 : Int) < (l.length : Int); omega))]; simp [h]
  · rw [cnd_y (by simp [he])]; simp [he]
theorem r_rEnd (s : List Int × Int) : ref04_Reader_End s.1 s.2 = some (endE s, (s.1, (s.2, ()))) := by
  obtain ⟨l, e⟩ := s
  show ref04_Reader_EndW stdW l e = _
  unfold ref04_Reader_EndW endE
  rw [join_w]
  by_cases he : e = 0
  · subst he
    rw [cnd_y (by rfl)]
    show stdW.cnd (decide ((0 : Int) < (l.length : Int))) _ _ = _
    by_cases h : 0 < l.length
    · rw [cnd_y (decide_eq_true (by show (0 : Int) < (l.length : Int); omega))]; simp [h]
    · rw [cnd_n (decide_eq_false (by show ¬ (0 : Int) < (l.length : Int); omega))]; simp [h]
  · rw [cnd_n (by simp [he])]
    show stdW.cnd false _ _ = _
    rw [cnd_n (by rfl)]; simp [he]
end Go.Proofs.Ytnldhkhnfodplaa

namespace Go.Proofs.Ytnldhkhnfodplaa
open Go Go.Vc Go.RowKit
/-! ### the reference's reading of a number -/
def lead : List Int → Nat
  | [] => 0
  | b :: r => if 128 ≤ b then lead r + 1 else 0
theorem lead_le : ∀ l, lead l ≤ l.length
  | [] => Nat.le_refl _
  | b :: r => by unfold lead; have := lead_le r; split <;> simp <;> omega
theorem lead_get : ∀ (l : List Int) (j : Nat) (h : j < lead l) (h2 : j < l.length), 128 ≤ l[j]
  | [], j, h, h2 => by simp at h2
  | b :: r, 0, h, h2 => by
    unfold lead at h; split at h
    · simpa using ‹128 ≤ b›
    · omega
  | b :: r, j + 1, h, h2 => by
    unfold lead at h; split at h
    · simpa using lead_get r j (by omega) (by simpa using h2)
    · omega
theorem lead_end : ∀ (l : List Int) (h : lead l < l.length), l[lead l] < 128
  | [], h => by simp at h
  | b :: r, h => by
    by_cases hb : 128 ≤ b
    · have e : lead (b :: r) = lead r + 1 := by rw [lead, if_pos hb]
      have h' : lead r < r.length := by rw [e] at h; simpa using h
      have := lead_end r h'
      simp only [e, List.getElem_cons_succ]; exact this
    · have e : lead (b :: r) = 0 := by rw [lead, if_neg hb]
      simp only [e, List.getElem_cons_zero]; omega
/-- groups of seven, the lowest first -/
def valL : List Int → Nat
  | [] => 0
  | b :: r => b.toNat % 128 + 128 * valL r
theorem valL_drop : ∀ (l : List Int) (i : Nat), valL (l.drop i) ≤ valL l
  | [], i => by simp
  | b :: r, 0 => by simp
  | b :: r, i + 1 => by have := valL_drop r i; simp only [List.drop_succ_cons, valL]; omega
theorem valL_step (l : List Int) (i : Nat) (h : i < l.length) : valL (l.drop i) = (l[i]).toNat % 128 + 128 * valL (l.drop (i + 1)) := by
  rw [drop_cons' l i h, valL]
theorem p7 (k : Nat) : 2 ^ (7 * (k + 1)) = 128 * 2 ^ (7 * k) := by rw [show 7 * (k + 1) = 7 * k + 7 by omega, Nat.pow_add]; omega
theorem uNext_ok {k acc : Nat} {b : Int} (hb : 0 ≤ b) (ha : acc < 2 ^ (7 * k)) (hx : b.toNat % 128 * 2 ^ (7 * k) < 18446744073709551616) : uNext (7 * k) acc b = acc + b.toNat % 128 * 2 ^ (7 * k) := by
  have := uNext_add (sh := 7 * k) (acc := acc) (b := b.toNat) ha hx
  rwa [Int.toNat_of_nonneg hb] at this
theorem small56 {k : Nat} (h : k ≤ 8) (x : Nat) : x % 128 * 2 ^ (7 * k) < 18446744073709551616 := by
  have h1 : 2 ^ (7 * k) ≤ 2 ^ 56 := Nat.pow_le_pow_right (by omega) (by omega)
  have h2 : x % 128 * 2 ^ (7 * k) ≤ 127 * 2 ^ 56 := Nat.mul_le_mul (by omega) h1
  have : 127 * 2 ^ 56 < 18446744073709551616 := by decide
  omega
theorem acc_next {k acc x : Nat} (ha : acc < 2 ^ (7 * k)) : acc + x % 128 * 2 ^ (7 * k) < 2 ^ (7 * (k + 1)) := by
  rw [p7]
  have : x % 128 * 2 ^ (7 * k) ≤ 127 * 2 ^ (7 * k) := Nat.mul_le_mul_right _ (by omega)
  omega
/-- how a number's groups end: all of them, short, wrong -/
theorem numS_dec : ∀ (bs : List Int) (k acc : Nat), Bt bs → k ≤ 9 → acc < 2 ^ (7 * k) →
    (k + lead bs < 10 ∧ lead bs = bs.length → numS (7 * k) acc bs = (none, [], 4)) ∧
    (10 ≤ k + lead bs → numS (7 * k) acc bs = (none, [], 3)) ∧
    (k + lead bs < 10 → ∀ h : lead bs < bs.length, ((k + lead bs = 9 ∧ 1 < bs[lead bs]) ∨ (0 < k + lead bs ∧ bs[lead bs] = 0) → numS (7 * k) acc bs = (none, [], 3)) ∧
      (¬ ((k + lead bs = 9 ∧ 1 < bs[lead bs]) ∨ (0 < k + lead bs ∧ bs[lead bs] = 0)) → numS (7 * k) acc bs = (some (acc + valL (bs.take (lead bs + 1)) * 2 ^ (7 * k)), bs.drop (lead bs + 1), 0)))
  | [], k, acc, hb, hk, ha => by
    refine ⟨fun _ => by unfold numS; rfl, fun h => ?_, fun _ h => ?_⟩
    · simp [lead] at h; omega
    · simp at h
  | b :: r, k, acc, hb, hk, ha => by
    have h0 := hb b (by simp)
    have hr : Bt r := fun x hx => hb x (by simp [hx])
    by_cases h128 : 128 ≤ b
    · have e : lead (b :: r) = lead r + 1 := by rw [lead, if_pos h128]
      rcases Nat.lt_or_ge k 9 with hk9 | hk9
      · have hn : uNext (7 * k) acc b = acc + b.toNat % 128 * 2 ^ (7 * k) := uNext_ok h0.1 ha (small56 (by omega) _)
        have step : numS (7 * k) acc (b :: r) = numS (7 * (k + 1)) (acc + b.toNat % 128 * 2 ^ (7 * k)) r := by
          rw [numS, if_neg (by omega), if_neg (by omega), hn]; rfl
        obtain ⟨i1, i2, i3⟩ := numS_dec r (k + 1) (acc + b.toNat % 128 * 2 ^ (7 * k)) hr (by omega) (acc_next ha)
        rw [step]
        refine ⟨fun h => i1 ⟨by omega, by have := h.2; rw [e] at this; simpa using this⟩, fun h => i2 (by omega), fun hl h => ?_⟩
        have h' : lead r < r.length := by rw [e] at h; simpa using h
        obtain ⟨j1, j2⟩ := i3 (by omega) h'
        have eg : (b :: r)[lead (b :: r)] = r[lead r] := by simp only [e, List.getElem_cons_succ]
        rw [eg]
        refine ⟨fun hh => j1 (by omega), fun hh => ?_⟩
        rw [j2 (by omega), e, List.take_succ_cons, List.drop_succ_cons, valL, p7]
        congr 2
        rw [Nat.add_mul, Nat.add_assoc, Nat.mul_assoc 128]
        congr 2
        rw [Nat.mul_left_comm]
      · obtain rfl : k = 9 := by omega
        have step : numS (7 * 9) acc (b :: r) = (none, [], 3) := by rw [numS, if_pos (.inr (.inl ⟨rfl, by omega⟩))]
        rw [step]
        exact ⟨fun h => by omega, fun _ => rfl, fun h => by omega⟩
    · have e : lead (b :: r) = 0 := by rw [lead, if_neg h128]
      refine ⟨fun h => by rw [e] at h; simp at h, fun h => by omega, fun hl h => ?_⟩
      have eg : (b :: r)[lead (b :: r)] = b := by simp only [e, List.getElem_cons_zero]
      rw [eg, e]
      refine ⟨fun hh => ?_, fun hh => ?_⟩
      · rw [numS, if_pos (by omega)]
      · have hn : uNext (7 * k) acc b = acc + b.toNat % 128 * 2 ^ (7 * k) := by
          refine uNext_ok h0.1 ha ?_
          rcases Nat.lt_or_ge k 9 with hk9 | hk9
          · exact small56 (by omega) _
          · obtain rfl : k = 9 := by omega
            have : b.toNat % 128 ≤ 1 := by omega
            exact Nat.lt_of_le_of_lt (Nat.mul_le_mul_right _ this) (by decide +kernel)
        rw [numS, if_neg (by omega), if_pos (by omega), hn]
        show (some (acc + b.toNat % 128 * 2 ^ (7 * k)), r, (0 : Int)) = (some (acc + valL [b] * 2 ^ (7 * k)), r, 0)
        rw [show valL [b] = b.toNat % 128 by simp only [valL]; omega]
end Go.Proofs.Ytnldhkhnfodplaa
