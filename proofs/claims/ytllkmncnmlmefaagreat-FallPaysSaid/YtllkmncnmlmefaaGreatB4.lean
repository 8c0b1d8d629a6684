import Derived.Test.YtllkmncnmlmefaaGreatB3
namespace Go.Vc
open Go Go.RowKit
variable {β : Type} {r : β}

/-! ### The words, in plain laws -/
/-- a loop does what g says, if each round does, whatever smaller rounds do -/
theorem loop_ok {X : Type} {f : X → (X → Option β) → Option β} (μ : X → Nat) (R : X → Prop) (g : X → Option β)
    (h : ∀ z, R z → ∀ again : X → Option β, (∀ z', R z' → μ z' < μ z → again z' = g z') → f z again = g z) : ∀ (n : Nat) (z : X), R z → μ z < n → loopF n f z = g z
  | 0, z, _, hm => by omega
  | n + 1, z, hz, hm => h z hz _ fun z' hz' hm' => loop_ok μ R g h n z' hz' (by omega)
theorem loop_std {X : Type} {f : X → (X → Option β) → Option β} (μ : X → Nat) (R : X → Prop) (g : X → Option β) {z : X} (hz : R z) (hm : μ z < 18446744073709551616)
    (h : ∀ z, R z → ∀ again : X → Option β, (∀ z', R z' → μ z' < μ z → again z' = g z') → f z again = g z) : stdW.loop f z = g z :=
  loop_ok μ R g h FU z hz (by rw [FU_eq]; exact hm)
theorem both_eq [EqB β] (a : Option β) : bothF a a = a := by
  unfold bothF
  cases a with
  | none => rfl
  | some x => show (bif EqB.eq x x then some x else none) = some x; rw [(EqB.iff x x).2 rfl]; rfl
theorem idx_eq {α : Type} {l : List α} {i : Nat} (h : i < l.length) (K : α → Option β) : idxF l (i : Int) K = K l[i] := by
  unfold idxF
  rw [Int.toNat_natCast, List.getElem?_eq_getElem h]
  simp
theorem nz_eq {b : Int} (h : b ≠ 0) (K : Option β) : nzF b K = K := by unfold nzF; simp [h]
theorem nn_eq {b : Int} (h : 0 ≤ b) (K : Option β) : nnF b K = K := by unfold nnF; simp [h]
theorem room_eq {n b : Nat} (h : n ≤ 281474976710656) (h2 : n * b ≤ 140737488355328) (K : Option β) : roomF n b K = K := by unfold roomF; simp [h, h2]
theorem bnd_eq {i : Int} {n : Nat} (h : 0 ≤ i) (h2 : i ≤ n) (K : Nat → Option β) : bndF i n K = K i.toNat := by unfold bndF; simp [h, h2]
theorem join_eq {X : Type} (k : X → Option β) (f : (X → Option β) → Option β) : joinF k f = f k := rfl
theorem nilF_eq [EqB β] {e : Bool} {f : Bool → Option β} {b : Option β} (h0 : f false = b) (h1 : e = true → f true = b) : nilF e f = b := by
  unfold nilF
  cases e
  · exact h0
  · simp only [cond_true]; rw [h0, h1 rfl, both_eq]
end Go.Vc

namespace Go.Vc
open Go Go.RowKit
abbrev BigT := Bool × List Int × Unit
theorem drop_cons' {α : Type} (l : List α) (i : Nat) (h : i < l.length) : l.drop i = l[i] :: l.drop (i + 1) := List.drop_eq_getElem_cons h
/-! ### bits, the lowest first (plain) -/
def bitsOf (n : Nat) : List Int := if h : n = 0 then [] else ((n % 2 : Nat) : Int) :: bitsOf (n / 2)
termination_by n
decreasing_by omega
theorem bits0 : bitsOf 0 = [] := by rw [bitsOf]; rfl
theorem bitsS {n : Nat} (h : n ≠ 0) : bitsOf n = ((n % 2 : Nat) : Int) :: bitsOf (n / 2) := by rw [bitsOf]; simp [h]
def valB : List Int → Nat
  | [] => 0
  | x :: l => x.toNat + 2 * valB l
def bitL (l : List Int) : Prop := ∀ x ∈ l, x = 0 ∨ x = 1
def Nrm (l : List Int) : Prop := bitsOf (valB l) = l
theorem valB_bits (n : Nat) : valB (bitsOf n) = n := by
  induction n using Nat.strongRecOn with
  | ind n ih =>
    by_cases h : n = 0
    · subst h; rw [bits0]; rfl
    · rw [bitsS h, valB, ih (n / 2) (by omega)]; omega
theorem nrm_bits (n : Nat) : Nrm (bitsOf n) := by unfold Nrm; rw [valB_bits]
theorem bitL_bits (n : Nat) : bitL (bitsOf n) := by
  induction n using Nat.strongRecOn with
  | ind n ih =>
    by_cases h : n = 0
    · subst h; rw [bits0]; intro x hx; cases hx
    · rw [bitsS h]; intro x hx
      rcases List.mem_cons.1 hx with rfl | hx
      · omega
      · exact ih (n / 2) (by omega) x hx
theorem Nrm.bits {l : List Int} (h : Nrm l) : bitL l := h ▸ bitL_bits _
theorem bits_len (k : Nat) : ∀ n, n < 2 ^ k → (bitsOf n).length ≤ k := by
  induction k with
  | zero => intro n h; have : n = 0 := by simp at h; exact h
            subst this; rw [bits0]; simp
  | succ k ih => intro n h; by_cases h0 : n = 0
                 · subst h0; rw [bits0]; simp
                 · rw [bitsS h0]; have := ih (n / 2) (by rw [Nat.pow_succ] at h; omega); simp; omega
theorem drop_step {xs : List Int} {i x : Nat} (h : xs.drop i = bitsOf x) (hi : i < xs.length) : xs[i] = ((x % 2 : Nat) : Int) ∧ xs.drop (i + 1) = bitsOf (x / 2) ∧ x ≠ 0 := by
  have hx : x ≠ 0 := by rintro rfl; rw [bits0] at h; have := congrArg List.length h; simp at this; omega
  rw [drop_cons' xs i hi, bitsS hx] at h
  exact ⟨(List.cons.inj h).1, (List.cons.inj h).2, hx⟩
theorem drop_end {xs : List Int} {i x : Nat} (h : xs.drop i = bitsOf x) (hi : ¬ i < xs.length) : x = 0 := by
  by_cases h0 : x = 0
  · exact h0
  · rw [bitsS h0, List.drop_eq_nil_of_le (by omega)] at h; cases h
theorem drop_any {xs : List Int} {i x : Nat} (h : xs.drop i = bitsOf x) : xs.drop (i + 1) = bitsOf (x / 2) := by
  by_cases hi : i < xs.length
  · exact (drop_step h hi).2.1
  · rw [drop_end h hi, List.drop_eq_nil_of_le (by omega)]; exact bits0.symm
theorem valB_app : ∀ (a b : List Int), valB (a ++ b) = valB a + 2 ^ a.length * valB b
  | [], b => by simp [valB]
  | x :: a, b => by simp only [List.cons_append, valB, valB_app a b, List.length_cons, Nat.pow_succ, Nat.mul_add]; rw [← Nat.mul_assoc 2, Nat.mul_comm 2 (2 ^ a.length)]; omega
theorem valB_lt : ∀ (a : List Int), bitL a → valB a < 2 ^ a.length
  | [], _ => by simp [valB]
  | x :: a, h => by
    have h1 := valB_lt a fun y hy => h y (by simp [hy])
    have := h x (by simp)
    simp only [valB, List.length_cons, Nat.pow_succ]; omega
/-- a row of bits with a last one that is 1 is what is printed of its number -/
theorem nrm_of : ∀ (l : List Int), bitL l → (∀ h : l ≠ [], l.getLast h = 1) → Nrm l ∧ (l ≠ [] → valB l ≠ 0)
  | [], _, _ => ⟨bits0, fun h => absurd rfl h⟩
  | x :: l, h, hl => by
    have hx := h x (by simp)
    have ih := nrm_of l (fun y hy => h y (by simp [hy])) (fun hn => by have := hl (by simp); rwa [List.getLast_cons hn] at this)
    have hv : valB (x :: l) ≠ 0 := by
      by_cases hn : l = []
      · subst hn; have := hl (by simp); simp at this; subst this; simp [valB]
      · have := ih.2 hn; simp only [valB]; omega
    refine ⟨?_, fun _ => hv⟩
    unfold Nrm; rw [bitsS hv]
    have h2 : valB (x :: l) / 2 = valB l := by simp only [valB]; omega
    have h3 : ((valB (x :: l) % 2 : Nat) : Int) = x := by simp only [valB]; omega
    rw [h2, h3, ih.1]
theorem bits_top : ∀ (n : Nat), n ≠ 0 → 2 ^ ((bitsOf n).length - 1) ≤ n := by
  intro n
  induction n using Nat.strongRecOn with
  | ind n ih =>
    intro h; rw [bitsS h]
    by_cases h2 : n / 2 = 0
    · rw [h2, bits0]; simp; omega
    · have h3 := ih (n / 2) (by omega) h2
      have h4 : (bitsOf (n / 2)).length ≠ 0 := by rw [bitsS h2]; simp
      have h5 : (bitsOf (n / 2)).length = (bitsOf (n / 2)).length - 1 + 1 := by omega
      simp only [List.length_cons, Nat.add_sub_cancel]
      rw [h5, Nat.pow_succ]; omega
theorem nrm_len {xs ys : List Int} (hx : Nrm xs) (hy : Nrm ys) (h : xs.length < ys.length) : valB xs < valB ys := by
  have h1 := valB_lt xs hx.bits
  have h2 : valB ys ≠ 0 := by intro h0; unfold Nrm at hy; rw [h0, bits0] at hy; subst hy; simp at h
  have h3 := bits_top _ h2
  unfold Nrm at hy; rw [hy] at h3
  have := Nat.pow_le_pow_right (n := 2) (by omega) (show xs.length ≤ ys.length - 1 by omega)
  omega
theorem valB_split (xs : List Int) (i : Nat) (h : i ≤ xs.length) : valB xs = valB (xs.take i) + 2 ^ i * valB (xs.drop i) := by
  have := valB_app (xs.take i) (xs.drop i)
  rw [List.take_append_drop, List.length_take, Nat.min_eq_left h] at this
  exact this
theorem valB_take_succ (xs : List Int) (i : Nat) (h : i < xs.length) : valB (xs.take (i + 1)) = valB (xs.take i) + 2 ^ i * (xs[i]).toNat := by
  rw [show xs.take (i + 1) = xs.take i ++ [xs[i]] by simp, valB_app]
  simp [valB, Nat.min_eq_left (Nat.le_of_lt h)]
theorem bitL_take {xs : List Int} (h : bitL xs) (i : Nat) : bitL (xs.take i) := fun x hx => h x (List.mem_of_mem_take hx)
theorem valB_cmp {xs ys : List Int} (hx : bitL xs) (hy : bitL ys) {i : Nat} (h1 : i < xs.length) (h2 : i < ys.length) (hd : xs.drop (i + 1) = ys.drop (i + 1)) (hn : xs[i] ≠ ys[i]) : decide (valB xs < valB ys) = decide (xs[i] < ys[i]) := by
  rw [valB_split xs (i + 1) (by omega), valB_split ys (i + 1) (by omega), hd, valB_take_succ xs i h1, valB_take_succ ys i h2]
  have b1 := valB_lt _ (bitL_take hx i); have b2 := valB_lt _ (bitL_take hy i)
  rw [List.length_take, Nat.min_eq_left (by omega)] at b1 b2
  rcases hx _ (List.getElem_mem h1) with e1 | e1 <;> rcases hy _ (List.getElem_mem h2) with e2 | e2 <;> rw [e1, e2] at hn ⊢ <;> first | exact absurd rfl hn | (simp; omega)
def bitsK : Nat → Nat → List Int
  | 0, _ => []
  | k + 1, n => ((n % 2 : Nat) : Int) :: bitsK k (n / 2)
theorem bitL_K : ∀ k n, bitL (bitsK k n)
  | 0, _ => by intro x hx; cases hx
  | k + 1, n => by
    intro x hx; rcases List.mem_cons.1 hx with rfl | hx
    · omega
    · exact bitL_K k _ x hx
theorem valB_K : ∀ k n, n < 2 ^ k → valB (bitsK k n) = n
  | 0, n, h => by simp at h; subst h; rfl
  | k + 1, n, h => by rw [bitsK, valB, valB_K k (n / 2) (by rw [Nat.pow_succ] at h; omega)]; omega
theorem len_K : ∀ k n, (bitsK k n).length = k
  | 0, _ => rfl
  | k + 1, n => by rw [bitsK, List.length_cons, len_K k]
theorem u8_add (a b : Nat) (h : a + b < 256) : IntKind.u8.wrap ((a : Int) + (b : Int)) = ((a + b : Nat) : Int) := by
  have : (a : Int) + b = ((a + b : Nat) : Int) := by omega
  rw [this]; simp only [IntKind.wrap, IntKind.signed, IntKind.bits]; simp; omega
theorem u8_is (a : Nat) (h : a < 256) : IntKind.u8.wrap (a : Int) = (a : Int) := by simp only [IntKind.wrap, IntKind.signed, IntKind.bits]; simp; omega
theorem u8_half (a : Nat) (h : a < 256) : IntKind.u8.wrap ((a : Int).tdiv 2) = ((a / 2 : Nat) : Int) := by
  rw [Int.tdiv_eq_ediv_of_nonneg (by omega), show (a : Int) / 2 = ((a / 2 : Nat) : Int) by omega, u8_is _ (by omega)]
theorem nat_mod2 (a : Nat) : ((a : Int).tmod 2) = ((a % 2 : Nat) : Int) := by rw [Int.tmod_eq_emod_of_nonneg (by omega)]; omega
theorem sum_step {x y c : Nat} {A : Nat} {s : List Int} (h : bitsOf A = s ++ bitsOf (x + y + c)) (hn : x + y ≠ 0) : bitsOf A = (s ++ [((((c + x % 2 + y % 2 : Nat)) % 2 : Nat) : Int)]) ++ bitsOf (x / 2 + y / 2 + (c + x % 2 + y % 2) / 2) := by
  rw [h, bitsS (show x + y + c ≠ 0 by omega), List.append_assoc, List.singleton_append, show (x + y + c) % 2 = (c + x % 2 + y % 2) % 2 by omega, show (x + y + c) / 2 = x / 2 + y / 2 + (c + x % 2 + y % 2) / 2 by omega]
def bigS (g : Bool) (n : Nat) : BigT := (g && decide (0 < n), bitsOf n, ())
def big (z : Int) : BigT := (decide (z < 0), bitsOf z.natAbs, ())
def bv (x : BigT) : Int := if x.1 then -(valB x.2.1 : Int) else valB x.2.1
theorem bv_big (z : Int) : bv (big z) = z := by unfold bv big; simp only [valB_bits, decide_eq_true_eq]; split <;> omega
def Nb (x : BigT) : Prop := x = big (bv x)
theorem nb_big (z : Int) : Nb (big z) := by unfold Nb; rw [bv_big]
theorem K_step {L i x y c : Nat} {D : Nat} {s : List Int} (h : bitsK L D = s ++ bitsK (L - i) (x - y - c)) (hi : i < L) (hc : c ≤ 1) (hle : y + c ≤ x) :
    bitsK L D = (s ++ [(((x % 2 + 2 - (c + y % 2)) % 2 : Nat) : Int)]) ++ bitsK (L - (i + 1)) (x / 2 - y / 2 - (if x % 2 + 2 - (c + y % 2) < 2 then 1 else 0)) := by
  rw [h, show L - i = (L - (i + 1)) + 1 by omega, bitsK, List.append_assoc, List.singleton_append]
  have h1 : (x - y - c) % 2 = (x % 2 + 2 - (c + y % 2)) % 2 := by omega
  have h2 : (x - y - c) / 2 = x / 2 - y / 2 - (if x % 2 + 2 - (c + y % 2) < 2 then 1 else 0) := by split <;> omega
  rw [h1, h2]
theorem K_le {x y c : Nat} (hc : c ≤ 1) (hle : y + c ≤ x) : y / 2 + (if x % 2 + 2 - (c + y % 2) < 2 then 1 else 0) ≤ x / 2 := by split <;> omega
theorem u8_dif (e : Int) (x t : Nat) (he : e = ((x % 2 : Nat) : Int)) (ht : t ≤ 2) : IntKind.u8.wrap ((IntKind.u8.wrap ((e) + (2))) - ((t : Nat) : Int)) = ((x % 2 + 2 - t : Nat) : Int) := by
  subst he
  rw [show (((x % 2 : Nat) : Int)) + (2) = ((x % 2 + 2 : Nat) : Int) by omega, u8_is _ (by omega), show ((x % 2 + 2 : Nat) : Int) - ((t : Nat) : Int) = ((x % 2 + 2 - t : Nat) : Int) by omega, u8_is _ (by omega)]
theorem less_len {xs ys : List Int} (hx : Nrm xs) (hy : Nrm ys) (h : ¬ xs.length = ys.length) : decide (valB xs < valB ys) = decide ((xs.length : Int) < (ys.length : Int)) := by
  rcases Nat.lt_or_gt_of_ne h with h | h
  · have := nrm_len hx hy h; rw [decide_eq_true this, decide_eq_true (by omega)]
  · have := nrm_len hy hx h; rw [decide_eq_false (by omega), decide_eq_false (by omega)]
theorem i64_pred (i : Nat) (h : 0 < i) (h2 : i ≤ maxLen) : IntKind.i64.wrap (((i : Int)) - (1)) = ((i - 1 : Nat) : Int) := by
  rw [maxLen_eq] at h2; rw [IntWalk.i64_in _ (by omega)]; omega
theorem trim_nrm {xs : List Int} {i : Nat} (h : bitL xs) (hi : i ≤ xs.length) (hl : i = 0 ∨ ∃ h : i - 1 < xs.length, ¬ xs[i - 1] = 0) : Nrm (xs.take i) ∧ (i ≠ 0 → valB (xs.take i) ≠ 0) := by
  rcases hl with rfl | ⟨hl, hn⟩
  · exact ⟨by simp only [List.take_zero]; exact bits0, fun h => absurd rfl h⟩
  · have h0 := nrm_of (xs.take i) (bitL_take h i) fun hne => by
      rw [List.getLast_eq_getElem]
      have : (xs.take i).length - 1 = i - 1 := by rw [List.length_take]; omega
      simp only [this, List.getElem_take]
      rcases h _ (List.getElem_mem hl) with e | e
      · exact absurd e hn
      · exact e
    refine ⟨h0.1, fun hi0 => h0.2 fun he => ?_⟩
    have := congrArg List.length he; rw [List.length_take, List.length_nil] at this; omega
theorem trim_eq {g : Bool} {xs : List Int} {i : Nat} (h : bitL xs) (hi : i ≤ xs.length) (hv : valB (xs.take i) = valB xs) (hl : i = 0 ∨ ∃ h : i - 1 < xs.length, ¬ xs[i - 1] = 0) : bigS g (valB xs) = (g && decide ((0 : Int) < (i : Int)), xs.take i, ()) := by
  obtain ⟨h1, h2⟩ := trim_nrm h hi hl
  unfold bigS; rw [← hv, h1]
  congr 2
  by_cases h0 : i = 0
  · subst h0; rfl
  · have := h2 h0; rw [decide_eq_true (by omega), decide_eq_true (by omega)]
theorem bigS_t (n : Nat) : bigS true n = big (-(n : Int)) := by unfold bigS big; rw [Int.natAbs_neg]; congr 1; simp
theorem bigS_f (n : Nat) : bigS false n = big (n : Int) := by unfold bigS big; congr 1
theorem nb_nrm {x : BigT} (h : Nb x) : Nrm x.2.1 := by rw [h]; exact nrm_bits _
theorem bv_t {x : BigT} (h : x.1 = true) : bv x = -(valB x.2.1 : Int) := by simp [bv, h]
theorem bv_f {x : BigT} (h : x.1 = false) : bv x = (valB x.2.1 : Int) := by simp [bv, h]
theorem bigS_is (g : Bool) (n : Nat) : bigS g n = big (if g = true then -(n : Int) else n) := by cases g <;> simp [bigS_t, bigS_f]
theorem add_same {x y : BigT} (h : x.1 = y.1) : big (bv x + bv y) = bigS x.1 (valB (bitsOf (valB x.2.1 + valB y.2.1))) := by
  rw [valB_bits, bigS_is]; congr 1
  cases hx : x.1 <;> rw [hx] at h
  · rw [bv_f hx, bv_f h.symm]; simp
  · rw [bv_t hx, bv_t h.symm]; simp; omega
theorem K_val {a b : List Int} (h : Nrm a) : valB (bitsK a.length (valB a - valB b)) = valB a - valB b := valB_K _ _ (by have := valB_lt a h.bits; omega)
theorem add_less {x y : BigT} (hy : Nrm y.2.1) (h : ¬ x.1 = y.1) (hl : valB x.2.1 < valB y.2.1) : big (bv x + bv y) = bigS y.1 (valB (bitsK y.2.1.length (valB y.2.1 - valB x.2.1))) := by
  rw [K_val hy, bigS_is]; congr 1
  cases hx : x.1 <;> cases hyn : y.1 <;> rw [hx, hyn] at h
  · exact absurd rfl h
  · rw [bv_f hx, bv_t hyn]; simp; omega
  · rw [bv_t hx, bv_f hyn]; simp; omega
  · exact absurd rfl h
theorem add_more {x y : BigT} (hx0 : Nrm x.2.1) (h : ¬ x.1 = y.1) (hl : ¬ valB x.2.1 < valB y.2.1) : big (bv x + bv y) = bigS x.1 (valB (bitsK x.2.1.length (valB x.2.1 - valB y.2.1))) := by
  rw [K_val hx0, bigS_is]; congr 1
  cases hx : x.1 <;> cases hyn : y.1 <;> rw [hx, hyn] at h
  · exact absurd rfl h
  · rw [bv_f hx, bv_t hyn]; simp; omega
  · rw [bv_t hx, bv_f hyn]; simp; omega
  · exact absurd rfl h
theorem neg_is (x : BigT) : big (-(bv x)) = bigS (!(x.1)) (valB x.2.1) := by
  rw [bigS_is]; congr 1
  cases hx : x.1
  · rw [bv_f hx]; simp
  · rw [bv_t hx]; simp
theorem neg_len {x : BigT} (h : Nb x) : (big (-(bv x))).2.1.length = x.2.1.length := by
  have h1 := congrArg (fun z => z.2.1.length) h
  simp only [big] at h1 ⊢; rw [Int.natAbs_neg, ← h1]
theorem len_big (z : Int) (h : z.natAbs < 2 ^ 200) : (big z).2.1.length ≤ 200 := bits_len 200 _ h
def cmpI (x y : BigT) : Int := if bv x - bv y = 0 then 0 else if bv x - bv y < 0 then -1 else 1
theorem big_len0 (z : Int) : (big z).2.1.length = 0 ↔ z = 0 := by
  constructor
  · intro h
    have : (big z).2.1 = [] := List.length_eq_zero_iff.1 h
    have h1 := congrArg valB this; simp only [big, valB_bits] at h1; simp only [valB] at h1; omega
  · rintro rfl; simp [big, bits0]
theorem u64_id (z : Int) (h : 0 ≤ z ∧ z < 18446744073709551616) : IntKind.u64.wrap z = z := by simp only [IntKind.wrap, IntKind.signed, IntKind.bits]; simp; omega
theorem of_neg {z : Int} (h : z < 0) (h2 : -9223372036854775808 ≤ z) : IntKind.u64.wrap (IntKind.i64.wrap (0 - (IntKind.i64.wrap ((z) + (1))))) = -(z + 1) := by
  rw [IntWalk.i64_in (z + 1) (by omega), IntWalk.i64_in _ (by omega), u64_id _ (by omega)]; omega
theorem of_negB {z : Int} (h : z < 0) (h2 : -9223372036854775808 ≤ z) {n : Int} (hn : n = -(z + 1)) : big z = (true, bitsOf (valB (bigS false n.toNat).2.1 + valB [1]), ()) := by
  have h1 : valB (bigS false n.toNat).2.1 = n.toNat := valB_bits _
  have h3 : valB [1] = 1 := rfl
  rw [h1, h3]; unfold big
  rw [decide_eq_true h, show z.natAbs = n.toNat + 1 by omega]
theorem nrm1 : Nrm [1] := by unfold Nrm; show bitsOf 1 = [1]; rw [bitsS (by omega), bits0]; rfl
end Go.Vc

namespace Go.Vc
open Go Go.RowKit
theorem i64_succ (i : Nat) (h : i < 9223372036854775807) : IntKind.i64.wrap ((i : Int) + 1) = ((i + 1 : Nat) : Int) := by rw [IntWalk.i64_in _ (by omega)]; omega
theorem u64_half (a : Nat) (h : a < 18446744073709551616) : IntKind.u64.wrap ((a : Int).tdiv 2) = ((a / 2 : Nat) : Int) := by
  rw [Int.tdiv_eq_ediv_of_nonneg (by omega), show (a : Int) / 2 = ((a / 2 : Nat) : Int) by omega]; exact u64_id _ (by omega)
noncomputable def natW (W : Wd) (u : Int) : Option BigT :=
 W.loop (fun (z1 : Int × List (Int) × Unit) again2 =>
  W.cnd (decide (0 < z1.1)) (W.nz 2 (W.room (z1.2.1.length + ((IntKind.u8.wrap (Int.tmod z1.1 2)) :: []).length) 1 (W.nz 2 ((again2 ((IntKind.u64.wrap (Int.tdiv z1.1 2)), ((z1.2.1 ++ ((IntKind.u8.wrap (Int.tmod z1.1 2)) :: [])), ())))))))
   (some (false, (z1.2.1, ()))))
  (u, ([], ()))
theorem nat_is (u : Nat) (hu : u < 18446744073709551616) : natW stdW u = some (bigS false u) := by
  unfold natW
  have := loop_std (β := BigT) (f := fun (z1 : Int × List (Int) × Unit) again2 =>
    stdW.cnd (decide (0 < z1.1)) (stdW.nz 2 (stdW.room (z1.2.1.length + ((IntKind.u8.wrap (Int.tmod z1.1 2)) :: []).length) 1 (stdW.nz 2 ((again2 ((IntKind.u64.wrap (Int.tdiv z1.1 2)), ((z1.2.1 ++ ((IntKind.u8.wrap (Int.tmod z1.1 2)) :: [])), ())))))))
      (some (false, (z1.2.1, ())))) (z := ((u : Int), ([], ()))) (fun z => z.1.toNat) (fun z => 0 ≤ z.1 ∧ z.1 < 18446744073709551616 ∧ z.2.1.length + (bitsOf z.1.toNat).length ≤ 64) (fun z => some (false, z.2.1 ++ bitsOf z.1.toNat, ()))
    (by simp only [List.length_nil, Nat.zero_add, Int.toNat_natCast]; exact ⟨by omega, by omega, bits_len 64 _ (by omega)⟩) (by simpa using hu) ?_
  · rw [this]; simp [bigS]
  · rintro ⟨a, s, ⟨⟩⟩ ⟨h0, h1, h2⟩ again ha
    obtain ⟨n, rfl⟩ := Int.eq_ofNat_of_zero_le h0
    simp only [Int.toNat_natCast] at h2 ha h1 ⊢
    by_cases hn : n = 0
    · subst hn; simp [bits0]
    · have hd : decide ((0 : Int) < (n : Int)) = true := decide_eq_true (by omega)
      rw [bitsS hn] at h2 ⊢
      simp only [List.length_cons] at h2
      rw [hd]
      simp only [cond_true]
      rw [nz_eq (by omega), room_eq (by simp; omega) (by simp; omega), nz_eq (by omega), u64_half n (by omega), nat_mod2, u8_is _ (by omega)]
      rw [ha _ (by simp only [Int.toNat_natCast, List.length_append, List.length_singleton]; exact ⟨by omega, by omega, by omega⟩) (by simp only [Int.toNat_natCast]; omega)]
      simp only [Int.toNat_natCast, List.append_assoc, List.singleton_append]
end Go.Vc

namespace Go.Vc
open Go Go.RowKit
noncomputable def plusW (W : Wd) (a : List Int) (b : List Int) : Option (List Int) :=
 W.loop (fun (z1 : Int × Int × List (Int) × Unit) again2 =>
  W.join (fun (z3 : List (Int) × Unit) =>
   W.join (fun (z4 : Int × List (Int) × Unit) =>
    W.join (fun (z5 : Int × List (Int) × Unit) => W.nz 2 (W.room (z5.2.1.length + ((Int.tmod z5.1 2) :: []).length) 1 (W.nz 2 ((again2 ((IntKind.u8.wrap (Int.tdiv z5.1 2)), ((IntKind.i64.wrap (z1.2.1 + 1)), ((z5.2.1 ++ ((Int.tmod z5.1 2) :: [])), ()))))))))
     fun k6 =>
     W.cnd (decide (z1.2.1 < (b.length : Int))) (W.idx b z1.2.1 fun x7 => (k6 ((IntKind.u8.wrap (z4.1 + x7)), (z4.2.1, ()))))
      ((k6 (z4.1, (z4.2.1, ())))))
    fun k8 =>
    W.cnd (decide (z1.2.1 < (a.length : Int))) (W.idx a z1.2.1 fun x9 => (k8 ((IntKind.u8.wrap (z1.1 + x9)), (z3.1, ()))))
     ((k8 (z1.1, (z3.1, ())))))
   fun k10 =>
   W.cnd (decide (z1.2.1 < (a.length : Int))) ((k10 (z1.2.2.1, ())))
    (
    W.cnd (decide (z1.2.1 < (b.length : Int))) ((k10 (z1.2.2.1, ())))
     (
     W.join (fun (z11 : List (Int) × Unit) => some z11.1)
      fun k12 =>
      W.cnd (decide (0 < z1.1)) (W.room (z1.2.2.1.length + (z1.1 :: []).length) 1 ((k12 ((z1.2.2.1 ++ (z1.1 :: [])), ()))))
       ((k12 (z1.2.2.1, ()))))))
  (0, (0, ([], ())))
theorem plus_is {xs ys : List Int} (hx : Nrm xs) (hy : Nrm ys) (lx : xs.length ≤ 1000) (ly : ys.length ≤ 1000) : plusW stdW xs ys = some (bitsOf (valB xs + valB ys)) := by
  unfold plusW
  refine (loop_std (fun z => 2001 - z.2.1.toNat) (fun z => ∃ (i x y c : Nat) (s : List Int), z = ((c : Int), (i : Int), s, ()) ∧ xs.drop i = bitsOf x ∧ ys.drop i = bitsOf y ∧ c ≤ 1 ∧ bitsOf (valB xs + valB ys) = s ++ bitsOf (x + y + c) ∧ s.length = i ∧ i ≤ 1000)
    (fun _ => some (bitsOf (valB xs + valB ys))) ⟨0, valB xs, valB ys, 0, [], rfl, (by rw [List.drop_zero]; exact hx.symm), (by rw [List.drop_zero]; exact hy.symm), by omega, by simp, rfl, by omega⟩ (by simp) ?_)
  rintro _ ⟨i, x, y, c, s, rfl, hdx, hdy, hc, hsum, hsl, hi⟩ again ha
  simp only [join_eq]
  have go : ∀ (u v : Nat), (x % 2 = u) → (y % 2 = v) → (i < xs.length ∨ i < ys.length) → nzF 2 (roomF (s.length + [Int.tmod ((c + u + v : Nat) : Int) 2].length) 1 (nzF 2 (again (IntKind.u8.wrap (Int.tdiv ((c + u + v : Nat) : Int) 2), IntKind.i64.wrap ((i : Int) + 1), s ++ [Int.tmod ((c + u + v : Nat) : Int) 2], ())))) = some (bitsOf (valB xs + valB ys)) := by
    intro u v hu hv hlt
    have hn : x + y ≠ 0 := by
      rcases hlt with h | h
      · have := (drop_step hdx h).2.2; omega
      · have := (drop_step hdy h).2.2; omega
    rw [nz_eq (by omega), room_eq (by simp; omega) (by simp; omega), nz_eq (by omega), u8_half _ (by omega), nat_mod2, i64_succ i (by omega)]
    refine ha _ ⟨i + 1, x / 2, y / 2, (c + x % 2 + y % 2) / 2, s ++ [(((c + x % 2 + y % 2) % 2 : Nat) : Int)], ?_, drop_any hdx, drop_any hdy, by omega, ?_, by simp [hsl], by omega⟩ (by show 2001 - ((i + 1 : Nat) : Int).toNat < 2001 - ((i : Nat) : Int).toNat; omega)
    · subst hu; subst hv; rfl
    · subst hu; subst hv; exact sum_step hsum hn
  by_cases h1 : i < xs.length
  · have d1 : decide ((i : Int) < (xs.length : Int)) = true := decide_eq_true (by omega)
    simp only [d1, cond_true]
    rw [idx_eq h1, (drop_step hdx h1).1]
    by_cases h2 : i < ys.length
    · have d2 : decide ((i : Int) < (ys.length : Int)) = true := decide_eq_true (by omega)
      simp only [d2, cond_true]
      rw [idx_eq h2, (drop_step hdy h2).1, u8_add c _ (by omega), u8_add _ _ (by omega)]
      exact go _ _ rfl rfl (.inl h1)
    · have d2 : decide ((i : Int) < (ys.length : Int)) = false := decide_eq_false (by omega)
      simp only [d2, cond_false]
      rw [u8_add c _ (by omega)]
      have := go (x % 2) 0 rfl (by rw [drop_end hdy h2]) (.inl h1)
      simpa using this
  · have d1 : decide ((i : Int) < (xs.length : Int)) = false := decide_eq_false (by omega)
    simp only [d1, cond_false]
    by_cases h2 : i < ys.length
    · have d2 : decide ((i : Int) < (ys.length : Int)) = true := decide_eq_true (by omega)
      simp only [d2, cond_true]
      rw [idx_eq h2, (drop_step hdy h2).1, u8_add c _ (by omega)]
      have := go 0 (y % 2) (by rw [drop_end hdx h1]) rfl (.inr h2)
      simpa using this
    · have d2 : decide ((i : Int) < (ys.length : Int)) = false := decide_eq_false (by omega)
      simp only [d2, cond_false]
      rw [hsum, drop_end hdx h1, drop_end hdy h2]
      by_cases h3 : c = 0
      · subst h3; simp [bits0]
      · have : c = 1 := by omega
        subst this
        rw [room_eq (by simp; omega) (by simp; omega)]
        simp [bitsS, bits0]
end Go.Vc

namespace Go.Vc
open Go Go.RowKit
noncomputable def lessW (W : Wd) (a : List Int) (b : List Int) : Option Bool :=
 W.cnd ((a.length : Int) != (b.length : Int)) (some (decide ((a.length : Int) < (b.length : Int))))
  (
  W.loop (fun (z1 : Int × Unit) again2 =>
   W.cnd (decide (0 < z1.1)) (W.idx a (IntKind.i64.wrap (z1.1 - 1)) fun x3 => W.idx b (IntKind.i64.wrap (z1.1 - 1)) fun x4 =>
    W.cnd (x3 != x4) (W.idx a (IntKind.i64.wrap (z1.1 - 1)) fun x5 => W.idx b (IntKind.i64.wrap (z1.1 - 1)) fun x6 => some (decide (x5 < x6)))
     ((again2 ((IntKind.i64.wrap (z1.1 - 1)), ()))))
    (some false))
   ((a.length : Int), ()))
theorem less_is {xs ys : List Int} (hx : Nrm xs) (hy : Nrm ys) (lx : xs.length ≤ 1000) (ly : ys.length ≤ 1000) : lessW stdW xs ys = some (decide (valB xs < valB ys)) := by
  unfold lessW
  by_cases hl : xs.length = ys.length
  · have e0 : ((xs.length : Int) != (ys.length : Int)) = false := by simp [hl]
    simp only [e0, cond_false]
    refine (loop_std (fun z => z.1.toNat) (fun z => ∃ i : Nat, z = ((i : Int), ()) ∧ i ≤ xs.length ∧ xs.drop i = ys.drop i) (fun _ => some (decide (valB xs < valB ys))) ⟨xs.length, rfl, Nat.le_refl _, by rw [List.drop_eq_nil_of_le (Nat.le_refl _), List.drop_eq_nil_of_le (by omega)]⟩ (by simp only [Int.toNat_natCast]; omega) ?_)
    rintro _ ⟨i, rfl, hi, hd⟩ again ha
    by_cases h0 : i = 0
    · subst h0
      rw [List.drop_zero, List.drop_zero] at hd
      subst hd
      simp
    · have d0 : decide ((0 : Int) < (i : Int)) = true := decide_eq_true (by omega)
      simp only [d0, cond_true]
      have hm : i - 1 < xs.length := by omega
      have hm' : i - 1 < ys.length := by omega
      have he : i - 1 + 1 = i := by omega
      rw [i64_pred i (by omega) (by rw [maxLen_eq]; omega), idx_eq hm, idx_eq hm']
      by_cases hq : xs[i - 1] = ys[i - 1]
      · have e1 : (xs[i - 1] != ys[i - 1]) = false := by simp [hq]
        rw [e1]
        simp only [cond_false]
        refine ha _ ⟨i - 1, rfl, by omega, ?_⟩ (by show ((i - 1 : Nat) : Int).toNat < (i : Int).toNat; omega)
        rw [drop_cons' xs _ hm, drop_cons' ys _ hm', hq, he, hd]
      · have e1 : (xs[i - 1] != ys[i - 1]) = true := by simp [hq]
        rw [e1]
        simp only [cond_true]
        rw [idx_eq hm, idx_eq hm', valB_cmp hx.bits hy.bits hm hm' (by rw [he]; exact hd) hq]
  · have e0 : ((xs.length : Int) != (ys.length : Int)) = true := by simp; omega
    simp only [e0, cond_true]
    rw [less_len hx hy hl]
end Go.Vc

namespace Go.Vc
open Go Go.RowKit
noncomputable def minusW (W : Wd) (a : List Int) (b : List Int) : Option (List Int) :=
 W.loop (fun (z1 : Int × Int × List (Int) × Unit) again2 =>
  W.cnd (decide (z1.2.1 < (a.length : Int))) (
   W.join (fun (z3 : Int × List (Int) × Unit) => W.idx a z1.2.1 fun x4 =>
    W.join (fun (z5 : Int × List (Int) × Unit) => W.nz 2 (W.room (z5.2.1.length + ((Int.tmod (IntKind.u8.wrap ((IntKind.u8.wrap (x4 + 2)) - z3.1)) 2) :: []).length) 1 ((again2 (z5.1, ((IntKind.i64.wrap (z1.2.1 + 1)), ((z5.2.1 ++ ((Int.tmod (IntKind.u8.wrap ((IntKind.u8.wrap (x4 + 2)) - z3.1)) 2) :: [])), ())))))))
     fun k6 =>
     W.cnd (decide ((IntKind.u8.wrap ((IntKind.u8.wrap (x4 + 2)) - z3.1)) < 2)) ((k6 (1, (z3.2.1, ()))))
      ((k6 (0, (z3.2.1, ())))))
    fun k7 =>
    W.cnd (decide (z1.2.1 < (b.length : Int))) (W.idx b z1.2.1 fun x8 => (k7 ((IntKind.u8.wrap (z1.1 + x8)), (z1.2.2.1, ()))))
     ((k7 (z1.1, (z1.2.2.1, ())))))
   (some z1.2.2.1))
  (0, (0, ([], ())))
theorem minus_is {xs ys : List Int} (hx : Nrm xs) (hy : Nrm ys) (lx : xs.length ≤ 1000) (hle0 : valB ys ≤ valB xs) : minusW stdW xs ys = some (bitsK xs.length (valB xs - valB ys)) := by
  unfold minusW
  refine (loop_std (fun z => 2001 - z.2.1.toNat) (fun z => ∃ (i x y c : Nat) (s : List Int), z = ((c : Int), (i : Int), s, ()) ∧ xs.drop i = bitsOf x ∧ ys.drop i = bitsOf y ∧ c ≤ 1 ∧ y + c ≤ x ∧ bitsK xs.length (valB xs - valB ys) = s ++ bitsK (xs.length - i) (x - y - c) ∧ s.length = i ∧ i ≤ xs.length)
    (fun _ => some (bitsK xs.length (valB xs - valB ys))) ⟨0, valB xs, valB ys, 0, [], rfl, (by rw [List.drop_zero]; exact hx.symm), (by rw [List.drop_zero]; exact hy.symm), by omega, by omega, by simp, rfl, by omega⟩ (by simp) ?_)
  rintro _ ⟨i, x, y, c, s, rfl, hdx, hdy, hc, hle, hsum, hsl, hi⟩ again ha
  simp only [join_eq]
  by_cases h1 : i < xs.length
  · have d1 : decide ((i : Int) < (xs.length : Int)) = true := decide_eq_true (by omega)
    simp only [d1, cond_true]
    have go : ∀ (t : Nat), t = c + y % 2 → (idxF xs (i : Int) fun x4 => bif decide (IntKind.u8.wrap (IntKind.u8.wrap (x4 + 2) - (t : Int)) < 2) then
        (nzF 2 (roomF (s.length + [Int.tmod (IntKind.u8.wrap (IntKind.u8.wrap (x4 + 2) - (t : Int))) 2].length) 1 (again (1, IntKind.i64.wrap ((i : Int) + 1), s ++ [Int.tmod (IntKind.u8.wrap (IntKind.u8.wrap (x4 + 2) - (t : Int))) 2], ())))) else
        (nzF 2 (roomF (s.length + [Int.tmod (IntKind.u8.wrap (IntKind.u8.wrap (x4 + 2) - (t : Int))) 2].length) 1 (again (0, IntKind.i64.wrap ((i : Int) + 1), s ++ [Int.tmod (IntKind.u8.wrap (IntKind.u8.wrap (x4 + 2) - (t : Int))) 2], ()))))) = some (bitsK xs.length (valB xs - valB ys)) := by
      intro t ht
      rw [idx_eq h1, u8_dif _ x t (drop_step hdx h1).1 (by omega), nat_mod2, i64_succ i (by omega)]
      have st := K_step hsum h1 hc hle
      rw [← ht] at st
      have kl := K_le (x := x) (y := y) hc hle
      rw [← ht] at kl
      have fin : ∀ c' : Nat, c' = (if x % 2 + 2 - t < 2 then 1 else 0) → nzF 2 (roomF (s.length + [(((x % 2 + 2 - t) % 2 : Nat) : Int)].length) 1 (again ((c' : Int), ((i + 1 : Nat) : Int), s ++ [(((x % 2 + 2 - t) % 2 : Nat) : Int)], ()))) = some (bitsK xs.length (valB xs - valB ys)) := by
        intro c' hc'
        rw [nz_eq (by omega), room_eq (by simp; omega) (by simp; omega)]
        refine ha _ ⟨i + 1, x / 2, y / 2, c', s ++ [(((x % 2 + 2 - t) % 2 : Nat) : Int)], rfl, drop_any hdx, drop_any hdy, by rw [hc']; split <;> omega, by rw [hc']; exact kl, by rw [hc']; exact st, by simp [hsl], by omega⟩ (by show 2001 - ((i + 1 : Nat) : Int).toNat < 2001 - ((i : Nat) : Int).toNat; omega)
      by_cases h2 : x % 2 + 2 - t < 2
      · have d2 : decide (((x % 2 + 2 - t : Nat) : Int) < 2) = true := decide_eq_true (by omega)
        rw [d2]; exact fin 1 (by rw [if_pos h2])
      · have d2 : decide (((x % 2 + 2 - t : Nat) : Int) < 2) = false := decide_eq_false (by omega)
        rw [d2]; exact fin 0 (by rw [if_neg h2])
    by_cases h2 : i < ys.length
    · have d2 : decide ((i : Int) < (ys.length : Int)) = true := decide_eq_true (by omega)
      simp only [d2, cond_true]
      rw [idx_eq h2, (drop_step hdy h2).1, u8_add c _ (by omega)]
      exact go _ rfl
    · have d2 : decide ((i : Int) < (ys.length : Int)) = false := decide_eq_false (by omega)
      simp only [d2, cond_false]
      exact go c (by rw [drop_end hdy h2]; simp)
  · have d1 : decide ((i : Int) < (xs.length : Int)) = false := decide_eq_false (by omega)
    simp only [d1, cond_false]
    rw [hsum, show xs.length - i = 0 by omega]
    simp [bitsK]
end Go.Vc

namespace Go.Vc
open Go Go.RowKit
variable {β : Type}
/-! ### loops over a list -/
theorem loop_list {α S : Type} {l : List α} (hl : l.length ≤ 9223372036854775807) {f : Int × S → (Int × S → Option β) → Option β} (Inv : Nat → S → Prop) (g : List α → S → Option β) {s0 : S} (h0 : Inv 0 s0)
    (hend : ∀ s (again : Int × S → Option β), Inv l.length s → f ((l.length : Int), s) again = g [] s)
    (hstep : ∀ i (h : i < l.length) s, Inv i s → ∀ again : Int × S → Option β, (∀ s', Inv (i + 1) s' → again (((i + 1 : Nat) : Int), s') = g (l.drop (i + 1)) s') → f ((i : Int), s) again = g (l[i] :: l.drop (i + 1)) s) :
    stdW.loop f (0, s0) = g l s0 := by
  refine (loop_std (fun z => (l.length + 1) - z.1.toNat) (fun z => ∃ i : Nat, z.1 = (i : Int) ∧ i ≤ l.length ∧ Inv i z.2) (fun z => g (l.drop z.1.toNat) z.2) ⟨0, rfl, by omega, h0⟩ (by show l.length + 1 - 0 < _; omega) ?_).trans ?_
  · rintro ⟨z, s⟩ ⟨i, hi, hle, hs⟩ again ha
    dsimp only at hi hs
    subst hi
    simp only [Int.toNat_natCast]
    by_cases h : i < l.length
    · rw [drop_cons' l i h]
      refine hstep i h s hs again fun s' hs' => ?_
      have := ha (((i + 1 : Nat) : Int), s') ⟨i + 1, rfl, by omega, hs'⟩ (by simp only [Int.toNat_natCast]; omega)
      simpa only [Int.toNat_natCast] using this
    · obtain rfl : i = l.length := by omega
      rw [List.drop_length]
      exact hend s again hs
  · simp
theorem cnd_lt {i n : Nat} (h : i < n) (a b : Option β) : stdW.cnd (decide ((i : Int) < (n : Int))) a b = a := by rw [decide_eq_true (by omega)]; rfl
theorem cnd_end {n : Nat} (a b : Option β) : stdW.cnd (decide ((n : Int) < (n : Int))) a b = b := by rw [decide_eq_false (by omega)]; rfl
theorem cnd_b {c : Bool} (a b : Option β) : stdW.cnd c a b = if c = true then a else b := by cases c <;> rfl
theorem cnd_y {c : Bool} (h : c = true) (a b : Option β) : stdW.cnd c a b = a := by subst h; rfl
theorem cnd_n {c : Bool} (h : c = false) (a b : Option β) : stdW.cnd c a b = b := by subst h; rfl
theorem idx_w {α : Type} {l : List α} {i : Nat} (h : i < l.length) (K : α → Option β) : stdW.idx l (i : Int) K = K l[i] := idx_eq h K
theorem nth_w {α : Type} {l : List α} {i : Nat} (h : i < l.length) (K : α → Option β) : stdW.nth l (Int.toNat (i : Int)) K = K l[i] := by
  show idxR l _ K = _
  unfold idxR
  rw [Int.toNat_natCast, List.getElem?_eq_getElem h]
theorem room_w {n b : Nat} (h : n ≤ 281474976710656) (h2 : n * b ≤ 140737488355328) (K : Option β) : stdW.room n b K = K := room_eq h h2 K
theorem nn_w {b : Int} (h : 0 ≤ b) (K : Option β) : stdW.nn b K = K := nn_eq h K
theorem both_w [EqB β] (a : Option β) : stdW.both a a = a := both_eq a
theorem join_w {X : Type} (k : X → Option β) (f : (X → Option β) → Option β) : stdW.join k f = f k := rfl
theorem bnd_w {i : Int} {n : Nat} (h : 0 ≤ i) (h2 : i ≤ n) (K : Nat → Option β) : stdW.bnd i n K = K i.toNat := bnd_eq h h2 K
theorem i64_s (i : Nat) (h : i < 9223372036854775807) : IntKind.i64.wrap ((i : Int) + 1) = ((i + 1 : Nat) : Int) := i64_succ i h
end Go.Vc
namespace Go.Vc
variable {β : Type}
/-- a loop that counts up to N -/
theorem loop_n {S : Type} {N : Nat} (hN : N < 9223372036854775807) {f : Int × S → (Int × S → Option β) → Option β} (Inv : Nat → S → Prop) (r : Option β) {s0 : S} (h0 : Inv 0 s0)
    (hend : ∀ s (again : Int × S → Option β), Inv N s → f (((N : Nat) : Int), s) again = r)
    (hstep : ∀ i, i < N → ∀ s, Inv i s → ∀ again : Int × S → Option β, (∀ s', Inv (i + 1) s' → again (((i + 1 : Nat) : Int), s') = r) → f ((i : Int), s) again = r) :
    stdW.loop f (0, s0) = r := by
  refine (loop_std (fun z => (N + 1) - z.1.toNat) (fun z => ∃ i : Nat, z.1 = (i : Int) ∧ i ≤ N ∧ Inv i z.2) (fun _ => r) ⟨0, rfl, by omega, h0⟩ (by show N + 1 - 0 < _; omega) ?_)
  rintro ⟨z, s⟩ ⟨i, hi, hle, hs⟩ again ha
  dsimp only at hi hs
  subst hi
  by_cases h : i < N
  · refine hstep i h s hs again fun s' hs' => ?_
    exact ha (((i + 1 : Nat) : Int), s') ⟨i + 1, rfl, by omega, hs'⟩ (by simp only [Int.toNat_natCast]; omega)
  · obtain rfl : i = N := by omega
    exact hend s again hs
/-! ### sums -/
def sumBy {α : Type} (f : α → Int) (l : List α) : Int := (l.map f).sum
theorem sumBy_cons {α : Type} (f : α → Int) (x : α) (l : List α) : sumBy f (x :: l) = f x + sumBy f l := by simp [sumBy]
theorem sumBy_in {α : Type} {f : α → Int} {B : Int} : ∀ {l : List α}, (∀ x ∈ l, -B ≤ f x ∧ f x ≤ B) → -(B * (l.length : Int)) ≤ sumBy f l ∧ sumBy f l ≤ B * (l.length : Int)
  | [], _ => by simp [sumBy]
  | x :: l, h => by
    have h1 := h x (by simp)
    have h2 := sumBy_in (l := l) fun w hw => h w (by simp [hw])
    rw [sumBy_cons, List.length_cons, Int.natCast_add, Int.mul_add]
    omega
theorem filter_take {α : Type} (p : α → Bool) (l : List α) (i : Nat) (h : i < l.length) : (l.take (i + 1)).filter p = (l.take i).filter p ++ (if p l[i] = true then [l[i]] else []) := by
  rw [show l.take (i + 1) = l.take i ++ [l[i]] by simp, List.filter_append]
  congr 1
  by_cases hp : p l[i] = true <;> simp [hp]
end Go.Vc

namespace Go.Vc
open Go Go.RowKit
noncomputable def trimW (W : Wd) (neg : Bool) (b : List Int) : Option BigT :=
 W.join (fun (z1 : Int × Unit) =>
  W.cnd neg (W.bnd z1.1 b.length fun h2 => some ((decide (0 < z1.1)), ((b.take h2), ())))
   (W.bnd z1.1 b.length fun h3 => some (false, ((b.take h3), ()))))
  fun k4 =>
  W.loop (fun (z5 : Int × Unit) again6 =>
   W.cnd (decide (0 < z5.1)) (W.idx b (IntKind.i64.wrap (z5.1 - 1)) fun x7 =>
    W.cnd (x7 == 0) ((again6 ((IntKind.i64.wrap (z5.1 - 1)), ())))
     ((k4 z5)))
    ((k4 z5)))
   ((b.length : Int), ())
theorem trim_is {g : Bool} {xs : List Int} (h : bitL xs) (lx : xs.length ≤ 1000) : trimW stdW g xs = some (bigS g (valB xs)) := by
  unfold trimW
  rw [join_w]
  refine (loop_std (fun z => z.1.toNat) (fun z => ∃ i : Nat, z = ((i : Int), ()) ∧ i ≤ xs.length ∧ valB (xs.take i) = valB xs) (fun _ => some (bigS g (valB xs))) ⟨xs.length, rfl, Nat.le_refl _, by rw [List.take_length]⟩ (by simp only [Int.toNat_natCast]; omega) ?_)
  rintro _ ⟨i, rfl, hi, hv⟩ again ha
  have out : (i = 0 ∨ ∃ h : i - 1 < xs.length, ¬ xs[i - 1] = 0) → (fun (z1 : Int × Unit) => stdW.cnd g (stdW.bnd z1.1 xs.length fun h2 => some ((decide (0 < z1.1)), ((xs.take h2), ()))) (stdW.bnd z1.1 xs.length fun h3 => some (false, ((xs.take h3), ())))) ((i : Int), ()) = some (bigS g (valB xs)) := by
    intro hl
    show stdW.cnd g (stdW.bnd (i : Int) xs.length fun h2 => some (decide ((0 : Int) < (i : Int)), (xs.take h2, ()))) (stdW.bnd (i : Int) xs.length fun h3 => some (false, (xs.take h3, ()))) = _
    rw [bnd_w (by omega) (by omega), bnd_w (by omega) (by omega), Int.toNat_natCast, trim_eq h hi hv hl]
    cases g
    · rw [cnd_n rfl]; rfl
    · rw [cnd_y rfl]; rfl
  generalize (fun (z1 : Int × Unit) => stdW.cnd g (stdW.bnd z1.1 xs.length fun h2 => some ((decide (0 < z1.1)), ((xs.take h2), ()))) (stdW.bnd z1.1 xs.length fun h3 => some (false, ((xs.take h3), ())))) = k at out ⊢
  show stdW.cnd (decide (0 < (i : Int))) (stdW.idx xs (IntKind.i64.wrap ((i : Int) - 1)) fun x7 => stdW.cnd (x7 == 0) (again (IntKind.i64.wrap ((i : Int) - 1), ())) (k ((i : Int), ()))) (k ((i : Int), ())) = _
  by_cases h0 : i = 0
  · rw [cnd_n (decide_eq_false (by omega))]
    exact out (.inl h0)
  · have hm : i - 1 < xs.length := by omega
    rw [cnd_y (decide_eq_true (by omega)), i64_pred i (by omega) (by rw [maxLen_eq]; omega), idx_w hm]
    by_cases hq : xs[i - 1] = 0
    · rw [cnd_y (by simp [hq])]
      refine ha _ ⟨i - 1, rfl, by omega, ?_⟩ (by show ((i - 1 : Nat) : Int).toNat < (i : Int).toNat; omega)
      have := valB_take_succ xs (i - 1) hm
      rw [show i - 1 + 1 = i by omega, hv, hq] at this
      simpa using this.symm
    · rw [cnd_n (by simp [hq])]
      exact out (.inr ⟨hm, hq⟩)
end Go.Vc

namespace Go.Proofs.YtllkmncnmlmefaaGreat
open Go Go.Vc Go.RowKit
/-! what functions with contracts by hand compute (the kernel can run it) -/
@[reducible] def tU0 : DT := (.pair (.int .i64) (.pair (.int .i64) .unit))
@[reducible] def tF0 : DT := (.pair tU0 (.pair (.int .i64) .unit))
abbrev U0' := Int × Int × Unit
abbrev F0' := U0' × Int × Unit
def insU (x : U0') : List U0' → List U0'
  | [] => [x]
  | y :: l => bif decide (x.1 < y.1) || (x.1 == y.1 && decide (x.2.1 < y.2.1)) then x :: y :: l else bif x.1 == y.1 && x.2.1 == y.2.1 then y :: l else y :: insU x l
def unitsOf (l : List F0') : List U0' := l.foldl (fun s x => insU x.1 s) []
def delO {α : Type} (l : List α) (i j : Int) : Option (List α × Unit) := bif decide (0 ≤ i) && decide (i < j) && decide (j ≤ l.length) then some (l.take i.toNat ++ l.drop j.toNat, ()) else none
def insO {α : Type} (bytes : Nat) (l : List α) (i : Int) (v : List α) : Option (List α × Unit) :=
  bif decide (0 ≤ i) && decide (i ≤ l.length) && Nat.ble ((l.length + 1) * bytes) 140737488355328 then (match v with | [x] => some (l.take i.toNat ++ x :: l.drop i.toNat, ()) | _ => none) else none
def add64 (x y c : Int) : Option (Int × Int × Unit) := if 0 ≤ x ∧ 0 ≤ y ∧ 0 ≤ c ∧ c ≤ 1 then some ((x + y + c) % 18446744073709551616, (x + y + c) / 18446744073709551616, ()) else none
def sub64 (x y b : Int) : Option (Int × Int × Unit) := if 0 ≤ x ∧ 0 ≤ y ∧ y < 18446744073709551616 ∧ 0 ≤ b ∧ b ≤ 1 then some ((x - y - b) % 18446744073709551616, if x < y + b then 1 else 0, ()) else none
abbrev KU2 := Int × Int × Unit
def leK (x y : KU2) : Bool := decide (x.1 < y.1) || (x.1 == y.1 && decide (x.2.1 ≤ y.2.1))
def insK (x : KU2) : List KU2 → List KU2
  | [] => [x]
  | y :: l => bif leK x y then x :: y :: l else y :: insK x l
def srtK : List KU2 → List KU2
  | [] => []
  | x :: l => insK x (srtK l)
def unitsort (l : List KU2) : Option (List KU2) := bif Nat.blt l.length 4611686018427387904 then some (srtK l) else none
def growO (l : List F0') (n : Int) : Option (List F0' × Unit) := bif decide (0 ≤ n) && decide ((l.length + n) * 24 ≤ 140737488355328) then some (l, ()) else none
/-- share.Fill, of which nothing is said (lives does not come there) -/
def sharefill (_ : Int) (_ : List Int) : Option (List Int × Int × Unit) := none
theorem insK_perm (x : KU2) : ∀ l, (insK x l).Perm (x :: l)
  | [] => .refl _
  | y :: l => by
    unfold insK
    cases leK x y with
    | true => exact .refl _
    | false => exact ((insK_perm x l).cons y).trans (.swap x y l)
theorem srtK_perm : ∀ l, (srtK l).Perm l
  | [] => .refl _
  | x :: l => (insK_perm x _).trans ((srtK_perm l).cons x)
theorem leK_tr {x y z : KU2} (h1 : leK x y = true) (h2 : leK y z = true) : leK x z = true := by
  simp only [leK, Bool.or_eq_true, Bool.and_eq_true, decide_eq_true_eq, beq_iff_eq] at *; omega
theorem leK_tot {x y : KU2} (h : leK x y = false) : leK y x = true := by
  simp only [leK, Bool.or_eq_false_iff, Bool.and_eq_false_imp, decide_eq_false_iff_not, beq_iff_eq, Bool.or_eq_true, Bool.and_eq_true, decide_eq_true_eq] at *; omega
theorem insK_srt (x : KU2) : ∀ {l : List KU2}, l.Pairwise (fun a b => leK a b = true) → (insK x l).Pairwise fun a b => leK a b = true
  | [], _ => by simp [insK]
  | y :: l, h => by
    obtain ⟨h1, h2⟩ := List.pairwise_cons.1 h
    unfold insK
    cases hxy : leK x y with
    | true => exact List.pairwise_cons.2 ⟨fun z hz => (List.mem_cons.1 hz).elim (fun e => e ▸ hxy) fun hz => leK_tr hxy (h1 z hz), h⟩
    | false => exact List.pairwise_cons.2 ⟨fun z hz => (List.mem_cons.1 ((insK_perm x l).mem_iff.1 hz)).elim (fun e => e ▸ leK_tot hxy) (h1 z), insK_srt x h2⟩
theorem srtK_srt : ∀ l, (srtK l).Pairwise fun a b => leK a b = true
  | [] => .nil
  | x :: l => insK_srt x (srtK_srt l)
namespace Lot
@[reducible] def tL0 : DT := (.pair (.int .i64) (.pair (.int .i64) (.pair (.int .i64) .unit)))
def lotdelete (l : List tL0.den) (i j : Int) : Option (List tL0.den × Unit) := delO l i j
def lotinsert (l : List tL0.den) (i : Int) (v : List tL0.den) : Option (List tL0.den × Unit) := insO 24 l i v
end Lot
theorem delO_s {α : Type} {l : List α} {i j : Int} {o : List α × Unit} (h : delO l i j = some o) : ∃ a b : Nat, i = a ∧ j = b ∧ a < b ∧ b ≤ l.length ∧ o = (l.take a ++ l.drop b, ()) := by
  unfold delO at h
  rcases bif_s h with ⟨hc, h⟩ | ⟨_, h⟩
  · simp only [Bool.and_eq_true, decide_eq_true_eq] at hc
    obtain ⟨⟨h0, h1⟩, h2⟩ := hc
    obtain ⟨a, rfl⟩ := Int.eq_ofNat_of_zero_le h0
    obtain ⟨b, rfl⟩ := Int.eq_ofNat_of_zero_le (by omega : 0 ≤ j)
    have h := Option.some.inj h
    exact ⟨a, b, rfl, rfl, by omega, by omega, by rw [← h]; rfl⟩
  · cases h
end Go.Proofs.YtllkmncnmlmefaaGreat
