import Derived.Test.YtnldhkhnfodplaaB3
namespace Go.Proofs.Ytnldhkhnfodplaa
open Go Go.Vc Go.RowKit
/-! ### bits, the lowest first (plain) -/
def bitsOf (n : Nat) : List Int := if h : n = 0 then [] else ((n % 2 : Nat) : Int) :: bitsOf (n / 2)
termination_by n
decreasing_by omega
theorem bits0 : bitsOf 0 = [] := by rw [bitsOf]; rfl
theorem bitsS {n : Nat} (h : n ≠ 0) : bitsOf n = ((n % 2 : Nat) : Int) :: bitsOf (n / 2) := by rw [bitsOf]; simp [h]
def valB : List Int → Nat
  | [] => 0
  | x :: l => x.toNat + 2 * valB l
def bitL (l : List Int) : Prop := ∀ x ∈ l, x = 0 ∨ x = 1
def Nrm (l : List Int) : Prop := bitsOf (valB l) = l
theorem valB_bits (n : Nat) : valB (bitsOf n) = n := by
  induction n using Nat.strongRecOn with
  | ind n ih =>
    by_cases h : n = 0
    · subst h; rw [bits0]; rfl
    · rw [bitsS h, valB, ih (n / 2) (by omega)]; omega
theorem nrm_bits (n : Nat) : Nrm (bitsOf n) := by unfold Nrm; rw [valB_bits]
theorem bitL_bits (n : Nat) : bitL (bitsOf n) := by
  induction n using Nat.strongRecOn with
  | ind n ih =>
    by_cases h : n = 0
    · subst h; rw [bits0]; intro x hx; cases hx
    · rw [bitsS h]; intro x hx
      rcases List.mem_cons.1 hx with rfl | hx
      · omega
      · exact ih (n / 2) (by omega) x hx
theorem Nrm.bits {l : List Int} (h : Nrm l) : bitL l := h ▸ bitL_bits _
theorem bits_len (k : Nat) : ∀ n, n < 2 ^ k → (bitsOf n).length ≤ k := by
  induction k with
  | zero => intro n h; have : n = 0 := by simp at h; exact h
            subst this; rw [bits0]; simp
  | succ k ih => intro n h; by_cases h0 : n = 0
                 · subst h0; rw [bits0]; simp
                 · rw [bitsS h0]; have := ih (n / 2) (by rw [Nat.pow_succ] at h; omega); simp; omega
theorem drop_step {xs : List Int} {i x : Nat} (h : xs.drop i = bitsOf x) (hi : i < xs.length) : xs[i] = ((x % 2 : Nat) : Int) ∧ xs.drop (i + 1) = bitsOf (x / 2) ∧ x ≠ 0 := by
  have hx : x ≠ 0 := by rintro rfl; rw [bits0] at h; have := congrArg List.length h; simp at this; omega
  rw [drop_cons' xs i hi, bitsS hx] at h
  exact ⟨(List.cons.inj h).1, (List.cons.inj h).2, hx⟩
theorem drop_end {xs : List Int} {i x : Nat} (h : xs.drop i = bitsOf x) (hi : ¬ i < xs.length) : x = 0 := by
  by_cases h0 : x = 0
  · exact h0
  · rw [bitsS h0, List.drop_eq_nil_of_le (by omega)] at h; cases h
theorem drop_any {xs : List Int} {i x : Nat} (h : xs.drop i = bitsOf x) : xs.drop (i + 1) = bitsOf (x / 2) := by
  by_cases hi : i < xs.length
  · exact (drop_step h hi).2.1
  · rw [drop_end h hi, List.drop_eq_nil_of_le (by omega)]; exact bits0.symm
theorem valB_app : ∀ (a b : List Int), valB (a ++ b) = valB a + 2 ^ a.length * valB b
  | [], b => by simp [valB]
  | x :: a, b => by simp only [List.cons_append, valB, valB_app a b, List.length_cons, Nat.pow_succ, Nat.mul_add]; rw [← Nat.mul_assoc 2, Nat.mul_comm 2 (2 ^ a.length)]; omega
theorem valB_lt : ∀ (a : List Int), bitL a → valB a < 2 ^ a.length
  | [], _ => by simp [valB]
  | x :: a, h => by
    have h1 := valB_lt a fun y hy => h y (by simp [hy])
    have := h x (by simp)
    simp only [valB, List.length_cons, Nat.pow_succ]; omega
/-- a row of bits with a last one that is 1 is what is printed of its number -/
theorem nrm_of : ∀ (l : List Int), bitL l → (∀ h : l ≠ [], l.getLast h = 1) → Nrm l ∧ (l ≠ [] → valB l ≠ 0)
  | [], _, _ => ⟨bits0, fun h => absurd rfl h⟩
  | x :: l, h, hl => by
    have hx := h x (by simp)
    have ih := nrm_of l (fun y hy => h y (by simp [hy])) (fun hn => by have := hl (by simp); rwa [List.getLast_cons hn] at this)
    have hv : valB (x :: l) ≠ 0 := by
      by_cases hn : l = []
      · subst hn; have := hl (by simp); simp at this; subst this; simp [valB]
      · have := ih.2 hn; simp only [valB]; omega
    refine ⟨?_, fun _ => hv⟩
    unfold Nrm; rw [bitsS hv]
    have h2 : valB (x :: l) / 2 = valB l := by simp only [valB]; omega
    have h3 : ((valB (x :: l) % 2 : Nat) : Int) = x := by simp only [valB]; omega
    rw [h2, h3, ih.1]
theorem bits_top : ∀ (n : Nat), n ≠ 0 → 2 ^ ((bitsOf n).length - 1) ≤ n := by
  intro n
  induction n using Nat.strongRecOn with
  | ind n ih =>
    intro h; rw [bitsS h]
    by_cases h2 : n / 2 = 0
    · rw [h2, bits0]; simp; omega
    · have h3 := ih (n / 2) (by omega) h2
      have h4 : (bitsOf (n / 2)).length ≠ 0 := by rw [bitsS h2]; simp
      have h5 : (bitsOf (n / 2)).length = (bitsOf (n / 2)).length - 1 + 1 := by omega
      simp only [List.length_cons, Nat.add_sub_cancel]
      rw [h5, Nat.pow_succ]; omega
theorem nrm_len {xs ys : List Int} (hx : Nrm xs) (hy : Nrm ys) (h : xs.length < ys.length) : valB xs < valB ys := by
  have h1 := valB_lt xs hx.bits
  have h2 : valB ys ≠ 0 := by intro h0; unfold Nrm at hy; rw [h0, bits0] at hy; subst hy; simp at h
  have h3 := bits_top _ h2
  unfold Nrm at hy; rw [hy] at h3
  have := Nat.pow_le_pow_right (n := 2) (by omega) (show xs.length ≤ ys.length - 1 by omega)
  omega
theorem valB_split (xs : List Int) (i : Nat) (h : i ≤ xs.length) : valB xs = valB (xs.take i) + 2 ^ i * valB (xs.drop i) := by
  have := valB_app (xs.take i) (xs.drop i)
  rw [List.take_append_drop, List.length_take, Nat.min_eq_left h] at this
  exact this
theorem valB_take_succ (xs : List Int) (i : Nat) (h : i < xs.length) : valB (xs.take (i + 1)) = valB (xs.take i) + 2 ^ i * (xs[i]).toNat := by
  rw [show xs.take (i + 1) = xs.take i ++ [xs[i]] by simp, valB_app]
  simp [valB, Nat.min_eq_left (Nat.le_of_lt h)]
theorem bitL_take {xs : List Int} (h : bitL xs) (i : Nat) : bitL (xs.take i) := fun x hx => h x (List.mem_of_mem_take hx)
theorem valB_cmp {xs ys : List Int} (hx : bitL xs) (hy : bitL ys) {i : Nat} (h1 : i < xs.length) (h2 : i < ys.length) (hd : xs.drop (i + 1) = ys.drop (i + 1)) (hn : xs[i] ≠ ys[i]) : decide (valB xs < valB ys) = decide (xs[i] < ys[i]) := by
  rw [valB_split xs (i + 1) (by omega), valB_split ys (i + 1) (by omega), hd, valB_take_succ xs i h1, valB_take_succ ys i h2]
  have b1 := valB_lt _ (bitL_take hx i); have b2 := valB_lt _ (bitL_take hy i)
  rw [List.length_take, Nat.min_eq_left (by omega)] at b1 b2
  rcases hx _ (List.getElem_mem h1) with e1 | e1 <;> rcases hy _ (List.getElem_mem h2) with e2 | e2 <;> rw [e1, e2] at hn ⊢ <;> first | exact absurd rfl hn | (simp; omega)
def bitsK : Nat → Nat → List Int
  | 0, _ => []
  | k + 1, n => ((n % 2 : Nat) : Int) :: bitsK k (n / 2)
theorem bitL_K : ∀ k n, bitL (bitsK k n)
  | 0, _ => by intro x hx; cases hx
  | k + 1, n => by
    intro x hx; rcases List.mem_cons.1 hx with rfl | hx
    · omega
    · exact bitL_K k _ x hx
theorem valB_K : ∀ k n, n < 2 ^ k → valB (bitsK k n) = n
  | 0, n, h => by simp at h; subst h; rfl
  | k + 1, n, h => by rw [bitsK, valB, valB_K k (n / 2) (by rw [Nat.pow_succ] at h; omega)]; omega
theorem len_K : ∀ k n, (bitsK k n).length = k
  | 0, _ => rfl
  | k + 1, n => by rw [bitsK, List.length_cons, len_K k]
theorem u8_add (a b : Nat) (h : a + b < 256) : IntKind.u8.wrap ((a : Int) + (b : Int)) = ((a + b : Nat) : Int) := by
  have : (a : Int) + b = ((a + b : Nat) : Int) := by omega
  rw [this]; simp only [IntKind.wrap, IntKind.signed, IntKind.bits]; simp; omega
theorem u8_is (a : Nat) (h : a < 256) : IntKind.u8.wrap (a : Int) = (a : Int) := by simp only [IntKind.wrap, IntKind.signed, IntKind.bits]; simp; omega
theorem u8_half (a : Nat) (h : a < 256) : IntKind.u8.wrap ((a : Int).tdiv 2) = ((a / 2 : Nat) : Int) := by
  rw [Int.tdiv_eq_ediv_of_nonneg (by omega), show (a : Int) / 2 = ((a / 2 : Nat) : Int) by omega, u8_is _ (by omega)]
theorem nat_mod2 (a : Nat) : ((a : Int).tmod 2) = ((a % 2 : Nat) : Int) := by rw [Int.tmod_eq_emod_of_nonneg (by omega)]; omega
theorem sum_step {x y c : Nat} {A : Nat} {s : List Int} (h : bitsOf A = s ++ bitsOf (x + y + c)) (hn : x + y ≠ 0) : bitsOf A = (s ++ [((((c + x % 2 + y % 2 : Nat)) % 2 : Nat) : Int)]) ++ bitsOf (x / 2 + y / 2 + (c + x % 2 + y % 2) / 2) := by
  rw [h, bitsS (show x + y + c ≠ 0 by omega), List.append_assoc, List.singleton_append, show (x + y + c) % 2 = (c + x % 2 + y % 2) % 2 by omega, show (x + y + c) / 2 = x / 2 + y / 2 + (c + x % 2 + y % 2) / 2 by omega]
def bigS (g : Bool) (n : Nat) : Novationref01Big := ⟨g && decide (0 < n), bitsOf n⟩
def big (z : Int) : Novationref01Big := ⟨decide (z < 0), bitsOf z.natAbs⟩
def bv (x : Novationref01Big) : Int := if x.neg then -(valB x.b : Int) else valB x.b
theorem bv_big (z : Int) : bv (big z) = z := by unfold bv big; simp only [valB_bits, decide_eq_true_eq]; split <;> omega
def Nb (x : Novationref01Big) : Prop := x = big (bv x)
theorem nb_big (z : Int) : Nb (big z) := by unfold Nb; rw [bv_big]
end Go.Proofs.Ytnldhkhnfodplaa

namespace Go.Proofs.Ytnldhkhnfodplaa
open Go Go.Vc Go.RowKit
theorem u64_half (a : Nat) (h : a < 18446744073709551616) : IntKind.u64.wrap ((a : Int).tdiv 2) = ((a / 2 : Nat) : Int) := by
  rw [Int.tdiv_eq_ediv_of_nonneg (by omega), show (a : Int) / 2 = ((a / 2 : Nat) : Int) by omega]
  simp only [IntKind.wrap, IntKind.signed, IntKind.bits]; simp; omega
set_option maxRecDepth 100000 in
theorem natB_ct (n : Int) (ha0 : 0 ≤ n) (hb0 : n < 18446744073709551616) : Ct Try.prog 152 [.val (.int .u64 n)] (.agg (Novationref01Big.r (bigS false (n).toNat))) := by
  refine ct_startT [] [] Try.func152 rfl (by decide +kernel) rfl ?_
  intro U w H
  intro b1 hb1
  have H := H.box hb1
  refine ⟨[0, 3, 4, 5, 6, 7, 8, 9, 10, 11, 12, 13],
    { X := (Nat) × (List Int) × (Option Addr) × (Nat), slots := [0, 3], vals := fun (m, s, ra, rc) => [.int .u64 ((m : Int)), .slc ra s.length rc], boxes := [], cells := fun (m, s, ra, rc) => [],
      inv := fun (m, s, ra, rc) w' => Ctx w U [] [b1] [Own.row 5 1 ra rc ((s).map (fun x => [R.val (.int .u8 x)]))] [] w' ∧ (bitsOf n.toNat = s ++ bitsOf m ∧ m < 18446744073709551616), μ := fun (m, s, ra, rc) => m }, by kernel_rfl, ?_, ?_, ?_⟩
  · rintro ⟨m, s, ra, rc⟩; exact ⟨⟨trivial, trivial, trivial⟩, trivial⟩
  · intro w' t
    have H := H.newRow 5 1
    refine ⟨⟨n.toNat, [], none, 0⟩, (by rw [Int.toNat_of_nonneg ha0]), rfl, rfl, H.fin t 1 _, ?_⟩
    exact ⟨rfl, by omega⟩
  · rintro ⟨m, s, ra, rc⟩ w' ⟨H, hI⟩
    obtain ⟨hb, hm⟩ := hI
    have hlen : s.length ≤ 64 := by have h1 := congrArg List.length hb; have h2 := bits_len 64 n.toNat (by omega); simp at h1; omega
    apply And.intro <;> intro q2
    · have q2' := of_decide_eq_true q2
      refine ⟨by decide, ?_⟩
      intro w' t
      refine Ctx.lit elemOk41 H t (els := [[.val (.int .u8 (IntKind.u8.wrap (((m : Int)).tmod (2))))]]) [.int .u8 (IntKind.u8.wrap (((m : Int)).tmod (2)))] rfl (⟨rfl, ⟨⟨rfl, trivial⟩, rfl⟩, trivial⟩) rfl (by decide) (by decide) ?_
      intro lb3 w' H
      intro w' t
      refine H.ap (a2 := (some ⟨lb3, 0, none⟩)) (m := 1) (c2 := 1) (news := ([(IntKind.u8.wrap (((m : Int)).tmod (2)))]).map (fun x => [R.val (.int .u8 x)])) t elemOk41 (by simp) (by first | (rw [maxLen_eq]; simp; omega) | (rw [maxLen_eq]; simp at *; omega)) (by first | (simp; omega) | (simp at *; omega)) ?_ (hm := by repeat (first | exact List.Mem.head _ | apply List.Mem.tail))
      intro a4 c5 w' H hl6
      have H := H.rowEq (((s ++ [(IntKind.u8.wrap (((m : Int)).tmod (2)))])).map (fun x => [R.val (.int .u8 x)])) (by first | (rw [List.map_append]; done) | simp)
      refine ⟨by decide, ?_⟩
      have H := H.rowEq (((s ++ [((m % 2 : Nat) : Int)])).map (fun x => [R.val (.int .u8 x)])) (by rw [nat_mod2, u8_is _ (by omega)])
      intro w' t
      refine ⟨⟨m / 2, (s ++ [((m % 2 : Nat) : Int)]), a4, c5⟩, (by rw [u64_half _ hm]), (by first | rfl | exact xInc (by first | omega | (rw [maxLen_eq]; omega)) | simp), rfl, ⟨H.fin t 1 _, ?_⟩, ?_⟩
      · refine ⟨?_, by omega⟩
        rw [hb, bitsS (show m ≠ 0 by omega), List.append_assoc]; rfl
      · show m / 2 < m; omega
    · have q2' := of_decide_eq_false q2
      have hm0 : m = 0 := by omega
      have hr : bigS false n.toNat = ⟨false, s⟩ := by unfold bigS; rw [hb, hm0, bits0, List.append_nil]; rfl
      have H := Ctx.view (A := []) H
      have hv : ∀ l : List Int, (l.map (fun x => [R.val (.int .u8 x)])).length = l.length := fun l => by simp
      rw [hv] at H
      intro w' t
      rw [hr]
      exact H.r t
set_option maxRecDepth 100000 in
theorem plusB_ct (xs : List Int) (ys : List Int) (ha0 : Nrm xs) (hb0 : Nrm ys) (hc0 : xs.length ≤ 1000) (hd0 : ys.length ≤ 1000) : Ct Try.prog 148 [.sl 1 (xs.map (fun x => [R.val (.int .u8 x)])), .sl 1 (ys.map (fun x => [R.val (.int .u8 x)]))] (.sl 1 ((bitsOf (valB xs + valB ys)).map (fun x => [R.val (.int .u8 x)]))) := by
  refine ct_startT (cuts [8, 10]) [] Try.func148 rfl (by decide +kernel) rfl ?_
  intro a1 n2 c3 h4 h4l h4c a5 n6 c7 h8 h8l h8c U w H
  simp only [List.length_map] at h4
  simp only [List.length_map] at h8
  refine ⟨[5, 6, 7, 8, 9, 10, 11, 12, 13, 14, 15, 16, 17, 18, 19, 20, 21, 22, 23, 24, 25, 26, 27, 28, 29, 30, 31, 32, 33, 34, 35, 36, 37, 38, 39, 40, 41, 42, 43, 44, 45, 46],
    { X := (Nat) × (Nat) × (Nat) × (Nat) × (List Int) × (Option Addr) × (Nat), slots := [5, 6, 7], vals := fun (i, x, y, c, s, ra, rc) => [.slc ra s.length rc, .int .u8 ((c : Int)), .int .i64 ((i : Int))], boxes := [], cells := fun (i, x, y, c, s, ra, rc) => [],
      inv := fun (i, x, y, c, s, ra, rc) w' => Ctx w U [] [] [Own.row 5 1 ra rc ((s).map (fun x => [R.val (.int .u8 x)]))] [(.slice a1 n2 c3, .sl 1 ((xs).map (fun x => [R.val (.int .u8 x)]))), (.slice a5 n6 c7, .sl 1 ((ys).map (fun x => [R.val (.int .u8 x)])))] w' ∧ (xs.drop i = bitsOf x ∧ ys.drop i = bitsOf y ∧ c ≤ 1 ∧ bitsOf (valB xs + valB ys) = s ++ bitsOf (x + y + c) ∧ s.length = i ∧ i ≤ 1000), μ := fun (i, x, y, c, s, ra, rc) => x + y }, by kernel_rfl, ?_, ?_, ?_⟩
  · rintro ⟨i, x, y, c, s, ra, rc⟩; exact ⟨⟨trivial, trivial, trivial, trivial⟩, trivial⟩
  · intro w' t
    have H := H.newRow 5 1
    refine ⟨⟨0, valB xs, valB ys, 0, [], none, 0⟩, rfl, rfl, rfl, H.fin t 0 _, ?_⟩
    exact ⟨ha0.symm, hb0.symm, by omega, rfl, rfl, by omega⟩
  · rintro ⟨i, x, y, c, s, ra, rc⟩ w' ⟨H, hI⟩
    obtain ⟨hdx, hdy, hc1, hsum, hsl, hi⟩ := hI
    apply And.intro <;> intro q9
    · have q9' := of_decide_eq_false q9
      have hnx : ¬ i < xs.length := by omega
      apply And.intro <;> intro q10
      · have q10' := of_decide_eq_true q10
        have hiny : i < ys.length := by omega
        have hy0 := (drop_step hdy hiny).2.2
        refine ⟨[6, 20, 21, 22, 23, 24, 25, 26, 27, 28, 29],
          { X := Unit, slots := [6], vals := fun _ => [.int .u8 (((c + x % 2 : Nat) : Int))], boxes := [], cells := fun _ => [],
            inv := fun _ w' => Ctx w U [] [] [Own.row 5 1 ra rc ((s).map (fun x => [R.val (.int .u8 x)]))] [(.slice a1 n2 c3, .sl 1 ((xs).map (fun x => [R.val (.int .u8 x)]))), (.slice a5 n6 c7, .sl 1 ((ys).map (fun x => [R.val (.int .u8 x)])))] w' ∧ (True), μ := fun _ => 0 }, fun _ => [], by kernel_rfl, ?_, ?_, ?_⟩
        · rintro _; exact ⟨⟨trivial, trivial⟩, trivial⟩
        · apply And.intro <;> intro q11
          · have q11' := of_decide_eq_true q11
            have hinx : i < xs.length := by omega
            have hx0 := (drop_step hdx hinx).2.2
            refine H.at (a := a1) (n := n2) (c := c3) (els := (xs).map (fun x => [R.val (.int .u8 x)])) (i := ((i : Int)).toNat) (cs := [.val (.int .u8 (xs[i]'hinx))]) (by simp [hinx]) (Nat.succ_pos _) ?_
            intro ad12 hn13e hn13 H hat14l hat14
            refine ⟨ad12, hn13e, (by first | exact Int.natCast_nonneg _ | omega), (by first | omega | (simp; omega)), ?_⟩
            refine ⟨.int .u8 ((xs[i]'hinx)), hat14.1, Us.box (Us.ad hn13), ?_⟩
            intro w' t
            refine ⟨(), (by first | (rw [(drop_step hdx hinx).1, u8_add _ _ (by omega)]; done) | (simp [drop_end hdx hnx]; done)), H.fin t 0 _, ?_⟩
            trivial
          · have q11' := of_decide_eq_false q11
            have hnx : ¬ i < xs.length := by omega
            intro w' t
            refine ⟨(), (by first | (rw [(drop_step hdx hinx).1, u8_add _ _ (by omega)]; done) | (simp [drop_end hdx hnx]; done)), H.fin t 0 _, ?_⟩
            trivial
        · rintro _ w' ⟨H, hI⟩
          refine ⟨[6, 30, 31, 32, 33, 34, 35, 36, 37, 38, 39],
            { X := Unit, slots := [6], vals := fun _ => [.int .u8 (((c + x % 2 + y % 2 : Nat) : Int))], boxes := [], cells := fun _ => [],
              inv := fun _ w' => Ctx w U [] [] [Own.row 5 1 ra rc ((s).map (fun x => [R.val (.int .u8 x)]))] [(.slice a1 n2 c3, .sl 1 ((xs).map (fun x => [R.val (.int .u8 x)]))), (.slice a5 n6 c7, .sl 1 ((ys).map (fun x => [R.val (.int .u8 x)])))] w' ∧ (True), μ := fun _ => 0 }, fun _ => [], by kernel_rfl, ?_, ?_, ?_⟩
          · rintro _; exact ⟨⟨trivial, trivial⟩, trivial⟩
          · apply And.intro <;> intro q15
            · have q15' := of_decide_eq_true q15
              have hiny : i < ys.length := by omega
              have hy0 := (drop_step hdy hiny).2.2
              refine H.at (a := a5) (n := n6) (c := c7) (els := (ys).map (fun x => [R.val (.int .u8 x)])) (i := ((i : Int)).toNat) (cs := [.val (.int .u8 (ys[i]'hiny))]) (by simp [hiny]) (Nat.succ_pos _) ?_
              intro ad16 hn17e hn17 H hat18l hat18
              refine ⟨ad16, hn17e, (by first | exact Int.natCast_nonneg _ | omega), (by first | omega | (simp; omega)), ?_⟩
              refine ⟨.int .u8 ((ys[i]'hiny)), hat18.1, Us.box (Us.ad hn17), ?_⟩
              intro w' t
              refine ⟨(), (by first | (rw [(drop_step hdy hiny).1, u8_add _ _ (by omega)]; done) | (simp [drop_end hdy hny]; done)), H.fin t 0 _, ?_⟩
              trivial
            · have q15' := of_decide_eq_false q15
              have hny : ¬ i < ys.length := by omega
              intro w' t
              refine ⟨(), (by first | (rw [(drop_step hdy hiny).1, u8_add _ _ (by omega)]; done) | (simp [drop_end hdy hny]; done)), H.fin t 0 _, ?_⟩
              trivial
          · rintro _ w' ⟨H, hI⟩
            refine ⟨by decide, ?_⟩
            intro w' t
            refine Ctx.lit elemOk41 H t (els := [[.val (.int .u8 ((((c + x % 2 + y % 2 : Nat) : Int)).tmod (2)))]]) [.int .u8 ((((c + x % 2 + y % 2 : Nat) : Int)).tmod (2))] rfl (⟨rfl, ⟨⟨rfl, trivial⟩, rfl⟩, trivial⟩) rfl (by decide) (by decide) ?_
            intro lb19 w' H
            intro w' t
            refine H.ap (a2 := (some ⟨lb19, 0, none⟩)) (m := 1) (c2 := 1) (news := ([((((c + x % 2 + y % 2 : Nat) : Int)).tmod (2))]).map (fun x => [R.val (.int .u8 x)])) t elemOk41 (by simp) (by first | (rw [maxLen_eq]; simp; omega) | (rw [maxLen_eq]; simp at *; omega)) (by first | (simp; omega) | (simp at *; omega)) ?_ (hm := by repeat (first | exact List.Mem.head _ | apply List.Mem.tail))
            intro a20 c21 w' H hl22
            have H := H.rowEq (((s ++ [((((c + x % 2 + y % 2 : Nat) : Int)).tmod (2))])).map (fun x => [R.val (.int .u8 x)])) (by first | (rw [List.map_append]; done) | simp)
            refine ⟨by decide, ?_⟩
            have H := H.rowEq (((s ++ [(((c + x % 2 + y % 2) % 2 : Nat) : Int)])).map (fun x => [R.val (.int .u8 x)])) (by rw [nat_mod2])
            intro w' t
            refine ⟨⟨i + 1, x / 2, y / 2, (c + x % 2 + y % 2) / 2, (s ++ [(((c + x % 2 + y % 2) % 2 : Nat) : Int)]), a20, c21⟩, (by first | rfl | exact xInc (by first | omega | (rw [maxLen_eq]; omega)) | simp), (by rw [u8_half _ (by omega)]), (by first | rfl | exact xInc (by first | omega | (rw [maxLen_eq]; omega)) | simp), ⟨H.fin t 0 _, ?_⟩, ?_⟩
            · exact ⟨drop_any hdx, drop_any hdy, by omega, sum_step hsum (by omega), by simp [hsl], by omega⟩
            · show x / 2 + y / 2 < x + y; omega
      · have q10' := of_decide_eq_false q10
        have hny : ¬ i < ys.length := by omega
        apply And.intro <;> intro q23
        · have q23' := of_decide_eq_true q23
          have hr : bitsOf (valB xs + valB ys) = s ++ [(c : Int)] := by rw [hsum, drop_end hdx hnx, drop_end hdy hny, show c = 1 by omega, bitsS (by omega), bits0]
          intro w' t
          refine Ctx.lit elemOk41 H t (els := [[.val (.int .u8 ((c : Int)))]]) [.int .u8 ((c : Int))] rfl (⟨rfl, ⟨⟨rfl, trivial⟩, rfl⟩, trivial⟩) rfl (by decide) (by decide) ?_
          intro lb24 w' H
          intro w' t
          refine H.ap (a2 := (some ⟨lb24, 0, none⟩)) (m := 1) (c2 := 1) (news := ([((c : Int))]).map (fun x => [R.val (.int .u8 x)])) t elemOk41 (by simp) (by first | (rw [maxLen_eq]; simp; omega) | (rw [maxLen_eq]; simp at *; omega)) (by first | (simp; omega) | (simp at *; omega)) ?_ (hm := by repeat (first | exact List.Mem.head _ | apply List.Mem.tail))
          intro a25 c26 w' H hl27
          have H := H.rowEq (((s ++ [((c : Int))])).map (fun x => [R.val (.int .u8 x)])) (by first | (rw [List.map_append]; done) | simp)
          have H := Ctx.view (A := []) H
          have hv : ∀ l : List Int, (l.map (fun x => [R.val (.int .u8 x)])).length = l.length := fun l => by simp
          rw [hv] at H
          have H := Ctx.lenEq H ((s.length + 1)) (by first | rfl | simp)
          intro w' t
          rw [hr]
          exact H.r t
        · have q23' := of_decide_eq_false q23
          have hr : bitsOf (valB xs + valB ys) = s := by rw [hsum, drop_end hdx hnx, drop_end hdy hny, show c = 0 by omega, bits0, List.append_nil]
          have H := Ctx.view (A := []) H
          have hv : ∀ l : List Int, (l.map (fun x => [R.val (.int .u8 x)])).length = l.length := fun l => by simp
          rw [hv] at H
          intro w' t
          rw [hr]
          exact H.r t
    · have q9' := of_decide_eq_true q9
      have hinx : i < xs.length := by omega
      have hx0 := (drop_step hdx hinx).2.2
      refine ⟨[6, 20, 21, 22, 23, 24, 25, 26, 27, 28, 29],
        { X := Unit, slots := [6], vals := fun _ => [.int .u8 (((c + x % 2 : Nat) : Int))], boxes := [], cells := fun _ => [],
          inv := fun _ w' => Ctx w U [] [] [Own.row 5 1 ra rc ((s).map (fun x => [R.val (.int .u8 x)]))] [(.slice a1 n2 c3, .sl 1 ((xs).map (fun x => [R.val (.int .u8 x)]))), (.slice a5 n6 c7, .sl 1 ((ys).map (fun x => [R.val (.int .u8 x)])))] w' ∧ (True), μ := fun _ => 0 }, fun _ => [], by kernel_rfl, ?_, ?_, ?_⟩
      · rintro _; exact ⟨⟨trivial, trivial⟩, trivial⟩
      · apply And.intro <;> intro q28
        · have q28' := of_decide_eq_true q28
          have hinx : i < xs.length := by omega
          have hx0 := (drop_step hdx hinx).2.2
          refine H.at (a := a1) (n := n2) (c := c3) (els := (xs).map (fun x => [R.val (.int .u8 x)])) (i := ((i : Int)).toNat) (cs := [.val (.int .u8 (xs[i]'hinx))]) (by simp [hinx]) (Nat.succ_pos _) ?_
          intro ad29 hn30e hn30 H hat31l hat31
          refine ⟨ad29, hn30e, (by first | exact Int.natCast_nonneg _ | omega), (by first | omega | (simp; omega)), ?_⟩
          refine ⟨.int .u8 ((xs[i]'hinx)), hat31.1, Us.box (Us.ad hn30), ?_⟩
          intro w' t
          refine ⟨(), (by first | (rw [(drop_step hdx hinx).1, u8_add _ _ (by omega)]; done) | (simp [drop_end hdx hnx]; done)), H.fin t 0 _, ?_⟩
          trivial
        · have q28' := of_decide_eq_false q28
          have hnx : ¬ i < xs.length := by omega
          intro w' t
          refine ⟨(), (by first | (rw [(drop_step hdx hinx).1, u8_add _ _ (by omega)]; done) | (simp [drop_end hdx hnx]; done)), H.fin t 0 _, ?_⟩
          trivial
      · rintro _ w' ⟨H, hI⟩
        refine ⟨[6, 30, 31, 32, 33, 34, 35, 36, 37, 38, 39],
          { X := Unit, slots := [6], vals := fun _ => [.int .u8 (((c + x % 2 + y % 2 : Nat) : Int))], boxes := [], cells := fun _ => [],
            inv := fun _ w' => Ctx w U [] [] [Own.row 5 1 ra rc ((s).map (fun x => [R.val (.int .u8 x)]))] [(.slice a1 n2 c3, .sl 1 ((xs).map (fun x => [R.val (.int .u8 x)]))), (.slice a5 n6 c7, .sl 1 ((ys).map (fun x => [R.val (.int .u8 x)])))] w' ∧ (True), μ := fun _ => 0 }, fun _ => [], by kernel_rfl, ?_, ?_, ?_⟩
        · rintro _; exact ⟨⟨trivial, trivial⟩, trivial⟩
        · apply And.intro <;> intro q32
          · have q32' := of_decide_eq_true q32
            have hiny : i < ys.length := by omega
            have hy0 := (drop_step hdy hiny).2.2
            refine H.at (a := a5) (n := n6) (c := c7) (els := (ys).map (fun x => [R.val (.int .u8 x)])) (i := ((i : Int)).toNat) (cs := [.val (.int .u8 (ys[i]'hiny))]) (by simp [hiny]) (Nat.succ_pos _) ?_
            intro ad33 hn34e hn34 H hat35l hat35
            refine ⟨ad33, hn34e, (by first | exact Int.natCast_nonneg _ | omega), (by first | omega | (simp; omega)), ?_⟩
            refine ⟨.int .u8 ((ys[i]'hiny)), hat35.1, Us.box (Us.ad hn34), ?_⟩
            intro w' t
            refine ⟨(), (by first | (rw [(drop_step hdy hiny).1, u8_add _ _ (by omega)]; done) | (simp [drop_end hdy hny]; done)), H.fin t 0 _, ?_⟩
            trivial
          · have q32' := of_decide_eq_false q32
            have hny : ¬ i < ys.length := by omega
            intro w' t
            refine ⟨(), (by first | (rw [(drop_step hdy hiny).1, u8_add _ _ (by omega)]; done) | (simp [drop_end hdy hny]; done)), H.fin t 0 _, ?_⟩
            trivial
        · rintro _ w' ⟨H, hI⟩
          refine ⟨by decide, ?_⟩
          intro w' t
          refine Ctx.lit elemOk41 H t (els := [[.val (.int .u8 ((((c + x % 2 + y % 2 : Nat) : Int)).tmod (2)))]]) [.int .u8 ((((c + x % 2 + y % 2 : Nat) : Int)).tmod (2))] rfl (⟨rfl, ⟨⟨rfl, trivial⟩, rfl⟩, trivial⟩) rfl (by decide) (by decide) ?_
          intro lb36 w' H
          intro w' t
          refine H.ap (a2 := (some ⟨lb36, 0, none⟩)) (m := 1) (c2 := 1) (news := ([((((c + x % 2 + y % 2 : Nat) : Int)).tmod (2))]).map (fun x => [R.val (.int .u8 x)])) t elemOk41 (by simp) (by first | (rw [maxLen_eq]; simp; omega) | (rw [maxLen_eq]; simp at *; omega)) (by first | (simp; omega) | (simp at *; omega)) ?_ (hm := by repeat (first | exact List.Mem.head _ | apply List.Mem.tail))
          intro a37 c38 w' H hl39
          have H := H.rowEq (((s ++ [((((c + x % 2 + y % 2 : Nat) : Int)).tmod (2))])).map (fun x => [R.val (.int .u8 x)])) (by first | (rw [List.map_append]; done) | simp)
          refine ⟨by decide, ?_⟩
          have H := H.rowEq (((s ++ [(((c + x % 2 + y % 2) % 2 : Nat) : Int)])).map (fun x => [R.val (.int .u8 x)])) (by rw [nat_mod2])
          intro w' t
          refine ⟨⟨i + 1, x / 2, y / 2, (c + x % 2 + y % 2) / 2, (s ++ [(((c + x % 2 + y % 2) % 2 : Nat) : Int)]), a37, c38⟩, (by first | rfl | exact xInc (by first | omega | (rw [maxLen_eq]; omega)) | simp), (by rw [u8_half _ (by omega)]), (by first | rfl | exact xInc (by first | omega | (rw [maxLen_eq]; omega)) | simp), ⟨H.fin t 0 _, ?_⟩, ?_⟩
          · exact ⟨drop_any hdx, drop_any hdy, by omega, sum_step hsum (by omega), by simp [hsl], by omega⟩
          · show x / 2 + y / 2 < x + y; omega
end Go.Proofs.Ytnldhkhnfodplaa

namespace Go.Proofs.Ytnldhkhnfodplaa
open Go Go.Vc Go.RowKit
theorem K_step {L i x y c : Nat} {D : Nat} {s : List Int} (h : bitsK L D = s ++ bitsK (L - i) (x - y - c)) (hi : i < L) (hc : c ≤ 1) (hle : y + c ≤ x) :
    bitsK L D = (s ++ [(((x % 2 + 2 - (c + y % 2)) % 2 : Nat) : Int)]) ++ bitsK (L - (i + 1)) (x / 2 - y / 2 - (if x % 2 + 2 - (c + y % 2) < 2 then 1 else 0)) := by
  rw [h, show L - i = (L - (i + 1)) + 1 by omega, bitsK, List.append_assoc, List.singleton_append]
  have h1 : (x - y - c) % 2 = (x % 2 + 2 - (c + y % 2)) % 2 := by omega
  have h2 : (x - y - c) / 2 = x / 2 - y / 2 - (if x % 2 + 2 - (c + y % 2) < 2 then 1 else 0) := by split <;> omega
  rw [h1, h2]
theorem K_le {x y c : Nat} (hc : c ≤ 1) (hle : y + c ≤ x) : y / 2 + (if x % 2 + 2 - (c + y % 2) < 2 then 1 else 0) ≤ x / 2 := by split <;> omega
theorem u8_dif (e : Int) (x t : Nat) (he : e = ((x % 2 : Nat) : Int)) (ht : t ≤ 2) : IntKind.u8.wrap ((IntKind.u8.wrap ((e) + (2))) - ((t : Nat) : Int)) = ((x % 2 + 2 - t : Nat) : Int) := by
  subst he
  rw [show (((x % 2 : Nat) : Int)) + (2) = ((x % 2 + 2 : Nat) : Int) by omega, u8_is _ (by omega), show ((x % 2 + 2 : Nat) : Int) - ((t : Nat) : Int) = ((x % 2 + 2 - t : Nat) : Int) by omega, u8_is _ (by omega)]
theorem less_len {xs ys : List Int} (hx : Nrm xs) (hy : Nrm ys) (h : ¬ xs.length = ys.length) : decide (valB xs < valB ys) = decide ((xs.length : Int) < (ys.length : Int)) := by
  rcases Nat.lt_or_gt_of_ne h with h | h
  · have := nrm_len hx hy h; rw [decide_eq_true this, decide_eq_true (by omega)]
  · have := nrm_len hy hx h; rw [decide_eq_false (by omega), decide_eq_false (by omega)]
theorem i64_pred (i : Nat) (h : 0 < i) (h2 : i ≤ maxLen) : IntKind.i64.wrap (((i : Int)) - (1)) = ((i - 1 : Nat) : Int) := by
  rw [maxLen_eq] at h2; rw [IntWalk.i64_in _ (by omega)]; omega
theorem trim_nrm {xs : List Int} {i : Nat} (h : bitL xs) (hi : i ≤ xs.length) (hl : i = 0 ∨ ∃ h : i - 1 < xs.length, ¬ xs[i - 1] = 0) : Nrm (xs.take i) ∧ (i ≠ 0 → valB (xs.take i) ≠ 0) := by
  rcases hl with rfl | ⟨hl, hn⟩
  · exact ⟨by simp only [List.take_zero]; exact bits0, fun h => absurd rfl h⟩
  · have h0 := nrm_of (xs.take i) (bitL_take h i) fun hne => by
      rw [List.getLast_eq_getElem]
      have : (xs.take i).length - 1 = i - 1 := by rw [List.length_take]; omega
      simp only [this, List.getElem_take]
      rcases h _ (List.getElem_mem hl) with e | e
      · exact absurd e hn
      · exact e
    refine ⟨h0.1, fun hi0 => h0.2 fun he => ?_⟩
    have := congrArg List.length he; rw [List.length_take, List.length_nil] at this; omega
theorem trim_eq {g : Bool} {xs : List Int} {i : Nat} (h : bitL xs) (hi : i ≤ xs.length) (hv : valB (xs.take i) = valB xs) (hl : i = 0 ∨ ∃ h : i - 1 < xs.length, ¬ xs[i - 1] = 0) : bigS g (valB xs) = ⟨g && decide ((0 : Int) < (i : Int)), xs.take i⟩ := by
  obtain ⟨h1, h2⟩ := trim_nrm h hi hl
  unfold bigS; rw [← hv, h1]
  congr 2
  by_cases h0 : i = 0
  · subst h0; rfl
  · have := h2 h0; rw [decide_eq_true (by omega), decide_eq_true (by omega)]
theorem trim_t {g : Bool} {xs : List Int} {i : Nat} (hg : g = true) (h : bitL xs) (hi : i ≤ xs.length) (hv : valB (xs.take i) = valB xs) (hl : i = 0 ∨ ∃ h : i - 1 < xs.length, ¬ xs[i - 1] = 0) : bigS g (valB xs) = ⟨decide ((0) < ((i : Int))), xs.take i⟩ := by rw [trim_eq h hi hv hl, hg]; rfl
theorem trim_f {g : Bool} {xs : List Int} {i : Nat} (hg : g = false) (h : bitL xs) (hi : i ≤ xs.length) (hv : valB (xs.take i) = valB xs) (hl : i = 0 ∨ ∃ h : i - 1 < xs.length, ¬ xs[i - 1] = 0) : bigS g (valB xs) = ⟨false, xs.take i⟩ := by rw [trim_eq h hi hv hl, hg]; rfl
set_option maxRecDepth 100000 in
theorem minusB_ct (xs : List Int) (ys : List Int) (ha0 : Nrm xs) (hb0 : Nrm ys) (hc0 : xs.length ≤ 1000) (hd0 : valB ys ≤ valB xs) : Ct Try.prog 150 [.sl 1 (xs.map (fun x => [R.val (.int .u8 x)])), .sl 1 (ys.map (fun x => [R.val (.int .u8 x)]))] (.sl 1 ((bitsK xs.length (valB xs - valB ys)).map (fun x => [R.val (.int .u8 x)]))) := by
  refine ct_startT (cuts [9, 13]) [] Try.func150 rfl (by decide +kernel) rfl ?_
  intro a1 n2 c3 h4 h4l h4c a5 n6 c7 h8 h8l h8c U w H
  simp only [List.length_map] at h4
  simp only [List.length_map] at h8
  refine ⟨[5, 6, 7, 8, 9, 10, 11, 12, 13, 14, 15, 16, 17, 18, 19, 20, 21, 22, 23, 24, 25, 26, 27, 28, 29, 30, 31, 32, 33, 34, 35, 36, 37, 38, 39, 40],
    { X := (Nat) × (Nat) × (Nat) × (Nat) × (List Int) × (Option Addr) × (Nat), slots := [5, 6, 7], vals := fun (i, x, y, c, s, ra, rc) => [.slc ra s.length rc, .int .u8 ((c : Int)), .int .i64 ((i : Int))], boxes := [], cells := fun (i, x, y, c, s, ra, rc) => [],
      inv := fun (i, x, y, c, s, ra, rc) w' => Ctx w U [] [] [Own.row 5 1 ra rc ((s).map (fun x => [R.val (.int .u8 x)]))] [(.slice a1 n2 c3, .sl 1 ((xs).map (fun x => [R.val (.int .u8 x)]))), (.slice a5 n6 c7, .sl 1 ((ys).map (fun x => [R.val (.int .u8 x)])))] w' ∧ (xs.drop i = bitsOf x ∧ ys.drop i = bitsOf y ∧ c ≤ 1 ∧ y + c ≤ x ∧ bitsK xs.length (valB xs - valB ys) = s ++ bitsK (xs.length - i) (x - y - c) ∧ s.length = i ∧ i ≤ xs.length), μ := fun (i, x, y, c, s, ra, rc) => xs.length - i }, by kernel_rfl, ?_, ?_, ?_⟩
  · rintro ⟨i, x, y, c, s, ra, rc⟩; exact ⟨⟨trivial, trivial, trivial, trivial⟩, trivial⟩
  · intro w' t
    have H := H.newRow 5 1
    refine ⟨⟨0, valB xs, valB ys, 0, [], none, 0⟩, rfl, rfl, rfl, H.fin t 0 _, ?_⟩
    exact ⟨ha0.symm, hb0.symm, by omega, hd0, rfl, rfl, by omega⟩
  · rintro ⟨i, x, y, c, s, ra, rc⟩ w' ⟨H, hI⟩
    obtain ⟨hdx, hdy, hc1, hle, hsum, hsl, hi⟩ := hI
    apply And.intro <;> intro q9
    · have q9' := of_decide_eq_true q9
      have hinx : i < xs.length := by omega
      refine ⟨[8, 17, 18, 19, 20, 21, 22, 23, 24, 25, 26],
        { X := Unit, slots := [8], vals := fun _ => [.int .u8 (((c + y % 2 : Nat) : Int))], boxes := [], cells := fun _ => [],
          inv := fun _ w' => Ctx w U [] [] [Own.row 5 1 ra rc ((s).map (fun x => [R.val (.int .u8 x)]))] [(.slice a1 n2 c3, .sl 1 ((xs).map (fun x => [R.val (.int .u8 x)]))), (.slice a5 n6 c7, .sl 1 ((ys).map (fun x => [R.val (.int .u8 x)])))] w' ∧ (True), μ := fun _ => 0 }, fun _ => [], by kernel_rfl, ?_, ?_, ?_⟩
      · rintro _; exact ⟨⟨trivial, trivial⟩, trivial⟩
      · apply And.intro <;> intro q10
        · have q10' := of_decide_eq_true q10
          have hiny : i < ys.length := by omega
          refine H.at (a := a5) (n := n6) (c := c7) (els := (ys).map (fun x => [R.val (.int .u8 x)])) (i := ((i : Int)).toNat) (cs := [.val (.int .u8 (ys[i]'hiny))]) (by simp [hiny]) (Nat.succ_pos _) ?_
          intro ad11 hn12e hn12 H hat13l hat13
          refine ⟨ad11, hn12e, (by first | exact Int.natCast_nonneg _ | omega), (by first | omega | (simp; omega)), ?_⟩
          refine ⟨.int .u8 ((ys[i]'hiny)), hat13.1, Us.box (Us.ad hn12), ?_⟩
          intro w' t
          refine ⟨(), (by first | (rw [(drop_step hdy hiny).1, u8_add _ _ (by omega)]; done) | (simp [drop_end hdy hny]; done)), H.fin t 0 _, ?_⟩
          trivial
        · have q10' := of_decide_eq_false q10
          have hny : ¬ i < ys.length := by omega
          intro w' t
          refine ⟨(), (by first | (rw [(drop_step hdy hiny).1, u8_add _ _ (by omega)]; done) | (simp [drop_end hdy hny]; done)), H.fin t 0 _, ?_⟩
          trivial
      · rintro _ w' ⟨H, hI⟩
        refine H.at (a := a1) (n := n2) (c := c3) (els := (xs).map (fun x => [R.val (.int .u8 x)])) (i := ((i : Int)).toNat) (cs := [.val (.int .u8 (xs[i]'hinx))]) (by simp [hinx]) (Nat.succ_pos _) ?_
        intro ad14 hn15e hn15 H hat16l hat16
        refine ⟨ad14, hn15e, (by first | exact Int.natCast_nonneg _ | omega), (by first | omega | (simp; omega)), ?_⟩
        refine ⟨.int .u8 ((xs[i]'hinx)), hat16.1, Us.box (Us.ad hn15), ?_⟩
        refine ⟨[6, 34, 35],
          { X := Unit, slots := [6], vals := fun _ => [.int .u8 ((((if x % 2 + 2 - (c + y % 2) < 2 then 1 else 0) : Nat) : Int))], boxes := [], cells := fun _ => [],
            inv := fun _ w' => Ctx w U [] [] [Own.row 5 1 ra rc ((s).map (fun x => [R.val (.int .u8 x)]))] [(.slice a1 n2 c3, .sl 1 ((xs).map (fun x => [R.val (.int .u8 x)]))), (.slice a5 n6 c7, .sl 1 ((ys).map (fun x => [R.val (.int .u8 x)])))] w' ∧ (True), μ := fun _ => 0 }, fun _ => [], by kernel_rfl, ?_, ?_, ?_⟩
        · rintro _; exact ⟨⟨trivial, trivial⟩, trivial⟩
        · have hd := u8_dif (xs[i]'hinx) x (c + y % 2) (drop_step hdx hinx).1 (by omega)
          apply And.intro <;> intro q17
          · have q17' := of_decide_eq_true q17
            have hd2 : x % 2 + 2 - (c + y % 2) < 2 := by rw [hd] at q17'; omega
            intro w' t
            refine ⟨(), (by simp [hd2]), H.fin t 0 _, ?_⟩
            trivial
          · have q17' := of_decide_eq_false q17
            have hd2 : ¬ x % 2 + 2 - (c + y % 2) < 2 := by rw [hd] at q17'; omega
            intro w' t
            refine ⟨(), (by simp [hd2]), H.fin t 0 _, ?_⟩
            trivial
        · rintro _ w' ⟨H, hI⟩
          have hd := u8_dif (xs[i]'hinx) x (c + y % 2) (drop_step hdx hinx).1 (by omega)
          refine ⟨by decide, ?_⟩
          intro w' t
          refine Ctx.lit elemOk41 H t (els := [[.val (.int .u8 ((IntKind.u8.wrap ((IntKind.u8.wrap (((xs[i]'hinx)) + (2))) - (((c + y % 2 : Nat) : Int)))).tmod (2)))]]) [.int .u8 ((IntKind.u8.wrap ((IntKind.u8.wrap (((xs[i]'hinx)) + (2))) - (((c + y % 2 : Nat) : Int)))).tmod (2))] rfl (⟨rfl, ⟨⟨rfl, trivial⟩, rfl⟩, trivial⟩) rfl (by decide) (by decide) ?_
          intro lb18 w' H
          intro w' t
          refine H.ap (a2 := (some ⟨lb18, 0, none⟩)) (m := 1) (c2 := 1) (news := ([((IntKind.u8.wrap ((IntKind.u8.wrap (((xs[i]'hinx)) + (2))) - (((c + y % 2 : Nat) : Int)))).tmod (2))]).map (fun x => [R.val (.int .u8 x)])) t elemOk41 (by simp) (by first | (rw [maxLen_eq]; simp; omega) | (rw [maxLen_eq]; simp at *; omega)) (by first | (simp; omega) | (simp at *; omega)) ?_ (hm := by repeat (first | exact List.Mem.head _ | apply List.Mem.tail))
          intro a19 c20 w' H hl21
          have H := H.rowEq (((s ++ [((IntKind.u8.wrap ((IntKind.u8.wrap (((xs[i]'hinx)) + (2))) - (((c + y % 2 : Nat) : Int)))).tmod (2))])).map (fun x => [R.val (.int .u8 x)])) (by first | (rw [List.map_append]; done) | simp)
          have H := H.rowEq (((s ++ [(((x % 2 + 2 - (c + y % 2)) % 2 : Nat) : Int)])).map (fun x => [R.val (.int .u8 x)])) (by rw [hd, nat_mod2])
          intro w' t
          refine ⟨⟨i + 1, x / 2, y / 2, (if x % 2 + 2 - (c + y % 2) < 2 then 1 else 0), (s ++ [(((x % 2 + 2 - (c + y % 2)) % 2 : Nat) : Int)]), a19, c20⟩, (by first | rfl | exact xInc (by first | omega | (rw [maxLen_eq]; omega)) | simp), (by first | rfl | exact xInc (by first | omega | (rw [maxLen_eq]; omega)) | simp), (by first | rfl | exact xInc (by first | omega | (rw [maxLen_eq]; omega)) | simp), ⟨H.fin t 0 _, ?_⟩, ?_⟩
          · exact ⟨drop_any hdx, drop_any hdy, by split <;> omega, K_le hc1 hle, K_step hsum hinx hc1 hle, by simp [hsl], by omega⟩
          · show xs.length - (i + 1) < xs.length - i; omega
    · have q9' := of_decide_eq_false q9
      have hr : bitsK xs.length (valB xs - valB ys) = s := by rw [hsum, show xs.length - i = 0 by omega]; simp [bitsK]
      have H := Ctx.view (A := []) H
      have hv : ∀ l : List Int, (l.map (fun x => [R.val (.int .u8 x)])).length = l.length := fun l => by simp
      rw [hv] at H
      intro w' t
      rw [hr]
      exact H.r t
set_option maxRecDepth 100000 in
theorem trimB_ct (sgn : Bool) (xs : List Int) (ha0 : bitL xs) : Ct Try.prog 147 [.val (.bool sgn), .sl 1 (xs.map (fun x => [R.val (.int .u8 x)]))] (.agg (Novationref01Big.r (bigS sgn (valB xs)))) := by
  refine ct_startT [] [] Try.func147 rfl (by decide +kernel) rfl ?_
  intro a1 n2 c3 h4 h4l h4c U w H
  simp only [List.length_map] at h4
  intro b5 hb5
  have H := H.box hb5
  refine ⟨[5, 8, 9, 10, 11, 12, 13, 14, 15, 16, 17, 18, 19],
    { X := (Nat), slots := [5], vals := fun i => [.int .i64 ((i : Int))], boxes := [], cells := fun i => [],
      inv := fun i w' => Ctx w U [] [b5] [] [(.slice a1 n2 c3, .sl 1 ((xs).map (fun x => [R.val (.int .u8 x)])))] w' ∧ (i ≤ xs.length ∧ valB (xs.take i) = valB xs), μ := fun i => i }, by kernel_rfl, ?_, ?_, ?_⟩
  · rintro i; exact ⟨⟨trivial, trivial⟩, trivial⟩
  · intro w' t
    refine ⟨n2, rfl, rfl, H.fin t 1 _, ?_⟩
    exact ⟨by omega, by rw [List.take_of_length_le (by omega)]⟩
  · rintro (i : Nat) w' ⟨H, hI⟩
    obtain ⟨hi, hv⟩ := hI
    apply And.intro <;> intro q6
    · have q6' := of_decide_eq_true q6
      have hx1 : i - 1 < xs.length := by omega
      have hw := i64_pred i (by omega) (by omega)
      refine H.at (a := a1) (n := n2) (c := c3) (els := (xs).map (fun x => [R.val (.int .u8 x)])) (i := (IntKind.i64.wrap (((i : Int)) - (1))).toNat) (cs := [.val (.int .u8 (xs[i - 1]'hx1))]) (by rw [hw]; simp [hx1]) (Nat.succ_pos _) ?_
      intro ad7 hn8e hn8 H hat9l hat9
      refine ⟨ad7, hn8e, (by rw [hw]; omega), (by rw [hw]; omega), ?_⟩
      refine ⟨.int .u8 ((xs[i - 1]'hx1)), hat9.1, Us.box (Us.ad hn8), ?_⟩
      apply And.intro <;> intro q10
      · have q10' := q10; simp at q10'
        have he : xs[i - 1]'hx1 = 0 := by simpa using q10
        intro w' t
        refine ⟨i - 1, (by rw [hw]), rfl, ⟨H.fin t 1 _, ?_⟩, ?_⟩
        · refine ⟨by omega, ?_⟩
          have h5 := valB_take_succ xs (i - 1) hx1
          rw [he, show i - 1 + 1 = i by omega, hv] at h5
          simpa using h5.symm
        · show i - 1 < i; omega
      · have q10' := q10; simp at q10'
        have hl : i = 0 ∨ ∃ h : i - 1 < xs.length, ¬ xs[i - 1] = 0 := .inr ⟨hx1, by simpa using q10⟩
        apply And.intro <;> intro q11
        · have hr := trim_t q11 ha0 hi hv hl
          refine ⟨by first | decide | omega, by omega, ?_⟩
          have H := H.pre (a := a1) (n := n2) (c := c3) (els := (xs).map (fun x => [R.val (.int .u8 x)])) (by repeat (first | exact List.Mem.head _ | apply List.Mem.tail)) (i) (by omega)
          rw [← List.map_take] at H
          intro w' t
          rw [hr]
          exact H.r t
        · have hr := trim_f q11 ha0 hi hv hl
          refine ⟨by first | decide | omega, by omega, ?_⟩
          have H := H.pre (a := a1) (n := n2) (c := c3) (els := (xs).map (fun x => [R.val (.int .u8 x)])) (by repeat (first | exact List.Mem.head _ | apply List.Mem.tail)) (i) (by omega)
          rw [← List.map_take] at H
          intro w' t
          rw [hr]
          exact H.r t
    · have q6' := of_decide_eq_false q6
      have hl : i = 0 ∨ ∃ h : i - 1 < xs.length, ¬ xs[i - 1] = 0 := .inl (by omega)
      apply And.intro <;> intro q12
      · have hr := trim_t q12 ha0 hi hv hl
        refine ⟨by first | decide | omega, by omega, ?_⟩
        have H := H.pre (a := a1) (n := n2) (c := c3) (els := (xs).map (fun x => [R.val (.int .u8 x)])) (by repeat (first | exact List.Mem.head _ | apply List.Mem.tail)) (i) (by omega)
        rw [← List.map_take] at H
        intro w' t
        rw [hr]
        exact H.r t
      · have hr := trim_f q12 ha0 hi hv hl
        refine ⟨by first | decide | omega, by omega, ?_⟩
        have H := H.pre (a := a1) (n := n2) (c := c3) (els := (xs).map (fun x => [R.val (.int .u8 x)])) (by repeat (first | exact List.Mem.head _ | apply List.Mem.tail)) (i) (by omega)
        rw [← List.map_take] at H
        intro w' t
        rw [hr]
        exact H.r t
set_option maxRecDepth 100000 in
theorem lessB_ct (xs : List Int) (ys : List Int) (ha0 : Nrm xs) (hb0 : Nrm ys) : Ct Try.prog 149 [.sl 1 (xs.map (fun x => [R.val (.int .u8 x)])), .sl 1 (ys.map (fun x => [R.val (.int .u8 x)]))] (.val (.bool (decide (valB xs < valB ys)))) := by
  refine ct_startT [] [(6, ofL [(0, true), (1, true), (2, true), (3, true), (4, true), (5, true), (6, true), (7, true), (8, true), (9, true), (10, true)]), (7, ofL [(0, true), (1, true), (2, true), (3, true), (4, true), (5, true), (6, true), (7, true), (8, true), (9, true), (10, true), (11, true)])] Try.func149 rfl (by decide +kernel) rfl ?_
  intro a1 n2 c3 h4 h4l h4c a5 n6 c7 h8 h8l h8c U w H
  simp only [List.length_map] at h4
  simp only [List.length_map] at h8
  apply And.intro <;> intro q9
  · have q9' := q9; simp at q9'
    have hr : decide (valB xs < valB ys) = decide (((n2 : Int)) < ((n6 : Int))) := by rw [h4, h8]; exact less_len ha0 hb0 (by have hq := q9'; omega)
    intro w' t
    rw [hr]
    exact H.r t
  · have q9' := q9; simp at q9'
    have hll : n2 = n6 := by have hq := q9'; omega
    refine ⟨[4, 5, 18, 19, 20, 21, 22, 23, 24, 25, 26, 27, 28, 29, 30, 31, 32, 33, 34, 35, 36, 37, 38, 39, 40, 41, 42, 43],
      { X := (Nat), slots := [5], vals := fun i => [.int .i64 ((i : Int))], boxes := [], cells := fun i => [],
        inv := fun i w' => Ctx w U [] [] [] [(.slice a1 n2 c3, .sl 1 ((xs).map (fun x => [R.val (.int .u8 x)]))), (.slice a5 n6 c7, .sl 1 ((ys).map (fun x => [R.val (.int .u8 x)])))] w' ∧ (i ≤ xs.length ∧ xs.drop i = ys.drop i), μ := fun i => i }, by kernel_rfl, ?_, ?_, ?_⟩
    · rintro i; exact ⟨⟨trivial, trivial⟩, trivial⟩
    · intro w' t
      refine ⟨n2, rfl, H.fin t 0 _, ?_⟩
      exact ⟨by omega, by rw [List.drop_eq_nil_of_le (by omega), List.drop_eq_nil_of_le (by omega)]⟩
    · rintro (i : Nat) w' ⟨H, hI⟩
      obtain ⟨hi, hdr⟩ := hI
      apply And.intro <;> intro q10
      · have q10' := of_decide_eq_true q10
        have hx1 : i - 1 < xs.length := by omega
        have hy1 : i - 1 < ys.length := by omega
        have hw := i64_pred i (by omega) (by omega)
        refine ⟨by decide +kernel, ([] : List Nat), [], ?_⟩
        refine H.at (a := a1) (n := n2) (c := c3) (els := (xs).map (fun x => [R.val (.int .u8 x)])) (i := (IntKind.i64.wrap (((i : Int)) - (1))).toNat) (cs := [.val (.int .u8 (xs[i - 1]'hx1))]) (by rw [hw]; simp [hx1]) (Nat.succ_pos _) ?_
        intro ad11 hn12e hn12 H hat13l hat13
        refine ⟨ad11, hn12e, (by rw [hw]; omega), (by rw [hw]; omega), ?_⟩
        refine ⟨fun hm => (by first | exact absurd hm (by simp; done) | exact Us.own (Us.ad hn12) (by simpa [ownBl, Own.row, oblk, Own.obj] using hm)), .int .u8 ((xs[i - 1]'hx1)), hat13.1, Us.box (Us.ad hn12), ?_⟩
        refine H.at (a := a5) (n := n6) (c := c7) (els := (ys).map (fun x => [R.val (.int .u8 x)])) (i := (IntKind.i64.wrap (((i : Int)) - (1))).toNat) (cs := [.val (.int .u8 (ys[i - 1]'hy1))]) (by rw [hw]; simp [hy1]) (Nat.succ_pos _) ?_
        intro ad14 hn15e hn15 H hat16l hat16
        refine ⟨ad14, hn15e, (by rw [hw]; omega), (by rw [hw]; omega), ?_⟩
        refine ⟨fun hm => (by first | exact absurd hm (by simp; done) | exact Us.own (Us.ad hn15) (by simpa [ownBl, Own.row, oblk, Own.obj] using hm)), .int .u8 ((ys[i - 1]'hy1)), hat16.1, Us.box (Us.ad hn15), ?_⟩
        apply And.intro <;> intro q17
        · have q17' := q17; simp at q17'
          have hr := valB_cmp ha0.bits hb0.bits hx1 hy1 (by rw [show i - 1 + 1 = i by omega]; exact hdr) (by simpa using q17)
          refine ⟨by decide +kernel, ([] : List Nat), [], ?_⟩
          refine ⟨ad11, hn12e, (by rw [hw]; omega), (by rw [hw]; omega), ?_⟩
          refine ⟨fun hm => (by first | exact absurd hm (by simp; done) | exact Us.own (Us.ad hn12) (by simpa [ownBl, Own.row, oblk, Own.obj] using hm)), .int .u8 ((xs[i - 1]'hx1)), hat13.1, Us.box (Us.ad hn12), ?_⟩
          refine ⟨ad14, hn15e, (by rw [hw]; omega), (by rw [hw]; omega), ?_⟩
          refine ⟨fun hm => (by first | exact absurd hm (by simp; done) | exact Us.own (Us.ad hn15) (by simpa [ownBl, Own.row, oblk, Own.obj] using hm)), .int .u8 ((ys[i - 1]'hy1)), hat16.1, Us.box (Us.ad hn15), ?_⟩
          intro w' t
          rw [hr]
          exact H.r t
        · have q17' := q17; simp at q17'
          have he : xs[i - 1]'hx1 = ys[i - 1]'hy1 := by simpa using q17
          intro w' t
          refine ⟨i - 1, (by rw [hw]), ⟨H.fin t 0 _, ?_⟩, ?_⟩
          · refine ⟨by omega, ?_⟩
            rw [drop_cons' xs (i - 1) hx1, drop_cons' ys (i - 1) hy1, he, show i - 1 + 1 = i by omega, hdr]
          · show i - 1 < i; omega
      · have q10' := of_decide_eq_false q10
        have hr : decide (valB xs < valB ys) = false := by rw [show i = 0 by omega] at hdr; simp only [List.drop_zero] at hdr; rw [hdr]; simp
        intro w' t
        rw [hr]
        exact H.r t
end Go.Proofs.Ytnldhkhnfodplaa

namespace Go.Proofs.Ytnldhkhnfodplaa
open Go Go.Vc Go.RowKit
theorem bigS_t (n : Nat) : bigS true n = big (-(n : Int)) := by unfold bigS big; rw [Int.natAbs_neg]; congr 1; simp
theorem bigS_f (n : Nat) : bigS false n = big (n : Int) := by unfold bigS big; congr 1
theorem nb_nrm {x : Novationref01Big} (h : Nb x) : Nrm x.b := by rw [h]; exact nrm_bits _
theorem nb_neg {x : Novationref01Big} (h : Nb x) : x.neg = true → valB x.b ≠ 0 := by
  intro hn h0; have h1 := congrArg Novationref01Big.neg h; rw [hn] at h1; simp [big, bv, hn, h0] at h1
theorem bv_t {x : Novationref01Big} (h : x.neg = true) : bv x = -(valB x.b : Int) := by simp [bv, h]
theorem bv_f {x : Novationref01Big} (h : x.neg = false) : bv x = (valB x.b : Int) := by simp [bv, h]
theorem bigS_is (g : Bool) (n : Nat) : bigS g n = big (if g = true then -(n : Int) else n) := by cases g <;> simp [bigS_t, bigS_f]
theorem add_same {x y : Novationref01Big} (h : x.neg = y.neg) : big (bv x + bv y) = bigS x.neg (valB (bitsOf (valB x.b + valB y.b))) := by
  rw [valB_bits, bigS_is]; congr 1
  cases hx : x.neg <;> rw [hx] at h
  · rw [bv_f hx, bv_f h.symm]; simp
  · rw [bv_t hx, bv_t h.symm]; simp; omega
theorem K_val {a b : List Int} (h : Nrm a) : valB (bitsK a.length (valB a - valB b)) = valB a - valB b := valB_K _ _ (by have := valB_lt a h.bits; omega)
theorem add_less {x y : Novationref01Big} (hy : Nrm y.b) (h : ¬ x.neg = y.neg) (hl : valB x.b < valB y.b) : big (bv x + bv y) = bigS y.neg (valB (bitsK y.b.length (valB y.b - valB x.b))) := by
  rw [K_val hy, bigS_is]; congr 1
  cases hx : x.neg <;> cases hyn : y.neg <;> rw [hx, hyn] at h
  · exact absurd rfl h
  · rw [bv_f hx, bv_t hyn]; simp; omega
  · rw [bv_t hx, bv_f hyn]; simp; omega
  · exact absurd rfl h
theorem add_more {x y : Novationref01Big} (hx0 : Nrm x.b) (h : ¬ x.neg = y.neg) (hl : ¬ valB x.b < valB y.b) : big (bv x + bv y) = bigS x.neg (valB (bitsK x.b.length (valB x.b - valB y.b))) := by
  rw [K_val hx0, bigS_is]; congr 1
  cases hx : x.neg <;> cases hyn : y.neg <;> rw [hx, hyn] at h
  · exact absurd rfl h
  · rw [bv_f hx, bv_t hyn]; simp; omega
  · rw [bv_t hx, bv_f hyn]; simp; omega
  · exact absurd rfl h
theorem neg_is (x : Novationref01Big) : big (-(bv x)) = bigS (!(x.neg)) (valB x.b) := by
  rw [bigS_is]; congr 1
  cases hx : x.neg
  · rw [bv_f hx]; simp
  · rw [bv_t hx]; simp
theorem neg_len {x : Novationref01Big} (h : Nb x) : (big (-(bv x))).b.length = x.b.length := by
  have h1 := congrArg (fun z => z.b.length) h
  simp only [big] at h1 ⊢; rw [Int.natAbs_neg, ← h1]
theorem len_big (z : Int) (h : z.natAbs < 2 ^ 200) : (big z).b.length ≤ 200 := bits_len 200 _ h
def cmpI (x y : Novationref01Big) : Int := if bv x - bv y = 0 then 0 else if bv x - bv y < 0 then -1 else 1
theorem big_len0 (z : Int) : (big z).b.length = 0 ↔ z = 0 := by
  constructor
  · intro h
    have : (big z).b = [] := List.length_eq_zero_iff.1 h
    have h1 := congrArg valB this; simp only [big, valB_bits, valB] at h1; omega
  · rintro rfl; simp [big, bits0]
theorem u64_id (z : Int) (h : 0 ≤ z ∧ z < 18446744073709551616) : IntKind.u64.wrap z = z := by simp only [IntKind.wrap, IntKind.signed, IntKind.bits]; simp; omega
theorem of_pos {z : Int} (h : 0 ≤ z) (h2 : z < 9223372036854775808) : big z = bigS false (IntKind.u64.wrap z).toNat := by rw [u64_id _ (by omega), bigS_f, Int.toNat_of_nonneg h]
theorem of_neg {z : Int} (h : z < 0) (h2 : -9223372036854775808 ≤ z) : IntKind.u64.wrap (IntKind.i64.wrap (0 - (IntKind.i64.wrap ((z) + (1))))) = -(z + 1) := by
  rw [IntWalk.i64_in (z + 1) (by omega), IntWalk.i64_in _ (by omega), u64_id _ (by omega)]; omega
theorem of_negB {z : Int} (h : z < 0) (h2 : -9223372036854775808 ≤ z) {n : Int} (hn : n = -(z + 1)) : big z = ⟨true, bitsOf (valB (bigS false n.toNat).b + valB [1])⟩ := by
  have h1 : valB (bigS false n.toNat).b = n.toNat := valB_bits _
  have h3 : valB [1] = 1 := rfl
  rw [h1, h3]; unfold big; congr 1
  · exact decide_eq_true h
  · congr 1; omega
theorem nrm1 : Nrm [1] := by unfold Nrm; show bitsOf 1 = [1]; rw [bitsS (by omega), bits0]; rfl
set_option maxRecDepth 100000 in
theorem addB_ct (x : Novationref01Big) (y : Novationref01Big) (ha0 : Nb x) (hb0 : Nb y) (hc0 : x.b.length ≤ 1000) (hd0 : y.b.length ≤ 1000) : Ct Try.prog 99 [.agg (Novationref01Big.r x), .agg (Novationref01Big.r y)] (.agg (Novationref01Big.r (big (bv x + bv y)))) := by
  refine ct_startT [] [(2, ofL [(0, true), (1, true), (2, true), (3, true), (4, true), (5, true), (6, false), (7, false), (8, false)]), (4, ofL [(0, true), (1, true), (2, true), (3, true), (4, true), (5, true), (6, false), (7, false), (8, false)]), (5, ofL [(0, true), (1, true), (2, true), (3, true), (4, true), (5, true), (6, false), (7, false), (8, false)])] Try.func99 rfl (by decide +kernel) rfl ?_
  intro a1 n2 c3 h4 h4l h4c a5 n6 c7 h8 h8l h8c U w H
  simp only [List.length_map] at h4
  simp only [List.length_map] at h8
  intro b9 hb9
  have H := H.box hb9
  intro b10 hb10
  have H := H.box hb10
  intro b11 hb11
  have H := H.box hb11
  apply And.intro <;> intro q12
  · have hs : x.neg = y.neg := by simpa [notIf] using q12
    have hr := add_same hs
    refine ⟨by decide +kernel, ([] : List Nat), [2], ?_⟩
    refine ⟨rfl, ?_⟩
    refine ⟨rfl, ?_⟩
    refine ⟨rfl, ?_⟩
    intro w' t
    refine H.cD t (ExtS.refl (([] : List Nat)) [2] _ _) (plusB_ct (x.b) (y.b) (nb_nrm ha0) (nb_nrm hb0) hc0 hd0) ?_
    intro a13 n14 c15 h16 h16l h16c w' H E
    simp only [List.length_map] at h16
    refine ⟨E, ?_⟩
    intro w' t
    refine H.cD t E (trimB_ct (x.neg) ((bitsOf (valB (x.b) + valB (y.b)))) (by first | exact bitL_bits _ | exact bitL_K _ _)) ?_
    intro a17 n18 c19 h20 h20l h20c w' H E
    simp only [List.length_map] at h20
    refine ⟨E, ?_⟩
    refine andE (E.store (by repeat (first | exact trivial | exact rfl | refine ⟨?_, ?_⟩))) fun E => ?_
    intro w' t
    rw [hr]
    exact H.r t
  · have hs : ¬ x.neg = y.neg := by simpa [notIf] using q12
    intro w' t
    refine H.c t (lessB_ct (x.b) (y.b) (nb_nrm ha0) (nb_nrm hb0)) ?_
    intro w' H
    apply And.intro <;> intro q21
    · have hl : valB x.b < valB y.b := of_decide_eq_true q21
      have hr := add_less (nb_nrm hb0) hs hl
      refine ⟨by decide +kernel, ([] : List Nat), [2], ?_⟩
      refine ⟨rfl, ?_⟩
      refine ⟨rfl, ?_⟩
      refine ⟨rfl, ?_⟩
      intro w' t
      refine H.cD t (ExtS.refl (([] : List Nat)) [2] _ _) (minusB_ct (y.b) (x.b) (by first | exact nb_nrm ha0 | exact nb_nrm hb0) (by first | exact nb_nrm ha0 | exact nb_nrm hb0) (by first | exact hc0 | exact hd0) (by omega)) ?_
      intro a22 n23 c24 h25 h25l h25c w' H E
      simp only [List.length_map] at h25
      refine ⟨E, ?_⟩
      intro w' t
      refine H.cD t E (trimB_ct (y.neg) ((bitsK (y.b).length (valB (y.b) - valB (x.b)))) (by first | exact bitL_bits _ | exact bitL_K _ _)) ?_
      intro a26 n27 c28 h29 h29l h29c w' H E
      simp only [List.length_map] at h29
      refine ⟨E, ?_⟩
      refine andE (E.store (by repeat (first | exact trivial | exact rfl | refine ⟨?_, ?_⟩))) fun E => ?_
      intro w' t
      rw [hr]
      exact H.r t
    · have hl : ¬ valB x.b < valB y.b := of_decide_eq_false q21
      have hr := add_more (nb_nrm ha0) hs hl
      refine ⟨by decide +kernel, ([] : List Nat), [2], ?_⟩
      refine ⟨rfl, ?_⟩
      refine ⟨rfl, ?_⟩
      refine ⟨rfl, ?_⟩
      intro w' t
      refine H.cD t (ExtS.refl (([] : List Nat)) [2] _ _) (minusB_ct (x.b) (y.b) (by first | exact nb_nrm ha0 | exact nb_nrm hb0) (by first | exact nb_nrm ha0 | exact nb_nrm hb0) (by first | exact hc0 | exact hd0) (by omega)) ?_
      intro a30 n31 c32 h33 h33l h33c w' H E
      simp only [List.length_map] at h33
      refine ⟨E, ?_⟩
      intro w' t
      refine H.cD t E (trimB_ct (x.neg) ((bitsK (x.b).length (valB (x.b) - valB (y.b)))) (by first | exact bitL_bits _ | exact bitL_K _ _)) ?_
      intro a34 n35 c36 h37 h37l h37c w' H E
      simp only [List.length_map] at h37
      refine ⟨E, ?_⟩
      refine andE (E.store (by repeat (first | exact trivial | exact rfl | refine ⟨?_, ?_⟩))) fun E => ?_
      intro w' t
      rw [hr]
      exact H.r t
set_option maxRecDepth 100000 in
theorem negB_ct (x : Novationref01Big) (ha0 : Nb x) : Ct Try.prog 153 [.agg (Novationref01Big.r x)] (.agg (Novationref01Big.r (big (-(bv x))))) := by
  refine ct_startT [] [] Try.func153 rfl (by decide +kernel) rfl ?_
  intro a1 n2 c3 h4 h4l h4c U w H
  simp only [List.length_map] at h4
  intro b5 hb5
  have H := H.box hb5
  intro b6 hb6
  have H := H.box hb6
  intro w' t
  refine H.c t (trimB_ct (!(x.neg)) (x.b) (nb_nrm ha0).bits) ?_
  intro a7 n8 c9 h10 h10l h10c w' H
  simp only [List.length_map] at h10
  intro w' t
  rw [neg_is]
  exact H.r t
set_option maxRecDepth 100000 in
theorem subB_ct (x : Novationref01Big) (y : Novationref01Big) (ha0 : Nb x) (hb0 : Nb y) (hc0 : x.b.length ≤ 1000) (hd0 : y.b.length ≤ 1000) : Ct Try.prog 104 [.agg (Novationref01Big.r x), .agg (Novationref01Big.r y)] (.agg (Novationref01Big.r (big (bv x - bv y)))) := by
  refine ct_startT [] [(1, ofL [(0, true), (1, true), (2, false), (3, false), (4, false)])] Try.func104 rfl (by decide +kernel) rfl ?_
  intro a1 n2 c3 h4 h4l h4c a5 n6 c7 h8 h8l h8c U w H
  simp only [List.length_map] at h4
  simp only [List.length_map] at h8
  intro b9 hb9
  have H := H.box hb9
  intro b10 hb10
  have H := H.box hb10
  intro b11 hb11
  have H := H.box hb11
  refine ⟨by decide +kernel, ([] : List Nat), [2], ?_⟩
  refine ⟨rfl, ?_⟩
  refine ⟨rfl, ?_⟩
  intro w' t
  refine H.cD t (ExtS.refl (([] : List Nat)) [2] _ _) (negB_ct (y) hb0) ?_
  intro a12 n13 c14 h15 h15l h15c w' H E
  simp only [List.length_map] at h15
  refine ⟨E, ?_⟩
  intro w' t
  refine H.cD t E (addB_ct (x) ((big (-(bv (y))))) ha0 (nb_big _) hc0 (by rw [neg_len hb0]; exact hd0)) ?_
  intro a16 n17 c18 h19 h19l h19c w' H E
  simp only [List.length_map] at h19
  refine ⟨E, ?_⟩
  refine andE (E.store (by repeat (first | exact trivial | exact rfl | refine ⟨?_, ?_⟩))) fun E => ?_
  intro w' t
  rw [show bv x - bv y = bv x + bv (big (-(bv y))) by rw [bv_big]; omega]
  exact H.r t
set_option maxRecDepth 100000 in
theorem cmpB_ct (x : Novationref01Big) (y : Novationref01Big) (ha0 : Nb x) (hb0 : Nb y) (hc0 : x.b.length ≤ 1000) (hd0 : y.b.length ≤ 1000) : Ct Try.prog 48 [.agg (Novationref01Big.r x), .agg (Novationref01Big.r y)] (.val (.int .i64 (cmpI x y))) := by
  refine ct_startT [] [] Try.func48 rfl (by decide +kernel) rfl ?_
  intro a1 n2 c3 h4 h4l h4c a5 n6 c7 h8 h8l h8c U w H
  simp only [List.length_map] at h4
  simp only [List.length_map] at h8
  intro b9 hb9
  have H := H.box hb9
  intro b10 hb10
  have H := H.box hb10
  intro w' t
  refine H.c t (subB_ct (x) (y) ha0 hb0 hc0 hd0) ?_
  intro a11 n12 c13 h14 h14l h14c w' H
  simp only [List.length_map] at h14
  intro b15 hb15
  have H := H.box hb15
  apply And.intro <;> intro q16
  · have q16' := q16; simp at q16'
    have hz : bv x - bv y = 0 := (big_len0 _).1 (by have hq := q16'; omega)
    have hr : cmpI x y = 0 := if_pos hz
    intro w' t
    rw [hr]
    exact H.r t
  · have q16' := q16; simp at q16'
    have hz : ¬ bv x - bv y = 0 := fun h => by have := (big_len0 _).2 h; have hq := q16'; omega
    apply And.intro <;> intro q17
    · have hr : cmpI x y = -1 := by unfold cmpI; rw [if_neg hz, if_pos (of_decide_eq_true q17)]
      intro w' t
      rw [hr]
      exact H.r t
    · have hr : cmpI x y = 1 := by unfold cmpI; rw [if_neg hz, if_neg (of_decide_eq_false q17)]
      intro w' t
      rw [hr]
      exact H.r t
set_option maxRecDepth 100000 in
theorem ofB_ct (z : Int) (ha0 : ok64 z) : Ct Try.prog 103 [.val (.int .i64 z)] (.agg (Novationref01Big.r (big z))) := by
  refine ct_startT [] [] Try.func103 rfl (by decide +kernel) rfl ?_
  intro U w H
  have hz := ha0.is
  intro b1 hb1
  have H := H.box hb1
  apply And.intro <;> intro q2
  · have q2' := of_decide_eq_true q2
    have hr := of_pos (z := z) (by omega) (by omega)
    intro w' t
    refine H.c t (natB_ct (IntKind.u64.wrap (z)) (by first | (rw [u64_id _ (by omega)]; omega) | (rw [of_neg (by omega) (by omega)]; omega)) (by first | (rw [u64_id _ (by omega)]; omega) | (rw [of_neg (by omega) (by omega)]; omega))) ?_
    intro a3 n4 c5 h6 h6l h6c w' H
    simp only [List.length_map] at h6
    intro w' t
    rw [hr]
    exact H.r t
  · have q2' := of_decide_eq_false q2
    have hr := of_negB (z := z) (by omega) (by omega) (of_neg (by omega) (by omega))
    intro w' t
    refine H.c t (natB_ct (IntKind.u64.wrap (IntKind.i64.wrap (0 - (IntKind.i64.wrap ((z) + (1)))))) (by first | (rw [u64_id _ (by omega)]; omega) | (rw [of_neg (by omega) (by omega)]; omega)) (by first | (rw [u64_id _ (by omega)]; omega) | (rw [of_neg (by omega) (by omega)]; omega))) ?_
    intro a7 n8 c9 h10 h10l h10c w' H
    simp only [List.length_map] at h10
    intro w' t
    refine Ctx.lit elemOk41 H t (els := [[.val (.int .u8 (1))]]) [.int .u8 (1)] rfl (⟨rfl, ⟨⟨rfl, trivial⟩, rfl⟩, trivial⟩) rfl (by decide) (by decide) ?_
    intro lb11 w' H
    intro w' t
    refine H.c t (plusB_ct ((bigS false ((IntKind.u64.wrap (IntKind.i64.wrap (0 - (IntKind.i64.wrap ((z) + (1))))))).toNat).b) ([(1)]) (nrm_bits _) nrm1 (Nat.le_trans (bits_len 64 _ (show _ < 18446744073709551616 by rw [of_neg (by omega) (by omega)]; omega)) (by decide)) (by simp)) ?_
    intro a12 n13 c14 h15 h15l h15c w' H
    simp only [List.length_map] at h15
    intro w' t
    rw [hr]
    exact H.r t
end Go.Proofs.Ytnldhkhnfodplaa

namespace Go.Proofs.Ytnldhkhnfodplaa
open Go Go.Vc Go.RowKit
theorem ct_big {f : FuncId} {ars : List R} {a b : Novationref01Big} (h : Ct Try.prog f ars (.agg (Novationref01Big.r a))) (e : a = b) : Ct Try.prog f ars (.agg (Novationref01Big.r b)) := e ▸ h
theorem nilB {V W : World} {U0 : Nat → Prop} {L bs : List Nat} {os : List Own} {G : List (Value × R)} (H : Ctx V U0 L bs os G W) {l : List Int} (e : l = []) : Ctx V U0 L bs os ((.slice none 0 0, .sl 1 (l.map fun x => [R.val (.int .u8 x)])) :: G) W := by
  have hf : Holds (Us U0 bs os) W ((.slice none 0 0, .sl 1 (l.map fun x => [R.val (.int .u8 x)])) :: G) := by
    intro p hp
    rcases List.mem_cons.1 hp with rfl | hp
    · subst e; simp only [R.h]; exact ⟨none, 0, rfl, Nat.le_refl _, Nat.zero_le _, by simp [rowsH]⟩
    · exact H.facts p hp
  exact { H with facts := hf }
def openB (l : List APos) (k : Int) : Int := (l.map fun p => vecGet p.legs k).sum
theorem big_len' {z : Int} (h : -340282366920938463463374607431768211456 < z ∧ z < 340282366920938463463374607431768211456) : (big z).b.length ≤ 1000 := Nat.le_trans (bits_len 128 _ (by show z.natAbs < 2 ^ 128; omega)) (by decide)
set_option maxRecDepth 100000 in
theorem getB_ct (l : List ALeg) (k : Int)  : Ct Try.prog 151 [.sl 2 (l.map ALeg.r), .val (.int .i64 k)] (.val (.int .i64 (vecGet l k))) := by
  refine ct_startT [] [] Try.func151 rfl (by decide +kernel) rfl ?_
  intro a1 n2 c3 h4 h4l h4c U w H
  simp only [List.length_map] at h4
  refine ⟨[4, 5, 6, 7, 8, 9, 10, 11, 12, 13, 14, 15, 16, 17, 18, 19, 20, 21, 22, 23],
    { X := (Nat), slots := [5], vals := fun i => [.int .i64 ((i : Int))], boxes := [], cells := fun i => [],
      inv := fun i w' => Ctx w U [] [] [] [(.slice a1 n2 c3, .sl 2 ((l).map ALeg.r))] w' ∧ (i ≤ l.length ∧ vecGet l k = vecGet (l.drop i) k), μ := fun i => l.length - i }, by kernel_rfl, ?_, ?_, ?_⟩
  · rintro i; exact ⟨⟨trivial, trivial⟩, trivial⟩
  · intro w' t
    refine ⟨0, rfl, H.fin t 0 _, ?_⟩
    exact ⟨Nat.zero_le _, rfl⟩
  · rintro (i : Nat) w' ⟨H, hI⟩
    obtain ⟨hi, hv⟩ := hI
    apply And.intro <;> intro q5
    · have q5' := of_decide_eq_true q5
      have hin : i < l.length := by omega
      refine H.at (a := a1) (n := n2) (c := c3) (els := (l).map ALeg.r) (i := ((i : Int)).toNat) (cs := (ALeg.r ((l)[i]'hin))) (by simp [hin]) (Nat.succ_pos _) ?_
      intro ad6 hn7e hn7 H hat8l hat8
      refine ⟨ad6, hn7e, (by first | exact Int.natCast_nonneg _ | omega), (by first | omega | (simp; omega)), ?_⟩
      refine ⟨.int .i64 (((l)[i]'hin).inst), hat8.1, Us.box (Us.ad (Us.ad hn7)), ?_⟩
      apply And.intro <;> intro q9
      · have q9' := q9; simp at q9'
        have he : (l[i]'hin).inst = k := by simpa using q9
        rw [hv, drop_cons' l i hin, vecGet, if_pos he]
        refine ⟨ad6, hn7e, (by first | exact Int.natCast_nonneg _ | omega), (by first | omega | (simp; omega)), ?_⟩
        refine ⟨.int .i64 (((l)[i]'hin).qty), hat8.2.1, Us.box (Us.ad (Us.ad hn7)), ?_⟩
        intro w' t
        exact H.r t
      · have q9' := q9; simp at q9'
        have he : ¬ (l[i]'hin).inst = k := by simpa using q9
        intro w' t
        refine ⟨i + 1, (by first | rfl | exact xInc (by first | omega | (rw [maxLen_eq]; omega)) | simp), ⟨H.fin t 0 _, ?_⟩, ?_⟩
        · refine ⟨hin, ?_⟩; rw [hv, drop_cons' l i hin, vecGet, if_neg he]
        · show l.length - (i + 1) < l.length - i; omega
    · have q5' := of_decide_eq_false q5
      have hz : vecGet (l.drop i) k = 0 := by rw [List.drop_eq_nil_of_le (by omega)]; rfl
      rw [hv, hz]
      intro w' t
      exact H.r t
set_option maxRecDepth 100000 in
theorem totB_ct (l : List AFlow) (ha0 : ∀ x ∈ l, x.ok) (hb0 : l.length ≤ 1000000) : Ct Try.prog 102 [.sl 3 (l.map AFlow.r)] (.agg (Novationref01Big.r (big (flowSum l)))) := by
  refine ct_startT [] [(5, (.rd 1 (.rd 2 (.rd 3 (.rd 4 (.rd 5 (.two 0 6 (ofL [(6, false), (7, false), (8, false)]) (ofL [(0, false), (7, false), (8, false)]))))))))] Try.func102 rfl (by decide +kernel) rfl ?_
  intro a1 n2 c3 h4 h4l h4c U w H
  simp only [List.length_map] at h4
  intro b5 hb5
  have H := H.box hb5
  intro b6 hb6
  have H := H.box hb6
  refine ⟨[4, 6, 7, 8, 9, 10, 11, 12, 13, 14, 15, 16, 17, 18, 19],
    { X := (Nat) × (Bool) × (Option Addr) × (Nat) × (Nat), slots := [4], vals := fun (i, k0, na, nn, nc) => [.int .i64 ((i : Int))], boxes := [1], cells := fun (i, k0, na, nn, nc) => [[(bif k0 then XV.bool ((big (((l.take i).map fun x => x.amount).sum)).neg) else XV.lit ((big (((l.take i).map fun x => x.amount).sum)).neg)), .slc na nn nc]],
      inv := fun (i, k0, na, nn, nc) w' => Ctx w U [] [b5, b6] [] [(.slice a1 n2 c3, .sl 3 ((l).map AFlow.r)), (.slice na nn nc, .sl 1 (((big (((l.take i).map fun x => x.amount).sum)).b).map (fun x => [R.val (.int .u8 x)])))] w' ∧ (i ≤ l.length), μ := fun (i, k0, na, nn, nc) => l.length - i }, by kernel_rfl, ?_, ?_, ?_⟩
  · rintro ⟨i, k0, na, nn, nc⟩; cases k0 <;> exact ⟨⟨trivial, trivial⟩, ⟨trivial, trivial, trivial⟩, trivial⟩
  · intro w' t
    have H := nilB H (l := (big (((l.take 0).map fun x => x.amount).sum)).b) (by simp [big, bits0])
    refine ⟨⟨0, false, none, 0, 0⟩, rfl, rfl, rfl, H.fin t 2 _, ?_⟩
    exact Nat.zero_le _
  · rintro ⟨i, k0, na, nn, nc⟩ w' ⟨H, hI⟩
    have hi := hI
    cases k0
    · apply And.intro <;> intro q7
      · have q7' := of_decide_eq_true q7
        have hin : i < l.length := by omega
        have hbl : ∀ x ∈ l, -9223372036854775808 ≤ x.amount ∧ x.amount ≤ 9223372036854775808 := fun x hx => by have := (show ok64 x.amount from (ha0 x hx).2).is; omega
        have hbx : ∀ x ∈ l.take i, -9223372036854775808 ≤ x.amount ∧ x.amount ≤ 9223372036854775808 := fun x hx => hbl x (List.mem_of_mem_take hx)
        have hsb := sum_bound (fun x => x.amount) 9223372036854775808 (l.take i) hbx
        have htl : (l.take i).length ≤ 1000000 := by rw [List.length_take]; omega
        have hb1 := big_len' (z := ((l.take i).map fun x => x.amount).sum) (by omega)
        have hb0 := hbl _ (List.getElem_mem hin)
        have hb2 := big_len' (z := (l[i]'hin).amount) (by omega)
        have hS : ((l.take (i + 1)).map fun x => x.amount).sum = ((l.take i).map fun x => x.amount).sum + (l[i]'hin).amount := by rw [take_map_succ (fun x => x.amount) l i hin]; simp
        refine ⟨by decide +kernel, ([] : List Nat), [1], ?_⟩
        refine H.at (a := a1) (n := n2) (c := c3) (els := (l).map AFlow.r) (i := ((i : Int)).toNat) (cs := (AFlow.r ((l)[i]'hin))) (by simp [hin]) (Nat.succ_pos _) ?_
        intro ad8 hn9e hn9 H hat10l hat10
        refine ⟨ad8, hn9e, (by first | exact Int.natCast_nonneg _ | omega), (by first | omega | (simp; omega)), ?_⟩
        refine ⟨fun hm => (by first | exact absurd hm (by simp; done) | exact Us.own (Us.ad (Us.ad hn9)) (by simpa [ownBl, Own.row, oblk, Own.obj] using hm)), .int .i64 (((l)[i]'hin).amount), hat10.2.2.1, Us.box (Us.ad (Us.ad hn9)), ?_⟩
        refine ⟨?_, ?_⟩
        · refine andE (ExtS.refl (([] : List Nat)) [1] _ _) fun E => ?_
          intro w' t
          refine H.cD t E (ofB_ct (((l)[i]'hin).amount) (ha0 _ (List.getElem_mem _)).2) ?_
          intro a11 n12 c13 h14 h14l h14c w' H E
          simp only [List.length_map] at h14
          refine ⟨E, ?_⟩
          intro w' t
          refine H.cD t E (ct_big (b := big (((l.take (i + 1)).map fun x => x.amount).sum)) (addB_ct ((big (((l.take i).map fun x => x.amount).sum))) ((big (((l)[i]'hin).amount))) (nb_big _) (nb_big _) hb1 hb2) (by rw [bv_big, bv_big, hS])) ?_
          intro a15 n16 c17 h18 h18l h18c w' H E
          simp only [List.length_map] at h18
          refine ⟨E, ?_⟩
          refine andE (E.store (by repeat (first | exact trivial | exact rfl | refine ⟨?_, ?_⟩))) fun E => ?_
          intro w' t
          refine ⟨⟨i + 1, true, a15, n16, c17⟩, (by first | rfl | exact xInc (by first | omega | (rw [maxLen_eq]; omega)) | simp), rfl, rfl, ⟨H.fin t 2 _, ?_⟩, ?_⟩
          · exact hin
          · show l.length - (i + 1) < l.length - i; omega
        · intro w' t
          refine H.cD t (ExtS.refl (([] : List Nat)) [1] _ _) (ofB_ct (((l)[i]'hin).amount) (ha0 _ (List.getElem_mem _)).2) ?_
          intro a19 n20 c21 h22 h22l h22c w' H E
          simp only [List.length_map] at h22
          refine ⟨E, ?_⟩
          refine andE E fun E => ?_
          intro w' t
          refine H.cD t E (ct_big (b := big (((l.take (i + 1)).map fun x => x.amount).sum)) (addB_ct ((big (((l.take i).map fun x => x.amount).sum))) ((big (((l)[i]'hin).amount))) (nb_big _) (nb_big _) hb1 hb2) (by rw [bv_big, bv_big, hS])) ?_
          intro a23 n24 c25 h26 h26l h26c w' H E
          simp only [List.length_map] at h26
          refine ⟨E, ?_⟩
          refine andE (E.store (by repeat (first | exact trivial | exact rfl | refine ⟨?_, ?_⟩))) fun E => ?_
          intro w' t
          refine ⟨⟨i + 1, true, a23, n24, c25⟩, (by first | rfl | exact xInc (by first | omega | (rw [maxLen_eq]; omega)) | simp), rfl, rfl, ⟨H.fin t 2 _, ?_⟩, ?_⟩
          · exact hin
          · show l.length - (i + 1) < l.length - i; omega
      · have q7' := of_decide_eq_false q7
        have hie : l.take i = l := List.take_of_length_le (by omega)
        have hr : big (flowSum l) = big (((l.take i).map fun x => x.amount).sum) := by rw [hie]; first | rfl | done
        intro w' t
        rw [hr]
        exact H.r t
    · apply And.intro <;> intro q27
      · have q27' := of_decide_eq_true q27
        have hin : i < l.length := by omega
        have hbl : ∀ x ∈ l, -9223372036854775808 ≤ x.amount ∧ x.amount ≤ 9223372036854775808 := fun x hx => by have := (show ok64 x.amount from (ha0 x hx).2).is; omega
        have hbx : ∀ x ∈ l.take i, -9223372036854775808 ≤ x.amount ∧ x.amount ≤ 9223372036854775808 := fun x hx => hbl x (List.mem_of_mem_take hx)
        have hsb := sum_bound (fun x => x.amount) 9223372036854775808 (l.take i) hbx
        have htl : (l.take i).length ≤ 1000000 := by rw [List.length_take]; omega
        have hb1 := big_len' (z := ((l.take i).map fun x => x.amount).sum) (by omega)
        have hb0 := hbl _ (List.getElem_mem hin)
        have hb2 := big_len' (z := (l[i]'hin).amount) (by omega)
        have hS : ((l.take (i + 1)).map fun x => x.amount).sum = ((l.take i).map fun x => x.amount).sum + (l[i]'hin).amount := by rw [take_map_succ (fun x => x.amount) l i hin]; simp
        refine ⟨by decide +kernel, ([] : List Nat), [1], ?_⟩
        refine H.at (a := a1) (n := n2) (c := c3) (els := (l).map AFlow.r) (i := ((i : Int)).toNat) (cs := (AFlow.r ((l)[i]'hin))) (by simp [hin]) (Nat.succ_pos _) ?_
        intro ad28 hn29e hn29 H hat30l hat30
        refine ⟨ad28, hn29e, (by first | exact Int.natCast_nonneg _ | omega), (by first | omega | (simp; omega)), ?_⟩
        refine ⟨fun hm => (by first | exact absurd hm (by simp; done) | exact Us.own (Us.ad (Us.ad hn29)) (by simpa [ownBl, Own.row, oblk, Own.obj] using hm)), .int .i64 (((l)[i]'hin).amount), hat30.2.2.1, Us.box (Us.ad (Us.ad hn29)), ?_⟩
        refine ⟨?_, ?_⟩
        · refine andE (ExtS.refl (([] : List Nat)) [1] _ _) fun E => ?_
          intro w' t
          refine H.cD t E (ofB_ct (((l)[i]'hin).amount) (ha0 _ (List.getElem_mem _)).2) ?_
          intro a31 n32 c33 h34 h34l h34c w' H E
          simp only [List.length_map] at h34
          refine ⟨E, ?_⟩
          intro w' t
          refine H.cD t E (ct_big (b := big (((l.take (i + 1)).map fun x => x.amount).sum)) (addB_ct ((big (((l.take i).map fun x => x.amount).sum))) ((big (((l)[i]'hin).amount))) (nb_big _) (nb_big _) hb1 hb2) (by rw [bv_big, bv_big, hS])) ?_
          intro a35 n36 c37 h38 h38l h38c w' H E
          simp only [List.length_map] at h38
          refine ⟨E, ?_⟩
          refine andE (E.store (by repeat (first | exact trivial | exact rfl | refine ⟨?_, ?_⟩))) fun E => ?_
          intro w' t
          refine ⟨⟨i + 1, true, a35, n36, c37⟩, (by first | rfl | exact xInc (by first | omega | (rw [maxLen_eq]; omega)) | simp), rfl, rfl, ⟨H.fin t 2 _, ?_⟩, ?_⟩
          · exact hin
          · show l.length - (i + 1) < l.length - i; omega
        · intro w' t
          refine H.cD t (ExtS.refl (([] : List Nat)) [1] _ _) (ofB_ct (((l)[i]'hin).amount) (ha0 _ (List.getElem_mem _)).2) ?_
          intro a39 n40 c41 h42 h42l h42c w' H E
          simp only [List.length_map] at h42
          refine ⟨E, ?_⟩
          refine andE E fun E => ?_
          intro w' t
          refine H.cD t E (ct_big (b := big (((l.take (i + 1)).map fun x => x.amount).sum)) (addB_ct ((big (((l.take i).map fun x => x.amount).sum))) ((big (((l)[i]'hin).amount))) (nb_big _) (nb_big _) hb1 hb2) (by rw [bv_big, bv_big, hS])) ?_
          intro a43 n44 c45 h46 h46l h46c w' H E
          simp only [List.length_map] at h46
          refine ⟨E, ?_⟩
          refine andE (E.store (by repeat (first | exact trivial | exact rfl | refine ⟨?_, ?_⟩))) fun E => ?_
          intro w' t
          refine ⟨⟨i + 1, true, a43, n44, c45⟩, (by first | rfl | exact xInc (by first | omega | (rw [maxLen_eq]; omega)) | simp), rfl, rfl, ⟨H.fin t 2 _, ?_⟩, ?_⟩
          · exact hin
          · show l.length - (i + 1) < l.length - i; omega
      · have q27' := of_decide_eq_false q27
        have hie : l.take i = l := List.take_of_length_le (by omega)
        have hr : big (flowSum l) = big (((l.take i).map fun x => x.amount).sum) := by rw [hie]; first | rfl | done
        intro w' t
        rw [hr]
        exact H.r t
end Go.Proofs.Ytnldhkhnfodplaa

namespace Go.Proofs.Ytnldhkhnfodplaa
open Go Go.Vc Go.RowKit
theorem lots_succ (l : List ALot) (k : Int) (i : Nat) (h : i < l.length) : lotsSum (l.take (i + 1)) k = lotsSum (l.take i) k + (if (l[i]).asset = k then (l[i]).qty else 0) := by
  unfold lotsSum
  rw [show l.take (i + 1) = l.take i ++ [l[i]] by simp, List.filter_append, List.map_append, List.sum_append]
  congr 1
  by_cases hk : (l[i]).asset = k
  · simp [List.filter, hk]
  · have : ((l[i]).asset == k) = false := by simpa using hk
    simp [List.filter, this, hk]
theorem hold_succ (l : List AHold) (k : Int) (i : Nat) (h : i < l.length) : holdSum (l.take (i + 1)) k = holdSum (l.take i) k + lotsSum (l[i]).lots k := by
  unfold holdSum; rw [take_map_succ (fun h => lotsSum h.lots k) l i h]; simp
theorem book_succ (l : List APos) (k : Int) (i : Nat) (h : i < l.length) : bookSum (l.take (i + 1)) k = bookSum (l.take i) k + vecGet (l[i]).legs k := by
  unfold bookSum; rw [take_map_succ (fun p => vecGet p.legs k) l i h]; simp
set_option maxRecDepth 100000 in
theorem lotsB_ct (l : List ALot) (k : Int) (ha0 : ∀ x ∈ l, x.ok) (hb0 : l.length ≤ 1000000) : Ct Try.prog 112 [.sl 3 (l.map ALot.r), .val (.int .i64 k)] (.agg (Novationref01Big.r (big (lotsSum l k)))) := by
  refine ct_startT [] [(6, (.rd 1 (.rd 2 (.rd 3 (.rd 4 (.rd 5 (.two 0 6 (ofL [(6, false), (7, false), (8, false)]) (ofL [(0, false), (7, false), (8, false)]))))))))] Try.func112 rfl (by decide +kernel) rfl ?_
  intro a1 n2 c3 h4 h4l h4c U w H
  simp only [List.length_map] at h4
  intro b5 hb5
  have H := H.box hb5
  intro b6 hb6
  have H := H.box hb6
  refine ⟨[6, 8, 9, 10, 11, 12, 13, 14, 15, 16, 17, 18, 19, 20, 21, 22, 23, 24, 25, 26, 27, 28],
    { X := (Nat) × (Int) × (Bool) × (Option Addr) × (Nat) × (Nat), slots := [6], vals := fun (i, z, k0, na, nn, nc) => [.int .i64 ((i : Int))], boxes := [1], cells := fun (i, z, k0, na, nn, nc) => [[(bif k0 then XV.bool ((big (z)).neg) else XV.lit ((big (z)).neg)), .slc na nn nc]],
      inv := fun (i, z, k0, na, nn, nc) w' => Ctx w U [] [b5, b6] [] [(.slice a1 n2 c3, .sl 3 ((l).map ALot.r)), (.slice na nn nc, .sl 1 (((big (z)).b).map (fun x => [R.val (.int .u8 x)])))] w' ∧ (i ≤ l.length ∧ z = lotsSum (l.take i) k), μ := fun (i, z, k0, na, nn, nc) => l.length - i }, by kernel_rfl, ?_, ?_, ?_⟩
  · rintro ⟨i, z, k0, na, nn, nc⟩; cases k0 <;> exact ⟨⟨trivial, trivial⟩, ⟨trivial, trivial, trivial⟩, trivial⟩
  · intro w' t
    have H := nilB H (l := (big (0)).b) (by simp [big, bits0])
    refine ⟨⟨0, 0, false, none, 0, 0⟩, rfl, rfl, rfl, H.fin t 2 _, ?_⟩
    exact ⟨Nat.zero_le _, rfl⟩
  · rintro ⟨i, z, k0, na, nn, nc⟩ w' ⟨H, hI⟩
    obtain ⟨hi, hz⟩ := hI
    cases k0
    · apply And.intro <;> intro q7
      · have q7' := of_decide_eq_true q7
        have hin : i < l.length := by omega
        have htl : (l.take i).length ≤ 1000000 := by rw [List.length_take]; omega
        have hq : ok64 (l[i]'hin).qty := (ha0 _ (List.getElem_mem hin)).2.2
        have hqi := hq.is
        have hb := lots_bound (l.take i) k (fun x hx => ha0 x (List.mem_of_mem_take hx)) htl
        have hb1 := big_len' (z := z) (by omega)
        have hb2 := big_len' (z := (l[i]'hin).qty) (by omega)
        have hS0 := lots_succ l k i hin
        refine H.at (a := a1) (n := n2) (c := c3) (els := (l).map ALot.r) (i := ((i : Int)).toNat) (cs := (ALot.r ((l)[i]'hin))) (by simp [hin]) (Nat.succ_pos _) ?_
        intro ad8 hn9e hn9 H hat10l hat10
        refine ⟨ad8, hn9e, (by first | exact Int.natCast_nonneg _ | omega), (by first | omega | (simp; omega)), ?_⟩
        refine ⟨.int .i64 (((l)[i]'hin).asset), hat10.1, Us.box (Us.ad (Us.ad hn9)), ?_⟩
        apply And.intro <;> intro q11
        · have q11' := q11; simp at q11'
          have hS := hS0
          rw [if_pos (by simpa using q11)] at hS
          refine ⟨by decide +kernel, ([] : List Nat), [1], ?_⟩
          refine ⟨ad8, hn9e, (by first | exact Int.natCast_nonneg _ | omega), (by first | omega | (simp; omega)), ?_⟩
          refine ⟨fun hm => (by first | exact absurd hm (by simp; done) | exact Us.own (Us.ad (Us.ad hn9)) (by simpa [ownBl, Own.row, oblk, Own.obj] using hm)), .int .i64 (((l)[i]'hin).qty), hat10.2.2.1, Us.box (Us.ad (Us.ad hn9)), ?_⟩
          refine ⟨?_, ?_⟩
          · refine andE (ExtS.refl (([] : List Nat)) [1] _ _) fun E => ?_
            intro w' t
            refine H.cD t E (ofB_ct (((l)[i]'hin).qty) hq) ?_
            intro a12 n13 c14 h15 h15l h15c w' H E
            simp only [List.length_map] at h15
            refine ⟨E, ?_⟩
            intro w' t
            refine H.cD t E (ct_big (b := big (z + (l[i]'hin).qty)) (addB_ct ((big (z))) ((big (((l)[i]'hin).qty))) (nb_big _) (nb_big _) hb1 hb2) (by rw [bv_big, bv_big])) ?_
            intro a16 n17 c18 h19 h19l h19c w' H E
            simp only [List.length_map] at h19
            refine ⟨E, ?_⟩
            refine andE (E.store (by repeat (first | exact trivial | exact rfl | refine ⟨?_, ?_⟩))) fun E => ?_
            intro w' t
            refine ⟨⟨i + 1, z + (l[i]'hin).qty, true, a16, n17, c18⟩, (by first | rfl | exact xInc (by first | omega | (rw [maxLen_eq]; omega)) | simp), rfl, rfl, ⟨H.fin t 2 _, ?_⟩, ?_⟩
            · exact ⟨hin, by rw [hz, hS]⟩
            · show l.length - (i + 1) < l.length - i; omega
          · intro w' t
            refine H.cD t (ExtS.refl (([] : List Nat)) [1] _ _) (ofB_ct (((l)[i]'hin).qty) hq) ?_
            intro a20 n21 c22 h23 h23l h23c w' H E
            simp only [List.length_map] at h23
            refine ⟨E, ?_⟩
            refine andE E fun E => ?_
            intro w' t
            refine H.cD t E (ct_big (b := big (z + (l[i]'hin).qty)) (addB_ct ((big (z))) ((big (((l)[i]'hin).qty))) (nb_big _) (nb_big _) hb1 hb2) (by rw [bv_big, bv_big])) ?_
            intro a24 n25 c26 h27 h27l h27c w' H E
            simp only [List.length_map] at h27
            refine ⟨E, ?_⟩
            refine andE (E.store (by repeat (first | exact trivial | exact rfl | refine ⟨?_, ?_⟩))) fun E => ?_
            intro w' t
            refine ⟨⟨i + 1, z + (l[i]'hin).qty, true, a24, n25, c26⟩, (by first | rfl | exact xInc (by first | omega | (rw [maxLen_eq]; omega)) | simp), rfl, rfl, ⟨H.fin t 2 _, ?_⟩, ?_⟩
            · exact ⟨hin, by rw [hz, hS]⟩
            · show l.length - (i + 1) < l.length - i; omega
        · have q11' := q11; simp at q11'
          have hS := hS0
          rw [if_neg (by simpa using q11)] at hS
          simp only [Int.add_zero] at hS
          intro w' t
          refine ⟨⟨i + 1, z, false, na, nn, nc⟩, (by first | rfl | exact xInc (by first | omega | (rw [maxLen_eq]; omega)) | simp), rfl, rfl, ⟨H.fin t 2 _, ?_⟩, ?_⟩
          · exact ⟨hin, by rw [hz, hS]⟩
          · show l.length - (i + 1) < l.length - i; omega
      · have q7' := of_decide_eq_false q7
        have hie : l.take i = l := List.take_of_length_le (by omega)
        have hr : big (lotsSum l k) = big (z) := by rw [hz, hie]
        intro w' t
        rw [hr]
        exact H.r t
    · apply And.intro <;> intro q28
      · have q28' := of_decide_eq_true q28
        have hin : i < l.length := by omega
        have htl : (l.take i).length ≤ 1000000 := by rw [List.length_take]; omega
        have hq : ok64 (l[i]'hin).qty := (ha0 _ (List.getElem_mem hin)).2.2
        have hqi := hq.is
        have hb := lots_bound (l.take i) k (fun x hx => ha0 x (List.mem_of_mem_take hx)) htl
        have hb1 := big_len' (z := z) (by omega)
        have hb2 := big_len' (z := (l[i]'hin).qty) (by omega)
        have hS0 := lots_succ l k i hin
        refine H.at (a := a1) (n := n2) (c := c3) (els := (l).map ALot.r) (i := ((i : Int)).toNat) (cs := (ALot.r ((l)[i]'hin))) (by simp [hin]) (Nat.succ_pos _) ?_
        intro ad29 hn30e hn30 H hat31l hat31
        refine ⟨ad29, hn30e, (by first | exact Int.natCast_nonneg _ | omega), (by first | omega | (simp; omega)), ?_⟩
        refine ⟨.int .i64 (((l)[i]'hin).asset), hat31.1, Us.box (Us.ad (Us.ad hn30)), ?_⟩
        apply And.intro <;> intro q32
        · have q32' := q32; simp at q32'
          have hS := hS0
          rw [if_pos (by simpa using q32)] at hS
          refine ⟨by decide +kernel, ([] : List Nat), [1], ?_⟩
          refine ⟨ad29, hn30e, (by first | exact Int.natCast_nonneg _ | omega), (by first | omega | (simp; omega)), ?_⟩
          refine ⟨fun hm => (by first | exact absurd hm (by simp; done) | exact Us.own (Us.ad (Us.ad hn30)) (by simpa [ownBl, Own.row, oblk, Own.obj] using hm)), .int .i64 (((l)[i]'hin).qty), hat31.2.2.1, Us.box (Us.ad (Us.ad hn30)), ?_⟩
          refine ⟨?_, ?_⟩
          · refine andE (ExtS.refl (([] : List Nat)) [1] _ _) fun E => ?_
            intro w' t
            refine H.cD t E (ofB_ct (((l)[i]'hin).qty) hq) ?_
            intro a33 n34 c35 h36 h36l h36c w' H E
            simp only [List.length_map] at h36
            refine ⟨E, ?_⟩
            intro w' t
            refine H.cD t E (ct_big (b := big (z + (l[i]'hin).qty)) (addB_ct ((big (z))) ((big (((l)[i]'hin).qty))) (nb_big _) (nb_big _) hb1 hb2) (by rw [bv_big, bv_big])) ?_
            intro a37 n38 c39 h40 h40l h40c w' H E
            simp only [List.length_map] at h40
            refine ⟨E, ?_⟩
            refine andE (E.store (by repeat (first | exact trivial | exact rfl | refine ⟨?_, ?_⟩))) fun E => ?_
            intro w' t
            refine ⟨⟨i + 1, z + (l[i]'hin).qty, true, a37, n38, c39⟩, (by first | rfl | exact xInc (by first | omega | (rw [maxLen_eq]; omega)) | simp), rfl, rfl, ⟨H.fin t 2 _, ?_⟩, ?_⟩
            · exact ⟨hin, by rw [hz, hS]⟩
            · show l.length - (i + 1) < l.length - i; omega
          · intro w' t
            refine H.cD t (ExtS.refl (([] : List Nat)) [1] _ _) (ofB_ct (((l)[i]'hin).qty) hq) ?_
            intro a41 n42 c43 h44 h44l h44c w' H E
            simp only [List.length_map] at h44
            refine ⟨E, ?_⟩
            refine andE E fun E => ?_
            intro w' t
            refine H.cD t E (ct_big (b := big (z + (l[i]'hin).qty)) (addB_ct ((big (z))) ((big (((l)[i]'hin).qty))) (nb_big _) (nb_big _) hb1 hb2) (by rw [bv_big, bv_big])) ?_
            intro a45 n46 c47 h48 h48l h48c w' H E
            simp only [List.length_map] at h48
            refine ⟨E, ?_⟩
            refine andE (E.store (by repeat (first | exact trivial | exact rfl | refine ⟨?_, ?_⟩))) fun E => ?_
            intro w' t
            refine ⟨⟨i + 1, z + (l[i]'hin).qty, true, a45, n46, c47⟩, (by first | rfl | exact xInc (by first | omega | (rw [maxLen_eq]; omega)) | simp), rfl, rfl, ⟨H.fin t 2 _, ?_⟩, ?_⟩
            · exact ⟨hin, by rw [hz, hS]⟩
            · show l.length - (i + 1) < l.length - i; omega
        · have q32' := q32; simp at q32'
          have hS := hS0
          rw [if_neg (by simpa using q32)] at hS
          simp only [Int.add_zero] at hS
          intro w' t
          refine ⟨⟨i + 1, z, true, na, nn, nc⟩, (by first | rfl | exact xInc (by first | omega | (rw [maxLen_eq]; omega)) | simp), rfl, rfl, ⟨H.fin t 2 _, ?_⟩, ?_⟩
          · exact ⟨hin, by rw [hz, hS]⟩
          · show l.length - (i + 1) < l.length - i; omega
      · have q28' := of_decide_eq_false q28
        have hie : l.take i = l := List.take_of_length_le (by omega)
        have hr : big (lotsSum l k) = big (z) := by rw [hz, hie]
        intro w' t
        rw [hr]
        exact H.r t
set_option maxRecDepth 100000 in
theorem openB2_ct (l : List APos) (k : Int) (ha0 : ∀ x ∈ l, x.ok) (hb0 : l.length ≤ 1000000) : Ct Try.prog 100 [.sl 3 (l.map APos.r), .val (.int .i64 k)] (.agg (Novationref01Big.r (big (bookSum l k)))) := by
  refine ct_startT [] [(5, (.rd 1 (.rd 2 (.rd 3 (.rd 4 (.rd 5 (.rd 6 (.two 0 7 (ofL [(7, false), (8, false), (9, false), (10, false)]) ((.two 0 8 (ofL [(8, false), (9, false), (10, false)]) (ofL [(0, false), (9, false), (10, false)])))))))))))] Try.func100 rfl (by decide +kernel) rfl ?_
  intro a1 n2 c3 h4 h4l h4c U w H
  simp only [List.length_map] at h4
  intro b5 hb5
  have H := H.box hb5
  intro b6 hb6
  have H := H.box hb6
  refine ⟨[6, 8, 9, 10, 11, 12, 13, 14, 15, 16, 17, 18, 19, 20, 21, 22, 23],
    { X := (Nat) × (Int) × (Bool) × (Option Addr) × (Nat) × (Nat), slots := [6], vals := fun (i, z, k0, na, nn, nc) => [.int .i64 ((i : Int))], boxes := [1], cells := fun (i, z, k0, na, nn, nc) => [[(bif k0 then XV.bool ((big (z)).neg) else XV.lit ((big (z)).neg)), .slc na nn nc]],
      inv := fun (i, z, k0, na, nn, nc) w' => Ctx w U [] [b5, b6] [] [(.slice a1 n2 c3, .sl 3 ((l).map APos.r)), (.slice na nn nc, .sl 1 (((big (z)).b).map (fun x => [R.val (.int .u8 x)])))] w' ∧ (i ≤ l.length ∧ z = bookSum (l.take i) k), μ := fun (i, z, k0, na, nn, nc) => l.length - i }, by kernel_rfl, ?_, ?_, ?_⟩
  · rintro ⟨i, z, k0, na, nn, nc⟩; cases k0 <;> exact ⟨⟨trivial, trivial⟩, ⟨trivial, trivial, trivial⟩, trivial⟩
  · intro w' t
    have H := nilB H (l := (big (0)).b) (by simp [big, bits0])
    refine ⟨⟨0, 0, false, none, 0, 0⟩, rfl, rfl, rfl, H.fin t 2 _, ?_⟩
    exact ⟨Nat.zero_le _, rfl⟩
  · rintro ⟨i, z, k0, na, nn, nc⟩ w' ⟨H, hI⟩
    obtain ⟨hi, hz⟩ := hI
    cases k0
    · apply And.intro <;> intro q7
      · have q7' := of_decide_eq_true q7
        have hin : i < l.length := by omega
        have htl : (l.take i).length ≤ 1000000 := by rw [List.length_take]; omega
        have hq : ok64 (vecGet (l[i]'hin).legs k) := vecGet_ok _ _ (ha0 _ (List.getElem_mem hin)).2.1
        have hqi := hq.is
        have hbl : ∀ x ∈ l.take i, -9223372036854775808 ≤ vecGet x.legs k ∧ vecGet x.legs k ≤ 9223372036854775808 := fun x hx => by have := (vecGet_ok x.legs k (ha0 x (List.mem_of_mem_take hx)).2.1).is; omega
        have hb := sum_bound (fun x => vecGet x.legs k) 9223372036854775808 (l.take i) hbl
        have hb1 := big_len' (z := z) (by rw [hz]; unfold bookSum; omega)
        have hb2 := big_len' (z := vecGet (l[i]'hin).legs k) (by omega)
        have hS := book_succ l k i hin
        refine ⟨by decide +kernel, ([] : List Nat), [1], ?_⟩
        refine H.at (a := a1) (n := n2) (c := c3) (els := (l).map APos.r) (i := ((i : Int)).toNat) (cs := (APos.r ((l)[i]'hin))) (by simp [hin]) (Nat.succ_pos _) ?_
        intro ad8 hn9e hn9 a10 n11 c12 h13 h13l h13c H hat14l hat14
        simp only [List.length_map] at h13
        refine ⟨ad8, hn9e, (by first | exact Int.natCast_nonneg _ | omega), (by first | omega | (simp; omega)), ?_⟩
        refine ⟨fun hm => (by first | exact absurd hm (by simp; done) | exact Us.own (Us.ad (Us.ad hn9)) (by simpa [ownBl, Own.row, oblk, Own.obj] using hm)), .slice a10 n11 c12, hat14.2.2.1, Us.box (Us.ad (Us.ad hn9)), ?_⟩
        refine ⟨?_, ?_⟩
        · refine andE (ExtS.refl (([] : List Nat)) [1] _ _) fun E => ?_
          intro w' t
          refine H.cD t E (getB_ct (((l)[i]'hin).legs) (k)) ?_
          intro w' H E
          refine ⟨E, ?_⟩
          intro w' t
          refine H.cD t E (ofB_ct ((vecGet (((l)[i]'hin).legs) (k))) hq) ?_
          intro a15 n16 c17 h18 h18l h18c w' H E
          simp only [List.length_map] at h18
          refine ⟨E, ?_⟩
          intro w' t
          refine H.cD t E (ct_big (b := big (z + vecGet (l[i]'hin).legs k)) (addB_ct ((big (z))) ((big ((vecGet (((l)[i]'hin).legs) (k))))) (nb_big _) (nb_big _) hb1 hb2) (by rw [bv_big, bv_big])) ?_
          intro a19 n20 c21 h22 h22l h22c w' H E
          simp only [List.length_map] at h22
          refine ⟨E, ?_⟩
          refine andE (E.store (by repeat (first | exact trivial | exact rfl | refine ⟨?_, ?_⟩))) fun E => ?_
          intro w' t
          refine ⟨⟨i + 1, z + vecGet (l[i]'hin).legs k, true, a19, n20, c21⟩, (by first | rfl | exact xInc (by first | omega | (rw [maxLen_eq]; omega)) | simp), rfl, rfl, ⟨H.fin t 2 _, ?_⟩, ?_⟩
          · exact ⟨hin, by rw [hz, hS]⟩
          · show l.length - (i + 1) < l.length - i; omega
        · intro w' t
          refine H.cD t (ExtS.refl (([] : List Nat)) [1] _ _) (getB_ct (((l)[i]'hin).legs) (k)) ?_
          intro w' H E
          refine ⟨E, ?_⟩
          refine ⟨?_, ?_⟩
          · refine andE E fun E => ?_
            intro w' t
            refine H.cD t E (ofB_ct ((vecGet (((l)[i]'hin).legs) (k))) hq) ?_
            intro a23 n24 c25 h26 h26l h26c w' H E
            simp only [List.length_map] at h26
            refine ⟨E, ?_⟩
            intro w' t
            refine H.cD t E (ct_big (b := big (z + vecGet (l[i]'hin).legs k)) (addB_ct ((big (z))) ((big ((vecGet (((l)[i]'hin).legs) (k))))) (nb_big _) (nb_big _) hb1 hb2) (by rw [bv_big, bv_big])) ?_
            intro a27 n28 c29 h30 h30l h30c w' H E
            simp only [List.length_map] at h30
            refine ⟨E, ?_⟩
            refine andE (E.store (by repeat (first | exact trivial | exact rfl | refine ⟨?_, ?_⟩))) fun E => ?_
            intro w' t
            refine ⟨⟨i + 1, z + vecGet (l[i]'hin).legs k, true, a27, n28, c29⟩, (by first | rfl | exact xInc (by first | omega | (rw [maxLen_eq]; omega)) | simp), rfl, rfl, ⟨H.fin t 2 _, ?_⟩, ?_⟩
            · exact ⟨hin, by rw [hz, hS]⟩
            · show l.length - (i + 1) < l.length - i; omega
          · intro w' t
            refine H.cD t E (ofB_ct ((vecGet (((l)[i]'hin).legs) (k))) hq) ?_
            intro a31 n32 c33 h34 h34l h34c w' H E
            simp only [List.length_map] at h34
            refine ⟨E, ?_⟩
            refine andE E fun E => ?_
            intro w' t
            refine H.cD t E (ct_big (b := big (z + vecGet (l[i]'hin).legs k)) (addB_ct ((big (z))) ((big ((vecGet (((l)[i]'hin).legs) (k))))) (nb_big _) (nb_big _) hb1 hb2) (by rw [bv_big, bv_big])) ?_
            intro a35 n36 c37 h38 h38l h38c w' H E
            simp only [List.length_map] at h38
            refine ⟨E, ?_⟩
            refine andE (E.store (by repeat (first | exact trivial | exact rfl | refine ⟨?_, ?_⟩))) fun E => ?_
            intro w' t
            refine ⟨⟨i + 1, z + vecGet (l[i]'hin).legs k, true, a35, n36, c37⟩, (by first | rfl | exact xInc (by first | omega | (rw [maxLen_eq]; omega)) | simp), rfl, rfl, ⟨H.fin t 2 _, ?_⟩, ?_⟩
            · exact ⟨hin, by rw [hz, hS]⟩
            · show l.length - (i + 1) < l.length - i; omega
      · have q7' := of_decide_eq_false q7
        have hie : l.take i = l := List.take_of_length_le (by omega)
        have hr : big (bookSum l k) = big (z) := by rw [hz, hie]
        intro w' t
        rw [hr]
        exact H.r t
    · apply And.intro <;> intro q39
      · have q39' := of_decide_eq_true q39
        have hin : i < l.length := by omega
        have htl : (l.take i).length ≤ 1000000 := by rw [List.length_take]; omega
        have hq : ok64 (vecGet (l[i]'hin).legs k) := vecGet_ok _ _ (ha0 _ (List.getElem_mem hin)).2.1
        have hqi := hq.is
        have hbl : ∀ x ∈ l.take i, -9223372036854775808 ≤ vecGet x.legs k ∧ vecGet x.legs k ≤ 9223372036854775808 := fun x hx => by have := (vecGet_ok x.legs k (ha0 x (List.mem_of_mem_take hx)).2.1).is; omega
        have hb := sum_bound (fun x => vecGet x.legs k) 9223372036854775808 (l.take i) hbl
        have hb1 := big_len' (z := z) (by rw [hz]; unfold bookSum; omega)
        have hb2 := big_len' (z := vecGet (l[i]'hin).legs k) (by omega)
        have hS := book_succ l k i hin
        refine ⟨by decide +kernel, ([] : List Nat), [1], ?_⟩
        refine H.at (a := a1) (n := n2) (c := c3) (els := (l).map APos.r) (i := ((i : Int)).toNat) (cs := (APos.r ((l)[i]'hin))) (by simp [hin]) (Nat.succ_pos _) ?_
        intro ad40 hn41e hn41 a42 n43 c44 h45 h45l h45c H hat46l hat46
        simp only [List.length_map] at h45
        refine ⟨ad40, hn41e, (by first | exact Int.natCast_nonneg _ | omega), (by first | omega | (simp; omega)), ?_⟩
        refine ⟨fun hm => (by first | exact absurd hm (by simp; done) | exact Us.own (Us.ad (Us.ad hn41)) (by simpa [ownBl, Own.row, oblk, Own.obj] using hm)), .slice a42 n43 c44, hat46.2.2.1, Us.box (Us.ad (Us.ad hn41)), ?_⟩
        refine ⟨?_, ?_⟩
        · refine andE (ExtS.refl (([] : List Nat)) [1] _ _) fun E => ?_
          intro w' t
          refine H.cD t E (getB_ct (((l)[i]'hin).legs) (k)) ?_
          intro w' H E
          refine ⟨E, ?_⟩
          intro w' t
          refine H.cD t E (ofB_ct ((vecGet (((l)[i]'hin).legs) (k))) hq) ?_
          intro a47 n48 c49 h50 h50l h50c w' H E
          simp only [List.length_map] at h50
          refine ⟨E, ?_⟩
          intro w' t
          refine H.cD t E (ct_big (b := big (z + vecGet (l[i]'hin).legs k)) (addB_ct ((big (z))) ((big ((vecGet (((l)[i]'hin).legs) (k))))) (nb_big _) (nb_big _) hb1 hb2) (by rw [bv_big, bv_big])) ?_
          intro a51 n52 c53 h54 h54l h54c w' H E
          simp only [List.length_map] at h54
          refine ⟨E, ?_⟩
          refine andE (E.store (by repeat (first | exact trivial | exact rfl | refine ⟨?_, ?_⟩))) fun E => ?_
          intro w' t
          refine ⟨⟨i + 1, z + vecGet (l[i]'hin).legs k, true, a51, n52, c53⟩, (by first | rfl | exact xInc (by first | omega | (rw [maxLen_eq]; omega)) | simp), rfl, rfl, ⟨H.fin t 2 _, ?_⟩, ?_⟩
          · exact ⟨hin, by rw [hz, hS]⟩
          · show l.length - (i + 1) < l.length - i; omega
        · intro w' t
          refine H.cD t (ExtS.refl (([] : List Nat)) [1] _ _) (getB_ct (((l)[i]'hin).legs) (k)) ?_
          intro w' H E
          refine ⟨E, ?_⟩
          refine ⟨?_, ?_⟩
          · refine andE E fun E => ?_
            intro w' t
            refine H.cD t E (ofB_ct ((vecGet (((l)[i]'hin).legs) (k))) hq) ?_
            intro a55 n56 c57 h58 h58l h58c w' H E
            simp only [List.length_map] at h58
            refine ⟨E, ?_⟩
            intro w' t
            refine H.cD t E (ct_big (b := big (z + vecGet (l[i]'hin).legs k)) (addB_ct ((big (z))) ((big ((vecGet (((l)[i]'hin).legs) (k))))) (nb_big _) (nb_big _) hb1 hb2) (by rw [bv_big, bv_big])) ?_
            intro a59 n60 c61 h62 h62l h62c w' H E
            simp only [List.length_map] at h62
            refine ⟨E, ?_⟩
            refine andE (E.store (by repeat (first | exact trivial | exact rfl | refine ⟨?_, ?_⟩))) fun E => ?_
            intro w' t
            refine ⟨⟨i + 1, z + vecGet (l[i]'hin).legs k, true, a59, n60, c61⟩, (by first | rfl | exact xInc (by first | omega | (rw [maxLen_eq]; omega)) | simp), rfl, rfl, ⟨H.fin t 2 _, ?_⟩, ?_⟩
            · exact ⟨hin, by rw [hz, hS]⟩
            · show l.length - (i + 1) < l.length - i; omega
          · intro w' t
            refine H.cD t E (ofB_ct ((vecGet (((l)[i]'hin).legs) (k))) hq) ?_
            intro a63 n64 c65 h66 h66l h66c w' H E
            simp only [List.length_map] at h66
            refine ⟨E, ?_⟩
            refine andE E fun E => ?_
            intro w' t
            refine H.cD t E (ct_big (b := big (z + vecGet (l[i]'hin).legs k)) (addB_ct ((big (z))) ((big ((vecGet (((l)[i]'hin).legs) (k))))) (nb_big _) (nb_big _) hb1 hb2) (by rw [bv_big, bv_big])) ?_
            intro a67 n68 c69 h70 h70l h70c w' H E
            simp only [List.length_map] at h70
            refine ⟨E, ?_⟩
            refine andE (E.store (by repeat (first | exact trivial | exact rfl | refine ⟨?_, ?_⟩))) fun E => ?_
            intro w' t
            refine ⟨⟨i + 1, z + vecGet (l[i]'hin).legs k, true, a67, n68, c69⟩, (by first | rfl | exact xInc (by first | omega | (rw [maxLen_eq]; omega)) | simp), rfl, rfl, ⟨H.fin t 2 _, ?_⟩, ?_⟩
            · exact ⟨hin, by rw [hz, hS]⟩
            · show l.length - (i + 1) < l.length - i; omega
      · have q39' := of_decide_eq_false q39
        have hie : l.take i = l := List.take_of_length_le (by omega)
        have hr : big (bookSum l k) = big (z) := by rw [hz, hie]
        intro w' t
        rw [hr]
        exact H.r t
set_option maxRecDepth 100000 in
theorem holdB_ct (l : List AHold) (k : Int) (ha0 : ∀ x ∈ l, x.ok ∧ x.lots.length ≤ 1000000) (hb0 : l.length ≤ 1000000) : Ct Try.prog 101 [.sl 3 (l.map AHold.r), .val (.int .i64 k)] (.agg (Novationref01Big.r (big (holdSum l k)))) := by
  refine ct_startT [] [(5, (.rd 1 (.rd 2 (.rd 3 (.rd 4 (.rd 5 (.rd 6 (.two 0 7 (ofL [(7, false), (8, false), (9, false)]) (ofL [(0, false), (8, false), (9, false)])))))))))] Try.func101 rfl (by decide +kernel) rfl ?_
  intro a1 n2 c3 h4 h4l h4c U w H
  simp only [List.length_map] at h4
  intro b5 hb5
  have H := H.box hb5
  intro b6 hb6
  have H := H.box hb6
  refine ⟨[6, 8, 9, 10, 11, 12, 13, 14, 15, 16, 17, 18, 19, 20, 21, 22],
    { X := (Nat) × (Int) × (Bool) × (Option Addr) × (Nat) × (Nat), slots := [6], vals := fun (i, z, k0, na, nn, nc) => [.int .i64 ((i : Int))], boxes := [1], cells := fun (i, z, k0, na, nn, nc) => [[(bif k0 then XV.bool ((big (z)).neg) else XV.lit ((big (z)).neg)), .slc na nn nc]],
      inv := fun (i, z, k0, na, nn, nc) w' => Ctx w U [] [b5, b6] [] [(.slice a1 n2 c3, .sl 3 ((l).map AHold.r)), (.slice na nn nc, .sl 1 (((big (z)).b).map (fun x => [R.val (.int .u8 x)])))] w' ∧ (i ≤ l.length ∧ z = holdSum (l.take i) k), μ := fun (i, z, k0, na, nn, nc) => l.length - i }, by kernel_rfl, ?_, ?_, ?_⟩
  · rintro ⟨i, z, k0, na, nn, nc⟩; cases k0 <;> exact ⟨⟨trivial, trivial⟩, ⟨trivial, trivial, trivial⟩, trivial⟩
  · intro w' t
    have H := nilB H (l := (big (0)).b) (by simp [big, bits0])
    refine ⟨⟨0, 0, false, none, 0, 0⟩, rfl, rfl, rfl, H.fin t 2 _, ?_⟩
    exact ⟨Nat.zero_le _, rfl⟩
  · rintro ⟨i, z, k0, na, nn, nc⟩ w' ⟨H, hI⟩
    obtain ⟨hi, hz⟩ := hI
    cases k0
    · apply And.intro <;> intro q7
      · have q7' := of_decide_eq_true q7
        have hin : i < l.length := by omega
        have htl : (l.take i).length ≤ 1000000 := by rw [List.length_take]; omega
        have hbl : ∀ x ∈ l, -(9223372036854775808 * 1000000) ≤ lotsSum x.lots k ∧ lotsSum x.lots k ≤ 9223372036854775808 * 1000000 := fun x hx => lots_bound x.lots k (ha0 x hx).1.2.1 (ha0 x hx).2
        have hq := hbl _ (List.getElem_mem hin)
        have hb := sum_bound (fun x => lotsSum x.lots k) (9223372036854775808 * 1000000) (l.take i) (fun x hx => hbl x (List.mem_of_mem_take hx))
        have hb1 := big_len' (z := z) (by rw [hz]; unfold holdSum; omega)
        have hb2 := big_len' (z := lotsSum (l[i]'hin).lots k) (by omega)
        have hS := hold_succ l k i hin
        refine ⟨by decide +kernel, ([] : List Nat), [1], ?_⟩
        refine H.at (a := a1) (n := n2) (c := c3) (els := (l).map AHold.r) (i := ((i : Int)).toNat) (cs := (AHold.r ((l)[i]'hin))) (by simp [hin]) (Nat.succ_pos _) ?_
        intro ad8 hn9e hn9 a10 n11 c12 h13 h13l h13c H hat14l hat14
        simp only [List.length_map] at h13
        refine ⟨ad8, hn9e, (by first | exact Int.natCast_nonneg _ | omega), (by first | omega | (simp; omega)), ?_⟩
        refine ⟨fun hm => (by first | exact absurd hm (by simp; done) | exact Us.own (Us.ad (Us.ad hn9)) (by simpa [ownBl, Own.row, oblk, Own.obj] using hm)), .slice a10 n11 c12, hat14.2.2.1, Us.box (Us.ad (Us.ad hn9)), ?_⟩
        refine ⟨?_, ?_⟩
        · refine andE (ExtS.refl (([] : List Nat)) [1] _ _) fun E => ?_
          intro w' t
          refine H.cD t E (lotsB_ct (((l)[i]'hin).lots) (k) (ha0 _ (List.getElem_mem _)).1.2.1 (ha0 _ (List.getElem_mem _)).2) ?_
          intro a15 n16 c17 h18 h18l h18c w' H E
          simp only [List.length_map] at h18
          refine ⟨E, ?_⟩
          intro w' t
          refine H.cD t E (ct_big (b := big (z + lotsSum (l[i]'hin).lots k)) (addB_ct ((big (z))) ((big (lotsSum (((l)[i]'hin).lots) (k)))) (nb_big _) (nb_big _) hb1 hb2) (by rw [bv_big, bv_big])) ?_
          intro a19 n20 c21 h22 h22l h22c w' H E
          simp only [List.length_map] at h22
          refine ⟨E, ?_⟩
          refine andE (E.store (by repeat (first | exact trivial | exact rfl | refine ⟨?_, ?_⟩))) fun E => ?_
          intro w' t
          refine ⟨⟨i + 1, z + lotsSum (l[i]'hin).lots k, true, a19, n20, c21⟩, (by first | rfl | exact xInc (by first | omega | (rw [maxLen_eq]; omega)) | simp), rfl, rfl, ⟨H.fin t 2 _, ?_⟩, ?_⟩
          · exact ⟨hin, by rw [hz, hS]⟩
          · show l.length - (i + 1) < l.length - i; omega
        · intro w' t
          refine H.cD t (ExtS.refl (([] : List Nat)) [1] _ _) (lotsB_ct (((l)[i]'hin).lots) (k) (ha0 _ (List.getElem_mem _)).1.2.1 (ha0 _ (List.getElem_mem _)).2) ?_
          intro a23 n24 c25 h26 h26l h26c w' H E
          simp only [List.length_map] at h26
          refine ⟨E, ?_⟩
          refine andE E fun E => ?_
          intro w' t
          refine H.cD t E (ct_big (b := big (z + lotsSum (l[i]'hin).lots k)) (addB_ct ((big (z))) ((big (lotsSum (((l)[i]'hin).lots) (k)))) (nb_big _) (nb_big _) hb1 hb2) (by rw [bv_big, bv_big])) ?_
          intro a27 n28 c29 h30 h30l h30c w' H E
          simp only [List.length_map] at h30
          refine ⟨E, ?_⟩
          refine andE (E.store (by repeat (first | exact trivial | exact rfl | refine ⟨?_, ?_⟩))) fun E => ?_
          intro w' t
          refine ⟨⟨i + 1, z + lotsSum (l[i]'hin).lots k, true, a27, n28, c29⟩, (by first | rfl | exact xInc (by first | omega | (rw [maxLen_eq]; omega)) | simp), rfl, rfl, ⟨H.fin t 2 _, ?_⟩, ?_⟩
          · exact ⟨hin, by rw [hz, hS]⟩
          · show l.length - (i + 1) < l.length - i; omega
      · have q7' := of_decide_eq_false q7
        have hie : l.take i = l := List.take_of_length_le (by omega)
        have hr : big (holdSum l k) = big (z) := by rw [hz, hie]
        intro w' t
        rw [hr]
        exact H.r t
    · apply And.intro <;> intro q31
      · have q31' := of_decide_eq_true q31
        have hin : i < l.length := by omega
        have htl : (l.take i).length ≤ 1000000 := by rw [List.length_take]; omega
        have hbl : ∀ x ∈ l, -(9223372036854775808 * 1000000) ≤ lotsSum x.lots k ∧ lotsSum x.lots k ≤ 9223372036854775808 * 1000000 := fun x hx => lots_bound x.lots k (ha0 x hx).1.2.1 (ha0 x hx).2
        have hq := hbl _ (List.getElem_mem hin)
        have hb := sum_bound (fun x => lotsSum x.lots k) (9223372036854775808 * 1000000) (l.take i) (fun x hx => hbl x (List.mem_of_mem_take hx))
        have hb1 := big_len' (z := z) (by rw [hz]; unfold holdSum; omega)
        have hb2 := big_len' (z := lotsSum (l[i]'hin).lots k) (by omega)
        have hS := hold_succ l k i hin
        refine ⟨by decide +kernel, ([] : List Nat), [1], ?_⟩
        refine H.at (a := a1) (n := n2) (c := c3) (els := (l).map AHold.r) (i := ((i : Int)).toNat) (cs := (AHold.r ((l)[i]'hin))) (by simp [hin]) (Nat.succ_pos _) ?_
        intro ad32 hn33e hn33 a34 n35 c36 h37 h37l h37c H hat38l hat38
        simp only [List.length_map] at h37
        refine ⟨ad32, hn33e, (by first | exact Int.natCast_nonneg _ | omega), (by first | omega | (simp; omega)), ?_⟩
        refine ⟨fun hm => (by first | exact absurd hm (by simp; done) | exact Us.own (Us.ad (Us.ad hn33)) (by simpa [ownBl, Own.row, oblk, Own.obj] using hm)), .slice a34 n35 c36, hat38.2.2.1, Us.box (Us.ad (Us.ad hn33)), ?_⟩
        refine ⟨?_, ?_⟩
        · refine andE (ExtS.refl (([] : List Nat)) [1] _ _) fun E => ?_
          intro w' t
          refine H.cD t E (lotsB_ct (((l)[i]'hin).lots) (k) (ha0 _ (List.getElem_mem _)).1.2.1 (ha0 _ (List.getElem_mem _)).2) ?_
          intro a39 n40 c41 h42 h42l h42c w' H E
          simp only [List.length_map] at h42
          refine ⟨E, ?_⟩
          intro w' t
          refine H.cD t E (ct_big (b := big (z + lotsSum (l[i]'hin).lots k)) (addB_ct ((big (z))) ((big (lotsSum (((l)[i]'hin).lots) (k)))) (nb_big _) (nb_big _) hb1 hb2) (by rw [bv_big, bv_big])) ?_
          intro a43 n44 c45 h46 h46l h46c w' H E
          simp only [List.length_map] at h46
          refine ⟨E, ?_⟩
          refine andE (E.store (by repeat (first | exact trivial | exact rfl | refine ⟨?_, ?_⟩))) fun E => ?_
          intro w' t
          refine ⟨⟨i + 1, z + lotsSum (l[i]'hin).lots k, true, a43, n44, c45⟩, (by first | rfl | exact xInc (by first | omega | (rw [maxLen_eq]; omega)) | simp), rfl, rfl, ⟨H.fin t 2 _, ?_⟩, ?_⟩
          · exact ⟨hin, by rw [hz, hS]⟩
          · show l.length - (i + 1) < l.length - i; omega
        · intro w' t
          refine H.cD t (ExtS.refl (([] : List Nat)) [1] _ _) (lotsB_ct (((l)[i]'hin).lots) (k) (ha0 _ (List.getElem_mem _)).1.2.1 (ha0 _ (List.getElem_mem _)).2) ?_
          intro a47 n48 c49 h50 h50l h50c w' H E
          simp only [List.length_map] at h50
          refine ⟨E, ?_⟩
          refine andE E fun E => ?_
          intro w' t
          refine H.cD t E (ct_big (b := big (z + lotsSum (l[i]'hin).lots k)) (addB_ct ((big (z))) ((big (lotsSum (((l)[i]'hin).lots) (k)))) (nb_big _) (nb_big _) hb1 hb2) (by rw [bv_big, bv_big])) ?_
          intro a51 n52 c53 h54 h54l h54c w' H E
          simp only [List.length_map] at h54
          refine ⟨E, ?_⟩
          refine andE (E.store (by repeat (first | exact trivial | exact rfl | refine ⟨?_, ?_⟩))) fun E => ?_
          intro w' t
          refine ⟨⟨i + 1, z + lotsSum (l[i]'hin).lots k, true, a51, n52, c53⟩, (by first | rfl | exact xInc (by first | omega | (rw [maxLen_eq]; omega)) | simp), rfl, rfl, ⟨H.fin t 2 _, ?_⟩, ?_⟩
          · exact ⟨hin, by rw [hz, hS]⟩
          · show l.length - (i + 1) < l.length - i; omega
      · have q31' := of_decide_eq_false q31
        have hie : l.take i = l := List.take_of_length_le (by omega)
        have hr : big (holdSum l k) = big (z) := by rw [hz, hie]
        intro w' t
        rw [hr]
        exact H.r t
end Go.Proofs.Ytnldhkhnfodplaa

namespace Go.Proofs.Ytnldhkhnfodplaa
open Go Go.Vc Go.RowKit
theorem bits2 {n : Nat} (h : n ≠ 0) : bitsOf (n * 2) = 0 :: bitsOf n := by rw [bitsS (by omega)]; simp
theorem sh_len {hi : Int} {i : Nat} (h : ok64 hi) (h2 : i ≤ 64) : (bitsOf (hi.natAbs * 2 ^ i)).length ≤ 128 := by
  refine bits_len 128 _ ?_
  have := h.is
  have h1 : hi.natAbs ≤ 2 ^ 63 := by omega
  have h3 : 2 ^ i ≤ 2 ^ 64 := Nat.pow_le_pow_right (by omega) h2
  exact Nat.lt_of_le_of_lt (Nat.mul_le_mul h1 h3) (by decide)
theorem sh_mk {hi : Int} {s : List Int} (hs : s = bitsOf (hi.natAbs * 2 ^ 64)) : Novationref01Big.mk (big hi).neg s = big (18446744073709551616 * hi) := by
  subst hs; unfold big; congr 1
  · show decide (hi < 0) = _; congr 1; apply propext; omega
  · congr 1; omega
theorem sh_end {hi : Int} {s : List Int} {i : Nat} (hs : s = bitsOf (hi.natAbs * 2 ^ i)) (h0 : s.length = 0) : s = bitsOf (hi.natAbs * 2 ^ 64) := by
  have h1 : s = [] := List.length_eq_zero_iff.1 h0
  have h2 := congrArg valB hs; rw [valB_bits, h1] at h2
  have h3 : hi.natAbs = 0 := by
    rcases Nat.mul_eq_zero.1 h2.symm with h | h
    · exact h
    · exact absurd h (by have := Nat.pow_pos (n := i) (show 0 < 2 by omega); omega)
  rw [h3, Nat.zero_mul, bits0, h1]
theorem u64_rng {n : Int} (h : (Lit.int .u64 n).wf = true) : 0 ≤ n ∧ n < 18446744073709551616 := by simp [Lit.wf, IntKind.min, IntKind.max, IntKind.signed, IntKind.bits] at h; omega
set_option maxRecDepth 100000 in
theorem wideB_ct (hi : Int) (lo : Int) (ha0 : ok64 hi) (hb0 : 0 ≤ lo ∧ lo < 18446744073709551616) : Ct Try.prog 105 [.val (.int .i64 hi), .val (.int .u64 lo)] (.agg (Novationref01Big.r (big (18446744073709551616 * hi + lo)))) := by
  refine ct_startT [] [(8, ofL [(0, true), (1, true), (2, false), (3, false), (4, false)])] Try.func105 rfl (by decide +kernel) rfl ?_
  intro U w H
  have hzi := ha0.is
  intro b1 hb1
  have H := H.box hb1
  intro w' t
  refine H.c t (ofB_ct (hi) ha0) ?_
  intro a2 n3 c4 h5 h5l h5c w' H
  simp only [List.length_map] at h5
  intro b6 hb6
  have H := H.box hb6
  refine ⟨[6, 7, 10, 11, 12, 13, 14, 15, 16, 17, 18, 19, 20, 21, 22, 23, 24, 25, 26, 27],
    { X := (Nat) × (List Int) × (Option Addr) × (Nat) × (Nat), slots := [6], vals := fun (i, s, sa, sn, sc) => [.int .i64 ((i : Int))], boxes := [1], cells := fun (i, s, sa, sn, sc) => [[.bool ((big hi).neg), .slc sa sn sc]],
      inv := fun (i, s, sa, sn, sc) w' => Ctx w U [] [b1, b6] [] [(.slice a2 n3 c4, .sl 1 (((big (hi)).b).map (fun x => [R.val (.int .u8 x)]))), (.slice sa sn sc, .sl 1 ((s).map (fun x => [R.val (.int .u8 x)])))] w' ∧ (i ≤ 64 ∧ sn = s.length ∧ s = bitsOf (hi.natAbs * 2 ^ i)), μ := fun (i, s, sa, sn, sc) => 64 - i }, by kernel_rfl, ?_, ?_, ?_⟩
  · rintro ⟨i, s, sa, sn, sc⟩; exact ⟨⟨trivial, trivial⟩, ⟨trivial, trivial, trivial⟩, trivial⟩
  · intro w' t
    refine ⟨⟨0, (big hi).b, a2, n3, c4⟩, rfl, rfl, rfl, H.fin t 2 _, ?_⟩
    exact ⟨by omega, h5, by rw [Nat.pow_zero, Nat.mul_one]; rfl⟩
  · rintro ⟨i, s, sa, sn, sc⟩ w' ⟨H, hI⟩
    obtain ⟨hi64, hsn, hs⟩ := hI
    have hsl : s.length ≤ 128 := by rw [hs]; exact sh_len ha0 hi64
    apply And.intro <;> intro q7
    · have q7' := of_decide_eq_true q7
      apply And.intro <;> intro q8
      · have q8' := of_decide_eq_true q8
        have hn : hi.natAbs * 2 ^ i ≠ 0 := by intro h0; rw [h0, bits0] at hs; rw [hs] at hsn; simp at hsn; omega
        intro w' t
        refine Ctx.lit elemOk41 H t (els := [[.val (.int .u8 (0))]]) [.int .u8 (0)] rfl (⟨rfl, ⟨⟨rfl, trivial⟩, rfl⟩, trivial⟩) rfl (by decide) (by decide) ?_
        intro lb9 w' H
        have H := H.newRow 5 1
        intro w' t
        refine H.ap (a2 := (some ⟨lb9, 0, none⟩)) (m := 1) (c2 := 1) (news := (([(0)] : List Int)).map (fun x => [R.val (.int .u8 x)])) t elemOk41 (by simp) (by first | (rw [maxLen_eq]; simp; omega) | (rw [maxLen_eq]; simp; done) | (rw [maxLen_eq]; simp at *; omega)) (by first | (simp; omega) | (simp; done) | (simp at *; omega)) ?_ (hm := by repeat (first | exact List.Mem.head _ | apply List.Mem.tail))
        intro a10 c11 w' H hl12
        have H := H.rowEq ((([] ++ ([(0)] : List Int))).map (fun x => [R.val (.int .u8 x)])) (by first | (rw [List.map_append]; done) | simp)
        intro w' t
        refine H.ap (a2 := sa) (m := sn) (c2 := sc) (news := (s).map (fun x => [R.val (.int .u8 x)])) t elemOk41 (by simp) (by first | (rw [maxLen_eq]; simp; omega) | (rw [maxLen_eq]; simp; done) | (rw [maxLen_eq]; simp at *; omega)) (by first | (simp; omega) | (simp; done) | (simp at *; omega)) ?_ (hm := by repeat (first | exact List.Mem.head _ | apply List.Mem.tail))
        intro a13 c14 w' H hl15
        have H := H.rowEq (((([] ++ ([(0)] : List Int)) ++ s)).map (fun x => [R.val (.int .u8 x)])) (by first | (rw [List.map_append]; done) | simp)
        have H := Ctx.view (A := []) H
        have hv : ∀ l : List Int, (l.map (fun x => [R.val (.int .u8 x)])).length = l.length := fun l => by simp
        rw [hv] at H
        have H := Ctx.lenEq H (((0 + 1) + sn)) (by first | rfl | (simp; done) | (simp; omega))
        intro w' t
        refine ⟨⟨i + 1, (([] ++ ([(0)] : List Int)) ++ s), a13, ((0 + 1) + sn), c14⟩, (by first | rfl | exact xInc (by first | omega | (rw [maxLen_eq]; omega)) | simp), rfl, rfl, ⟨H.fin t 2 _, ?_⟩, ?_⟩
        · refine ⟨by omega, by simp; omega, ?_⟩
          show 0 :: s = _
          rw [Nat.pow_succ, ← Nat.mul_assoc, bits2 hn, hs]
        · show 64 - (i + 1) < 64 - i; omega
      · have q8' := of_decide_eq_false q8
        have hs64 := sh_end hs (by omega)
        have hmk := sh_mk hs64
        refine ⟨by decide +kernel, ([] : List Nat), [0], ?_⟩
        refine ⟨rfl, ?_⟩
        intro w' t
        refine H.cD t (ExtS.refl (([] : List Nat)) [0] _ _) (natB_ct (lo) hb0.1 hb0.2) ?_
        intro a16 n17 c18 h19 h19l h19c w' H E
        simp only [List.length_map] at h19
        refine ⟨E, ?_⟩
        intro w' t
        refine H.cD t E (ct_big (b := big (18446744073709551616 * hi + lo)) (addB_ct (Novationref01Big.mk ((big hi).neg) (s)) ((bigS false ((lo)).toNat)) (by rw [hmk]; exact nb_big _) (by rw [bigS_f]; exact nb_big _) (show s.length ≤ 1000 by omega) (by rw [bigS_f]; exact big_len' (by omega))) (by rw [hmk, bv_big, bigS_f, bv_big, Int.toNat_of_nonneg hb0.1])) ?_
        intro a20 n21 c22 h23 h23l h23c w' H E
        simp only [List.length_map] at h23
        refine ⟨E, ?_⟩
        refine andE (E.store (by repeat (first | exact trivial | exact rfl | refine ⟨?_, ?_⟩))) fun E => ?_
        intro w' t
        exact H.r t
    · have q7' := of_decide_eq_false q7
      have hs64 : s = bitsOf (hi.natAbs * 2 ^ 64) := by rw [show i = 64 by omega] at hs; exact hs
      have hmk := sh_mk hs64
      refine ⟨by decide +kernel, ([] : List Nat), [0], ?_⟩
      refine ⟨rfl, ?_⟩
      intro w' t
      refine H.cD t (ExtS.refl (([] : List Nat)) [0] _ _) (natB_ct (lo) hb0.1 hb0.2) ?_
      intro a24 n25 c26 h27 h27l h27c w' H E
      simp only [List.length_map] at h27
      refine ⟨E, ?_⟩
      intro w' t
      refine H.cD t E (ct_big (b := big (18446744073709551616 * hi + lo)) (addB_ct (Novationref01Big.mk ((big hi).neg) (s)) ((bigS false ((lo)).toNat)) (by rw [hmk]; exact nb_big _) (by rw [bigS_f]; exact nb_big _) (show s.length ≤ 1000 by omega) (by rw [bigS_f]; exact big_len' (by omega))) (by rw [hmk, bv_big, bigS_f, bv_big, Int.toNat_of_nonneg hb0.1])) ?_
      intro a28 n29 c30 h31 h31l h31c w' H E
      simp only [List.length_map] at h31
      refine ⟨E, ?_⟩
      refine andE (E.store (by repeat (first | exact trivial | exact rfl | refine ⟨?_, ?_⟩))) fun E => ?_
      intro w' t
      exact H.r t
set_option maxRecDepth 100000 in
theorem bigB_ct (w0 : WideWide) (ha0 : w0.ok) : Ct Try.prog 49 [.agg (WideWide.r w0)] (.agg (Novationref01Big.r (big (w0).v))) := by
  refine ct_startT [] [] Try.func49 rfl (by decide +kernel) rfl ?_
  intro U w H
  intro b1 hb1
  have H := H.box hb1
  intro b2 hb2
  have H := H.box hb2
  intro w' t
  refine H.c t (wideB_ct (w0.hi) (w0.lo) ha0.1 (u64_rng ha0.2)) ?_
  intro a3 n4 c5 h6 h6l h6c w' H
  simp only [List.length_map] at h6
  intro w' t
  rw [show w0.v = 18446744073709551616 * w0.hi + w0.lo by unfold WideWide.v; omega]
  exact H.r t
end Go.Proofs.Ytnldhkhnfodplaa
