import Derived.Test.YtclleaffonkegaaGreatB7
import Derived.WalkKit
import Derived.ProofKit
import Derived.OpenShut
import Derived.ShutString
import Derived.ChangeOld
import Derived.Below
import Derived.Lib.SmallJoins
namespace Go.Proofs.YtclleaffonkegaaGreat
open Go Go.Vc Go.RowKit
/-! ### pack, in plain words -/
theorem join_b {β : Type} {k : Bool × Unit → Option β} {f : (Bool × Unit → Option β) → Option β} (b : Bool) (h : ∀ K : Bool × Unit → Option β, f K = K (b, ())) : stdW.join k f = k (b, ()) := h k
theorem idx_z {α β : Type} {x : α} {l : List α} (K : α → Option β) : stdW.idx (x :: l) 0 K = K x := by show idxF (x :: l) 0 K = _; unfold idxF; simp
def Bt (l : List Int) : Prop := ∀ b ∈ l, 0 ≤ b ∧ b < 256
theorem r_unfolded (u : Nat) (hu : u < 18446744073709551616) : pack_unfolded (u : Int) = some (unf u) := by
  show pack_unfoldedW stdW u = _
  unfold pack_unfoldedW
  rw [nn_w (by omega), unf_bits u hu]
theorem r_folded {n : Int} (hn : Is64 n) : pack_folded n = some (fold n : Int) := by
  show pack_foldedW stdW n = _
  unfold pack_foldedW
  rw [nn_w (by omega), nn_w (by omega), fold_bits n hn]
def resN (x : Option Nat × List Int × Int) : Option ((Int × Bool × Unit) × (Bool × (List Int) × Int × Unit)) := some ((((x.1.getD 0 : Nat) : Int), (x.1.isSome, ())), (true, (x.2.1, (x.2.2, ()))))
theorem r_number {bs : List Int} (hb : Bt bs) (hl : bs.length < 9223372036854775807) : pack_Reader_number true bs 0 = resN (numS 0 0 bs) := by
  show pack_Reader_numberW stdW true bs 0 = _
  unfold pack_Reader_numberW
  refine (loop_std (fun z => z.2.2.2.1.length) (fun z => ∃ (u sh : Nat) (l : List Int), z = ((u : Int), ((sh : Int), (true, (l, (0, ()))))) ∧ u < 18446744073709551616 ∧ sh ≤ 70 ∧ Bt l ∧ l.length < 9223372036854775807) (fun z => resN (numS z.2.1.toNat z.1.toNat z.2.2.2.1)) ⟨0, 0, bs, rfl, by omega, by omega, hb, hl⟩ (by show bs.length < _; omega) ?_)
  rintro _ ⟨u, sh, l, rfl, hu, hsh, hbt, hlen⟩ again ha
  cases l with
  | nil =>
    rw [cnd_y (by rfl), call_w (show pack_Reader_fail true [] 0 4 = some ((), (true, ([], (4, ())))) from rfl)]
    show _ = resN (numS sh u [])
    unfold numS; rfl
  | cons b r =>
    have h0 := hbt b (by simp)
    have hr : Bt r := fun x hx => hbt x (by simp [hx])
    show stdW.cnd (((b :: r).length : Int) == 0) _ _ = resN (numS sh u (b :: r))
    rw [cnd_n (by simp; omega)]
    show stdW.idx (b :: r) 0 _ = _
    rw [idx_z, bnd_w (by omega) (by simp; omega)]
    refine (join_b (decide (63 < sh ∨ (sh = 63 ∧ 1 < b) ∨ (b = 0 ∧ 0 < sh))) fun K => ?_).trans ?_
    · show stdW.cnd (decide ((63 : Int) < (sh : Int))) _ _ = _
      by_cases h1 : 63 < sh
      · rw [cnd_y (by simpa using by omega), decide_eq_true (.inl h1)]
      · rw [cnd_n (by simpa using by omega)]
        show stdW.cnd ((sh : Int) == 63) _ _ = _
        by_cases h2 : sh = 63
        · rw [cnd_y (by simp [h2])]
          by_cases h3 : 1 < b
          · rw [cnd_y (by simpa using h3), decide_eq_true (.inr (.inl ⟨h2, h3⟩))]
          · rw [cnd_n (by simpa using h3)]
            by_cases h4 : b = 0
            · rw [cnd_y (by simp [h4]), decide_eq_true (show 63 < sh ∨ (sh = 63 ∧ 1 < b) ∨ (b = 0 ∧ 0 < sh) from .inr (.inr ⟨h4, by omega⟩))]
              show K (decide ((0 : Int) < (sh : Int)), ()) = _
              rw [decide_eq_true (by omega)]
            · rw [cnd_n (by simp [h4]), decide_eq_false (by omega)]
        · rw [cnd_n (by simp; omega)]
          by_cases h4 : b = 0
          · rw [cnd_y (by simp [h4])]
            show K (decide ((0 : Int) < (sh : Int)), ()) = _
            congr 2
            apply decide_eq_decide.2; omega
          · rw [cnd_n (by simp [h4]), decide_eq_false (by omega)]
    · have ed : (List.take (b :: r).length (b :: r)).drop (Int.toNat 1) = r := by simp
      by_cases hbad : 63 < sh ∨ (sh = 63 ∧ 1 < b) ∨ (b = 0 ∧ 0 < sh)
      · rw [decide_eq_true hbad]
        show stdW.cnd true _ _ = _
        rw [cnd_y (by rfl), call_w (show pack_Reader_fail true _ 0 3 = some ((), (true, ([], (3, ())))) from rfl)]
        unfold numS; rw [if_pos hbad]; rfl
      · rw [decide_eq_false hbad]
        show stdW.cnd false _ _ = _
        rw [cnd_n (by rfl)]
        show stdW.nn (sh : Int) _ = _
        rw [nn_w (by omega)]
        unfold numS; rw [if_neg hbad]
        have ub := uNext_bits (sh := sh) (u := u) (b := b) hu (by omega) h0
        by_cases h128 : b < 128
        · rw [cnd_y (by simpa using h128), if_pos h128]
          show some ((Go.bits Go.BinOp.or Go.IntKind.u64 (u : Int) (IntKind.u64.wrap ((IntKind.u64.wrap (Go.bits Go.BinOp.and Go.IntKind.u8 b 127)) * (2 ^ (Min.min (Int.toNat (sh : Int)) (Go.IntKind.bits Go.IntKind.u64))))), (true, ())), (true, ((List.take (b :: r).length (b :: r)).drop (Int.toNat 1), (0, ())))) = _
          rw [ub, ed]; rfl
        · rw [cnd_n (by simpa using h128), if_neg h128]
          show again (Go.bits Go.BinOp.or Go.IntKind.u64 (u : Int) (IntKind.u64.wrap ((IntKind.u64.wrap (Go.bits Go.BinOp.and Go.IntKind.u8 b 127)) * (2 ^ (Min.min (Int.toNat (sh : Int)) (Go.IntKind.bits Go.IntKind.u64))))), (IntKind.i64.wrap ((sh : Int) + 7), (true, ((List.take (b :: r).length (b :: r)).drop (Int.toNat 1), (0, ()))))) = _
          rw [ub, ed]
          have es : IntKind.i64.wrap ((sh : Int) + 7) = ((sh + 7 : Nat) : Int) := by rw [IntWalk.i64_in _ (by omega)]; omega
          rw [es]
          exact ha _ ⟨uNext sh u b, sh + 7, r, rfl, uNext_lt hu, by omega, hr, by simp at hlen; omega⟩ (by show r.length < (b :: r).length; simp)
theorem numS_len : ∀ (bs : List Int) (sh u : Nat), (numS sh u bs).2.1.length ≤ bs.length
  | [], sh, u => by simp [numS]
  | b :: r, sh, u => by
    unfold numS
    split
    · simp
    · split
      · simp
      · have := numS_len r (sh + 7) (uNext sh u b); simp; omega
/-- a reading, as data -/
def rd (lo hi : Int) (s : List Int × Int) : Int × (List Int × Int) := ((rdInt s.1 s.2 lo hi).1, ((rdInt s.1 s.2 lo hi).2.1, (rdInt s.1 s.2 lo hi).2.2))
theorem r_pInt {lo hi : Int} {s : List Int × Int} (hb : Bt s.1) (hl : s.1.length < 9223372036854775807) : pack_Reader_Int true s.1 s.2 lo hi = some ((rd lo hi s).1, (true, ((rd lo hi s).2.1, ((rd lo hi s).2.2, ())))) := by
  obtain ⟨bs, e⟩ := s
  show pack_Reader_IntW stdW true bs e lo hi = _
  unfold pack_Reader_IntW rd rdInt
  rw [call_w (show pack_Reader_good true bs e = some ((e == 0), (true, (bs, (e, ())))) from rfl)]
  by_cases he : e = 0
  · subst he
    rw [cnd_n (by rfl)]
    rw [if_neg (by simp)]
    show stdW.call (pack_Reader_number true bs 0) _ = _
    rw [r_number hb hl]
    have hlt := numS_lt bs 0 0 (by decide)
    rcases hN : numS 0 0 bs with ⟨_ | u, r, e'⟩
    · rw [call_w (show resN (none, r, e') = some ((((0 : Nat) : Int), (false, ())), (true, (r, (e', ())))) from rfl)]
      show stdW.call (pack_unfolded ((0 : Nat) : Int)) _ = _
      rw [call_w (r_unfolded 0 (by decide)), cnd_y (by rfl)]
    · rw [hN] at hlt
      rw [call_w (show resN (some u, r, e') = some (((u : Int), (true, ())), (true, (r, (e', ())))) from rfl)]
      show stdW.call (pack_unfolded (u : Int)) _ = _
      rw [call_w (r_unfolded u (hlt u rfl)), cnd_n (by rfl)]
      refine (join_b (decide (unf u < lo ∨ hi < unf u)) fun K => ?_).trans ?_
      · by_cases h1 : unf u < lo
        · rw [cnd_y (by simpa using h1), decide_eq_true (.inl h1)]
        · rw [cnd_n (by simpa using h1)]
          congr 2; apply decide_eq_decide.2; simp [h1]
      · show stdW.cnd _ _ _ = _
        by_cases h1 : unf u < lo ∨ hi < unf u
        · rw [cnd_y (by simpa using h1)]
          show _ = some ((if unf u < lo ∨ hi < unf u then _ else _ : Int × List Int × Int).1, (true, ((if unf u < lo ∨ hi < unf u then _ else _ : Int × List Int × Int).2.1, ((if unf u < lo ∨ hi < unf u then _ else _ : Int × List Int × Int).2.2, ()))))
          rw [if_pos h1]; rfl
        · rw [cnd_n (by simpa using h1)]
          show _ = some ((if unf u < lo ∨ hi < unf u then _ else _ : Int × List Int × Int).1, (true, ((if unf u < lo ∨ hi < unf u then _ else _ : Int × List Int × Int).2.1, ((if unf u < lo ∨ hi < unf u then _ else _ : Int × List Int × Int).2.2, ()))))
          rw [if_neg h1]
  · rw [cnd_y (by simp [he])]
    rw [if_pos he]
/-! ### pack: writing, the ends -/
theorem nilq_w {β : Type} [EqB β] (e : Bool) (f : Bool → Option β) : stdW.nilq e f = nilF e f := rfl
theorem fd7 (u : Nat) : (u : Int).fdiv (2 ^ (Min.min (Int.toNat 7) (Go.IntKind.bits Go.IntKind.u64))) = ((u / 128 : Nat) : Int) := by
  have e : (2 : Int) ^ (Min.min (Int.toNat 7) (Go.IntKind.bits Go.IntKind.u64)) = 128 := by decide +kernel
  rw [e, Int.fdiv_eq_ediv_of_nonneg _ (by omega)]; omega
theorem r_pkOne {u : Nat} {b : List Int} (hu : u < 18446744073709551616) (hb : b.length ≤ 100000000) : pack_Writer_one true b (u : Int) = some ((), (true, (b ++ encU u, ()))) := by
  show pack_Writer_oneW stdW true b u = _
  unfold pack_Writer_oneW
  refine (loop_std (fun z => z.1.toNat) (fun z => ∃ (v : Nat) (l : List Int), z = ((v : Int), (true, (l, ()))) ∧ v < 18446744073709551616 ∧ l.length + (encU v).length ≤ 100000020) (fun z => some ((), (true, (z.2.2.1 ++ encU z.1.toNat, ())))) ⟨u, b, rfl, hu, by have := encU_len10 hu; omega⟩ (by show (u : Int).toNat < _; omega) ?_)
  rintro _ ⟨v, l, rfl, hv, hl⟩ again ha
  show stdW.cnd (decide ((128 : Int) ≤ (v : Int))) _ _ = some ((), (true, (l ++ encU (v : Int).toNat, ())))
  rw [Int.toNat_natCast]
  by_cases h : 128 ≤ v
  · rw [cnd_y (by simpa using by omega)]
    rw [encU_ge h] at hl ⊢
    simp only [List.length_cons] at hl
    rw [room_w (by simp only [List.length_cons, List.length_nil]; omega) (by simp only [List.length_cons, List.length_nil]; omega), nn_w (by omega)]
    show again ((v : Int).fdiv (2 ^ (Min.min (Int.toNat 7) (Go.IntKind.bits Go.IntKind.u64))), (true, (l ++ (Go.bits Go.BinOp.or Go.IntKind.u8 (IntKind.u8.wrap (v : Int)) 128) :: [], ()))) = _
    rw [fd7, or128]
    refine (ha _ ⟨v / 128, _, rfl, by omega, by simp only [List.length_append, List.length_cons, List.length_nil]; omega⟩ (by show ((v / 128 : Nat) : Int).toNat < ((v : Nat) : Int).toNat; omega)).trans ?_
    rw [Int.toNat_natCast, List.append_assoc]; rfl
  · rw [cnd_n (by simpa using by omega)]
    rw [encU_lt (by omega)] at hl ⊢
    rw [room_w (by simp only [List.length_cons, List.length_nil] at hl ⊢; omega) (by simp only [List.length_cons, List.length_nil] at hl ⊢; omega)]
    show some ((), (true, (l ++ (IntKind.u8.wrap (v : Int)) :: [], ()))) = _
    rw [u8c _ (by omega)]
theorem encs_app (a b : List Int) : encs (a ++ b) = encs a ++ encs b := by unfold encs; rw [List.flatMap_append]
theorem encs_one (n : Int) : encs [n] = encU (fold n) := by unfold encs; simp
theorem encs_len {l : List Int} (h : ∀ n ∈ l, Is64 n) : (encs l).length ≤ 10 * l.length := by
  induction l with
  | nil => simp [encs]
  | cons x l ih =>
    have h1 := encU_len10 (fold_lt x (h x (by simp)))
    have h2 := ih fun n hn => h n (by simp [hn])
    unfold encs at h2 ⊢
    rw [List.flatMap_cons, List.length_append, List.length_cons]; omega
theorem r_pkInt {l b : List Int} (hl : ∀ n ∈ l, Is64 n) (hn : l.length ≤ 1000000) (hb : b.length ≤ 50000000) : pack_Writer_Int true b l = some ((), (true, (b ++ encs l, ()))) := by
  show pack_Writer_IntW stdW true b l = _
  unfold pack_Writer_IntW
  rw [join_w, call_w (show pack_Writer_ok true b = some (true, (true, (b, ()))) from rfl), cnd_y (by rfl)]
  refine loop_list (l := l) (by omega) (fun i s => s = (true, (b ++ encs (l.take i), ()))) (fun _ _ => some ((), (true, (b ++ encs l, ())))) (by simp [encs]) ?_ ?_
  · rintro _ again rfl
    rw [cnd_end, List.take_length]
  · rintro i hi _ rfl again ha
    have hx := hl _ (List.getElem_mem hi)
    have hlen : (encs (l.take i)).length ≤ 10 * (l.take i).length := encs_len fun n hn => hl n (List.mem_of_mem_take hn)
    rw [List.length_take] at hlen
    rw [cnd_lt hi, idx_w hi, call_w (r_folded hx)]
    show stdW.call (pack_Writer_one true (b ++ encs (l.take i)) (fold l[i] : Int)) _ = _
    rw [call_w (r_pkOne (fold_lt _ hx) (by rw [List.length_append]; omega)), i64_s i (by omega)]
    refine ha _ ?_
    rw [show l.take (i + 1) = l.take i ++ [l[i]] by simp, encs_app, encs_one, List.append_assoc]
theorem r_clone {l : List Int} (hl : l.length ≤ 100000000) : slices_Clonebyte_byte l = some l := by
  show slices_Clonebyte_byteW stdW l = _
  unfold slices_Clonebyte_byteW
  rw [nilq_w]
  refine nilF_eq ?_ ?_
  · rw [cnd_n (by rfl), room_w (by omega) (by omega)]; rfl
  · intro h
    rw [cnd_y (by rfl), List.isEmpty_iff.1 h]
theorem r_open {l : List Int} (hl : l.length ≤ 100000000) : pack_Open l = some ((), (true, (l, (0, ())))) := by
  show pack_OpenW stdW l = _
  unfold pack_OpenW
  rw [call_w (r_clone hl)]
theorem r_done {l : List Int} (hl : l.length ≤ 100000000) : pack_Writer_Done true l = some (l, (true, (l, ()))) := by
  show pack_Writer_DoneW stdW true l = _
  unfold pack_Writer_DoneW
  rw [call_w (show pack_Writer_ok true l = some (true, (true, (l, ()))) from rfl), cnd_n (by rfl)]
  show stdW.call (slices_Clonebyte_byte l) _ = _
  rw [call_w (r_clone hl)]
/-- how a reading ends -/
def endE (s : List Int × Int) : Int := if s.2 ≠ 0 then s.2 else if 0 < s.1.length then 5 else 0
theorem r_pEnd (s : List Int × Int) : pack_Reader_End true s.1 s.2 = some (endE s, (true, (s.1, (s.2, ())))) := by
  obtain ⟨l, e⟩ := s
  show pack_Reader_EndW stdW true l e = _
  unfold pack_Reader_EndW endE
  rw [call_w (show pack_Reader_Err true l e = some (e, (true, (l, (e, ())))) from rfl)]
  by_cases he : e = 0
  · subst he
    rw [cnd_n (by rfl)]
    by_cases h : 0 < l.length
    · rw [cnd_y (decide_eq_true (by show (0 : Int) < (l.length : Int); omega))]; simp [h]
    · rw [cnd_n (decide_eq_false (by show ¬ (0 : Int) < (l.length : Int); omega))]; simp [h]
  · rw [cnd_y (by simp [he])]; simp [he]
/-! ### the reference's reading of a number -/
def lead : List Int → Nat
  | [] => 0
  | b :: r => if 128 ≤ b then lead r + 1 else 0
theorem lead_le : ∀ l, lead l ≤ l.length
  | [] => Nat.le_refl _
  | b :: r => by unfold lead; have := lead_le r; split <;> simp <;> omega
theorem lead_get : ∀ (l : List Int) (j : Nat) (h : j < lead l) (h2 : j < l.length), 128 ≤ l[j]
  | [], j, h, h2 => by simp at h2
  | b :: r, 0, h, h2 => by
    unfold lead at h; split at h
    · simpa using ‹128 ≤ b›
    · omega
  | b :: r, j + 1, h, h2 => by
    unfold lead at h; split at h
    · simpa using lead_get r j (by omega) (by simpa using h2)
    · omega
theorem lead_end : ∀ (l : List Int) (h : lead l < l.length), l[lead l] < 128
  | [], h => by simp at h
  | b :: r, h => by
    by_cases hb : 128 ≤ b
    · have e : lead (b :: r) = lead r + 1 := by rw [lead, if_pos hb]
      have h' : lead r < r.length := by rw [e] at h; simpa using h
      have := lead_end r h'
      simp only [e, List.getElem_cons_succ]; exact this
    · have e : lead (b :: r) = 0 := by rw [lead, if_neg hb]
      simp only [e, List.getElem_cons_zero]; omega
/-- groups of seven, the lowest first -/
def valL : List Int → Nat
  | [] => 0
  | b :: r => b.toNat % 128 + 128 * valL r
theorem valL_drop : ∀ (l : List Int) (i : Nat), valL (l.drop i) ≤ valL l
  | [], i => by simp
  | b :: r, 0 => by simp
  | b :: r, i + 1 => by have := valL_drop r i; simp only [List.drop_succ_cons, valL]; omega
theorem valL_step (l : List Int) (i : Nat) (h : i < l.length) : valL (l.drop i) = (l[i]).toNat % 128 + 128 * valL (l.drop (i + 1)) := by
  rw [drop_cons' l i h, valL]
theorem p7 (k : Nat) : 2 ^ (7 * (k + 1)) = 128 * 2 ^ (7 * k) := by rw [show 7 * (k + 1) = 7 * k + 7 by omega, Nat.pow_add]; omega
theorem uNext_ok {k acc : Nat} {b : Int} (hb : 0 ≤ b) (ha : acc < 2 ^ (7 * k)) (hx : b.toNat % 128 * 2 ^ (7 * k) < 18446744073709551616) : uNext (7 * k) acc b = acc + b.toNat % 128 * 2 ^ (7 * k) := by
  have := uNext_add (sh := 7 * k) (acc := acc) (b := b.toNat) ha hx
  rwa [Int.toNat_of_nonneg hb] at this
theorem small56 {k : Nat} (h : k ≤ 8) (x : Nat) : x % 128 * 2 ^ (7 * k) < 18446744073709551616 := by
  have h1 : 2 ^ (7 * k) ≤ 2 ^ 56 := Nat.pow_le_pow_right (by omega) (by omega)
  have h2 : x % 128 * 2 ^ (7 * k) ≤ 127 * 2 ^ 56 := Nat.mul_le_mul (by omega) h1
  have : 127 * 2 ^ 56 < 18446744073709551616 := by decide
  omega
theorem acc_next {k acc x : Nat} (ha : acc < 2 ^ (7 * k)) : acc + x % 128 * 2 ^ (7 * k) < 2 ^ (7 * (k + 1)) := by
  rw [p7]
  have : x % 128 * 2 ^ (7 * k) ≤ 127 * 2 ^ (7 * k) := Nat.mul_le_mul_right _ (by omega)
  omega
/-- how a number's groups end: all of them, short, wrong -/
theorem numS_dec : ∀ (bs : List Int) (k acc : Nat), Bt bs → k ≤ 9 → acc < 2 ^ (7 * k) →
    (k + lead bs < 10 ∧ lead bs = bs.length → numS (7 * k) acc bs = (none, [], 4)) ∧
    (10 ≤ k + lead bs → numS (7 * k) acc bs = (none, [], 3)) ∧
    (k + lead bs < 10 → ∀ h : lead bs < bs.length, ((k + lead bs = 9 ∧ 1 < bs[lead bs]) ∨ (0 < k + lead bs ∧ bs[lead bs] = 0) → numS (7 * k) acc bs = (none, [], 3)) ∧
      (¬ ((k + lead bs = 9 ∧ 1 < bs[lead bs]) ∨ (0 < k + lead bs ∧ bs[lead bs] = 0)) → numS (7 * k) acc bs = (some (acc + valL (bs.take (lead bs + 1)) * 2 ^ (7 * k)), bs.drop (lead bs + 1), 0)))
  | [], k, acc, hb, hk, ha => by
    refine ⟨fun _ => by unfold numS; rfl, fun h => ?_, fun _ h => ?_⟩
    · simp [lead] at h; omega
    · simp at h
  | b :: r, k, acc, hb, hk, ha => by
    have h0 := hb b (by simp)
    have hr : Bt r := fun x hx => hb x (by simp [hx])
    by_cases h128 : 128 ≤ b
    · have e : lead (b :: r) = lead r + 1 := by rw [lead, if_pos h128]
      rcases Nat.lt_or_ge k 9 with hk9 | hk9
      · have hn : uNext (7 * k) acc b = acc + b.toNat % 128 * 2 ^ (7 * k) := uNext_ok h0.1 ha (small56 (by omega) _)
        have step : numS (7 * k) acc (b :: r) = numS (7 * (k + 1)) (acc + b.toNat % 128 * 2 ^ (7 * k)) r := by
          rw [numS, if_neg (by omega), if_neg (by omega), hn]; rfl
        obtain ⟨i1, i2, i3⟩ := numS_dec r (k + 1) (acc + b.toNat % 128 * 2 ^ (7 * k)) hr (by omega) (acc_next ha)
        rw [step]
        refine ⟨fun h => i1 ⟨by omega, by have := h.2; rw [e] at this; simpa using this⟩, fun h => i2 (by omega), fun hl h => ?_⟩
        have h' : lead r < r.length := by rw [e] at h; simpa using h
        obtain ⟨j1, j2⟩ := i3 (by omega) h'
        have eg : (b :: r)[lead (b :: r)] = r[lead r] := by simp only [e, List.getElem_cons_succ]
        rw [eg]
        refine ⟨fun hh => j1 (by omega), fun hh => ?_⟩
        rw [j2 (by omega), e, List.take_succ_cons, List.drop_succ_cons, valL, p7]
        congr 2
        rw [Nat.add_mul, Nat.add_assoc, Nat.mul_assoc 128]
        congr 2
        rw [Nat.mul_left_comm]
      · obtain rfl : k = 9 := by omega
        have step : numS (7 * 9) acc (b :: r) = (none, [], 3) := by rw [numS, if_pos (.inr (.inl ⟨rfl, by omega⟩))]
        rw [step]
        exact ⟨fun h => by omega, fun _ => rfl, fun h => by omega⟩
    · have e : lead (b :: r) = 0 := by rw [lead, if_neg h128]
      refine ⟨fun h => by rw [e] at h; simp at h, fun h => by omega, fun hl h => ?_⟩
      have eg : (b :: r)[lead (b :: r)] = b := by simp only [e, List.getElem_cons_zero]
      rw [eg, e]
      refine ⟨fun hh => ?_, fun hh => ?_⟩
      · rw [numS, if_pos (by omega)]
      · have hn : uNext (7 * k) acc b = acc + b.toNat % 128 * 2 ^ (7 * k) := by
          refine uNext_ok h0.1 ha ?_
          rcases Nat.lt_or_ge k 9 with hk9 | hk9
          · exact small56 (by omega) _
          · obtain rfl : k = 9 := by omega
            have : b.toNat % 128 ≤ 1 := by omega
            exact Nat.lt_of_le_of_lt (Nat.mul_le_mul_right _ this) (by decide +kernel)
        rw [numS, if_neg (by omega), if_pos (by omega), hn]
        show (some (acc + b.toNat % 128 * 2 ^ (7 * k)), r, (0 : Int)) = (some (acc + valL [b] * 2 ^ (7 * k)), r, 0)
        rw [show valL [b] = b.toNat % 128 by simp only [valL]; omega]
theorem i64_p (i : Nat) (h0 : 0 < i) (h : i < 9223372036854775807) : IntKind.i64.wrap ((i : Int) - 1) = ((i - 1 : Nat) : Int) := by rw [IntWalk.i64_in _ (by omega)]; omega
theorem u64_w (n : Nat) (h : n < 18446744073709551616) : IntKind.u64.wrap (n : Int) = (n : Int) := u64c _ (by omega)
theorem nz_w {β : Type} {b : Int} (h : b ≠ 0) (K : Option β) : stdW.nz b K = K := nz_eq h K
theorem unf_tail {β : Type} (u : Nat) (hu : u < 18446744073709551616) (K : Int × Unit → Option β) :
    stdW.cnd ((Int.tmod (u : Int) 2) == 1) (K ((IntKind.i64.wrap ((IntKind.i64.wrap (0 - (IntKind.i64.wrap (IntKind.u64.wrap (Int.tdiv (u : Int) 2))))) - 1)), ())) (K ((IntKind.i64.wrap (IntKind.u64.wrap (Int.tdiv (u : Int) 2))), ())) = K (unf u, ()) := by
  rw [Int.tmod_eq_emod_of_nonneg (by omega), Int.tdiv_eq_ediv_of_nonneg (by omega)]
  have e1 : IntKind.u64.wrap ((u : Int) / 2) = ((u / 2 : Nat) : Int) := by rw [show (u : Int) / 2 = ((u / 2 : Nat) : Int) by omega]; exact u64_w _ (by omega)
  have e2 : IntKind.i64.wrap ((u / 2 : Nat) : Int) = ((u / 2 : Nat) : Int) := i64c _ (by omega)
  have e3 : IntKind.i64.wrap (0 - ((u / 2 : Nat) : Int)) = 0 - ((u / 2 : Nat) : Int) := i64c _ (by omega)
  have e4 : IntKind.i64.wrap (0 - ((u / 2 : Nat) : Int) - 1) = 0 - ((u / 2 : Nat) : Int) - 1 := i64c _ (by omega)
  rw [e1, e2, e3, e4]
  unfold unf
  by_cases h : u % 2 = 0
  · rw [cnd_n (by simp; omega), if_pos h]
  · rw [cnd_y (by simp; omega), if_neg h]
    congr 2; omega
theorem r_rGet {lo hi : Int} {s : List Int × Int} (hb : Bt s.1) (hl : s.1.length < 9223372036854775807) : ref04_Reader_Get s.1 s.2 lo hi = some ((rd lo hi s).1, ((rd lo hi s).2.1, ((rd lo hi s).2.2, ()))) := by
  obtain ⟨bs, e⟩ := s
  dsimp only at hb hl
  show ref04_Reader_GetW stdW bs e lo hi = _
  unfold ref04_Reader_GetW rd rdInt
  by_cases he : e = 0
  · subst he
    rw [cnd_n (by rfl), if_neg (by simp), join_w]
    -- how many groups go on
    have hle := lead_le bs
    have tail : ∀ m : Nat, m = Nat.min 10 (lead bs) → ∀ z : Int × Unit, z = ((m : Int), ()) →
        (stdW.join (fun (z2 : Bool × Unit) =>
    stdW.cnd z2.1 (stdW.call (ref04_Reader_fail bs 0 4) fun v3 => some (0, (v3.2.1, v3.2.2)))
     (
     stdW.join (fun (z4 : Bool × Unit) =>
      stdW.cnd z4.1 (stdW.call (ref04_Reader_fail bs 0 3) fun v5 => some (0, (v5.2.1, v5.2.2)))
       (
       stdW.loop (fun (z6 : Int × Int × Unit) again7 =>
        stdW.cnd (decide (0 < z6.2.1)) (stdW.idx bs (IntKind.i64.wrap (z6.2.1 - 1)) fun x8 => stdW.nz 128 ((again7 ((IntKind.u64.wrap ((IntKind.u64.wrap (128 * z6.1)) + (Int.tmod (IntKind.u64.wrap x8) 128))), ((IntKind.i64.wrap (z6.2.1 - 1)), ())))))
         (stdW.bnd (IntKind.i64.wrap (z.1 + 1)) bs.length fun h9 => stdW.nz 2 (
         stdW.join (fun (z10 : Int × Unit) =>
          stdW.join (fun (z11 : Bool × Unit) =>
           stdW.cnd z11.1 (stdW.call (ref04_Reader_fail ((bs.take bs.length).drop h9) 0 7) fun v12 => some (0, (v12.2.1, v12.2.2)))
            (some (z10.1, (((bs.take bs.length).drop h9), ((0 : Int), ())))))
           fun k13 =>
           stdW.cnd (decide (z10.1 < lo)) ((k13 (true, ())))
            ((k13 ((decide (hi < z10.1)), ()))))
          fun k14 => stdW.nz 2 (
          stdW.cnd ((Int.tmod z6.1 2) == 1) ((k14 ((IntKind.i64.wrap ((IntKind.i64.wrap (0 - (IntKind.i64.wrap (IntKind.u64.wrap (Int.tdiv z6.1 2))))) - 1)), ())))
           ((k14 ((IntKind.i64.wrap (IntKind.u64.wrap (Int.tdiv z6.1 2))), ())))))))
        (0, ((IntKind.i64.wrap (z.1 + 1)), ()))))
      fun k15 =>
      stdW.cnd (z.1 == 10) ((k15 (true, ())))
       (
       stdW.cnd (z.1 == 9) (stdW.idx bs 9 fun x16 =>
        stdW.cnd (decide (1 < x16)) ((k15 (true, ())))
         (
         stdW.cnd (decide (0 < z.1)) (stdW.idx bs z.1 fun x17 => (k15 ((x17 == 0), ())))
          ((k15 (false, ())))))
        (
        stdW.cnd (decide (0 < z.1)) (stdW.idx bs z.1 fun x18 => (k15 ((x18 == 0), ())))
         ((k15 (false, ())))))))
    fun k19 =>
    stdW.cnd (decide (z.1 < 10)) ((k19 ((z.1 == (bs.length : Int)), ())))
     ((k19 (false, ()))) : Option (Int × ((List Int) × Int × Unit))) = some ((match numS 0 0 bs with
  | (none, r, e') => (0, r, e')
  | (some u, r, e') => if unf u < lo ∨ hi < unf u then (0, [], 7) else (unf u, r, e') : Int × List Int × Int).1, ((match numS 0 0 bs with
  | (none, r, e') => (0, r, e')
  | (some u, r, e') => if unf u < lo ∨ hi < unf u then (0, [], 7) else (unf u, r, e') : Int × List Int × Int).2.1, ((match numS 0 0 bs with
  | (none, r, e') => (0, r, e')
  | (some u, r, e') => if unf u < lo ∨ hi < unf u then (0, [], 7) else (unf u, r, e') : Int × List Int × Int).2.2, ()))) := by
      rintro m hm z rfl
      have hmm : m ≤ 10 ∧ (m = 10 → 10 ≤ lead bs) ∧ (m < 10 → m = lead bs) := by
        have : m = min 10 (lead bs) := hm
        omega
      obtain ⟨hm1, hm2, hm3⟩ := hmm
      obtain ⟨d1, d2, d3⟩ := numS_dec bs 0 0 hb (by omega) (by simp)
      rw [show 7 * 0 = 0 from rfl, Nat.zero_add] at d1 d2 d3
      refine (join_b (decide (m < 10 ∧ m = bs.length)) fun K => ?_).trans ?_
      · show stdW.cnd (decide ((m : Int) < 10)) (K (((m : Int) == (bs.length : Int)), ())) _ = _
        by_cases h : m < 10
        · rw [cnd_y (decide_eq_true (by omega))]
          congr 2
          by_cases h2 : m = bs.length
          · rw [decide_eq_true ⟨h, h2⟩]; simp [h2]
          · rw [decide_eq_false (by omega)]; simp; omega
        · rw [cnd_n (decide_eq_false (by omega)), decide_eq_false (by omega)]
      · show stdW.cnd _ _ _ = _
        by_cases hs : m < 10 ∧ m = bs.length
        · rw [cnd_y (decide_eq_true hs), d1 (by have := hm3 hs.1; omega)]; rfl
        · rw [cnd_n (decide_eq_false hs)]
          by_cases h10 : m = 10
          · refine (join_b true fun K => ?_).trans ?_
            · show stdW.cnd ((m : Int) == 10) _ _ = _
              rw [cnd_y (by simp [h10])]
            · show stdW.cnd true _ _ = _
              rw [cnd_y (by rfl), d2 (hm2 h10)]; rfl
          · have hml : m = lead bs := hm3 (by omega)
            have hlt : m < bs.length := by omega
            obtain ⟨g1, g2⟩ := d3 (by omega) (by omega)
            have hbm := hb _ (List.getElem_mem hlt)
            have g1' : (m = 9 ∧ 1 < bs[m]) ∨ (0 < m ∧ bs[m] = 0) → numS 0 0 bs = (none, [], 3) := by subst hml; exact g1
            have g2' : ¬ ((m = 9 ∧ 1 < bs[m]) ∨ (0 < m ∧ bs[m] = 0)) → numS 0 0 bs = (some (0 + valL (bs.take (m + 1)) * 2 ^ 0), bs.drop (m + 1), 0) := by subst hml; exact g2
            clear g1 g2 d1 d2 d3
            refine (join_b (decide ((m = 9 ∧ 1 < bs[m]) ∨ (0 < m ∧ bs[m] = 0))) fun K => ?_).trans ?_
            · show stdW.cnd ((m : Int) == 10) _ _ = _
              rw [cnd_n (by simp; omega)]
              show stdW.cnd ((m : Int) == 9) _ (stdW.cnd (decide ((0 : Int) < (m : Int))) (stdW.idx bs (m : Int) fun x18 => K ((x18 == 0), ())) (K (false, ()))) = _
              have last : (¬ (m = 9 ∧ 1 < bs[m])) → stdW.cnd (decide ((0 : Int) < (m : Int))) (stdW.idx bs (m : Int) fun x18 => K ((x18 == 0), ())) (K (false, ())) = K (decide ((m = 9 ∧ 1 < bs[m]) ∨ (0 < m ∧ bs[m] = 0)), ()) := by
                intro hn
                by_cases h0 : 0 < m
                · rw [cnd_y (decide_eq_true (by omega)), idx_w hlt]
                  congr 2
                  by_cases hz : bs[m] = 0
                  · rw [decide_eq_true (.inr ⟨h0, hz⟩)]; simp [hz]
                  · rw [decide_eq_false (by omega)]; simp [hz]
                · rw [cnd_n (decide_eq_false (by omega)), decide_eq_false (by omega)]
              by_cases h9 : m = 9
              · subst h9
                rw [cnd_y (by rfl)]
                show stdW.idx bs ((9 : Nat) : Int) _ = _
                rw [idx_w hlt]
                by_cases h1 : (1 : Int) < bs[9]
                · rw [cnd_y (decide_eq_true h1), decide_eq_true (.inl ⟨rfl, h1⟩)]
                · rw [cnd_n (decide_eq_false h1)]
                  exact last (by omega)
              · rw [cnd_n (by simp; omega)]
                exact last (by omega)
            · show stdW.cnd _ _ _ = _
              by_cases hbad : (m = 9 ∧ 1 < bs[m]) ∨ (0 < m ∧ bs[m] = 0)
              · rw [cnd_y (decide_eq_true hbad), g1' hbad]; rfl
              · rw [cnd_n (decide_eq_false hbad), g2' hbad]
                have hu : valL (bs.take (m + 1)) < 18446744073709551616 := by
                  have := numS_lt bs 0 0 (by decide) (0 + valL (bs.take (m + 1)) * 2 ^ 0) (by rw [g2' hbad])
                  simpa using this
                rw [show 0 + valL (bs.take (m + 1)) * 2 ^ 0 = valL (bs.take (m + 1)) by simp]
                have hds : (bs.take (m + 1)).length = m + 1 := by rw [List.length_take]; omega
                generalize hdse : bs.take (m + 1) = ds at *
                have em : IntKind.i64.wrap ((m : Int) + 1) = ((m + 1 : Nat) : Int) := i64_s m (by omega)
                have hdsb : ∀ (i : Nat) (h : i < m + 1) (h2 : i < bs.length), bs[i] = ds[i]'(by omega) := by
                  intro i h h2; subst hdse; simp
                refine (loop_std (fun z => z.2.1.toNat) (fun z => ∃ i : Nat, z = (((valL (ds.drop i) : Nat) : Int), ((i : Int), ())) ∧ i ≤ m + 1) (fun _ => some ((if unf (valL ds) < lo ∨ hi < unf (valL ds) then (0, [], 7) else (unf (valL ds), bs.drop (m + 1), 0) : Int × List Int × Int).1, ((if unf (valL ds) < lo ∨ hi < unf (valL ds) then (0, [], 7) else (unf (valL ds), bs.drop (m + 1), 0) : Int × List Int × Int).2.1, ((if unf (valL ds) < lo ∨ hi < unf (valL ds) then (0, [], 7) else (unf (valL ds), bs.drop (m + 1), 0) : Int × List Int × Int).2.2, ())))) ⟨m + 1, by rw [List.drop_of_length_le (by omega)]; show ((0 : Int), IntKind.i64.wrap ((m : Int) + 1), ()) = _; rw [em]; rfl, by omega⟩ (by show (IntKind.i64.wrap ((m : Int) + 1)).toNat < _; rw [em]; omega) ?_)
                rintro _ ⟨i, rfl, hi'⟩ again ha
                show stdW.cnd (decide ((0 : Int) < (i : Int))) _ _ = _
                by_cases h0 : 0 < i
                · rw [cnd_y (decide_eq_true (by omega))]
                  show stdW.idx bs (IntKind.i64.wrap ((i : Int) - 1)) _ = _
                  rw [i64_p i h0 (by omega), idx_w (by omega), nz_w (by omega)]
                  have hi2 : i - 1 < bs.length := by omega
                  have hx := hb _ (List.getElem_mem hi2)
                  have hst := valL_step ds (i - 1) (by omega)
                  rw [show i - 1 + 1 = i by omega, ← hdsb (i - 1) (by omega) hi2] at hst
                  have hle2 := valL_drop ds (i - 1)
                  show again (IntKind.u64.wrap (IntKind.u64.wrap (128 * ((valL (ds.drop i) : Nat) : Int)) + Int.tmod (IntKind.u64.wrap bs[i - 1]) 128), (((i - 1 : Nat) : Int), ())) = _
                  obtain ⟨x, hxe⟩ := Int.eq_ofNat_of_zero_le hx.1
                  rw [hxe] at hst ⊢
                  rw [Int.toNat_natCast] at hst
                  have e1 : (128 : Int) * ((valL (ds.drop i) : Nat) : Int) = ((128 * valL (ds.drop i) : Nat) : Int) := by omega
                  rw [e1, u64_w _ (by omega), u64_w x (by omega), Int.tmod_eq_emod_of_nonneg (by omega),
                    show (((128 * valL (ds.drop i) : Nat) : Int) + (x : Int) % 128) = ((valL (ds.drop (i - 1)) : Nat) : Int) by omega, u64_w _ (by omega)]
                  exact ha _ ⟨i - 1, rfl, by omega⟩ (by show ((i - 1 : Nat) : Int).toNat < ((i : Nat) : Int).toNat; omega)
                · obtain rfl : i = 0 := by omega
                  rw [cnd_n (by rfl), List.drop_zero]
                  show stdW.bnd (IntKind.i64.wrap ((m : Int) + 1)) bs.length _ = _
                  rw [em, bnd_w (by omega) (by omega), nz_w (by omega), join_w, nz_w (by omega), Int.toNat_natCast]
                  have ed : (List.take bs.length bs).drop (m + 1) = bs.drop (m + 1) := by simp
                  rw [ed]
                  refine (unf_tail (valL ds) hu (fun (z10 : Int × Unit) =>
          stdW.join (fun (z11 : Bool × Unit) =>
           stdW.cnd z11.1 (stdW.call (ref04_Reader_fail (bs.drop (m + 1)) 0 7) fun v12 => some (0, (v12.2.1, v12.2.2)))
            (some (z10.1, ((bs.drop (m + 1)), ((0 : Int), ())))))
           fun k13 =>
           stdW.cnd (decide (z10.1 < lo)) ((k13 (true, ())))
            ((k13 ((decide (hi < z10.1)), ()))))).trans ?_
                  show stdW.join _ _ = _
                  refine (join_b (decide (unf (valL ds) < lo ∨ hi < unf (valL ds))) fun K => ?_).trans ?_
                  · show stdW.cnd (decide (unf (valL ds) < lo)) _ (K (decide (hi < unf (valL ds)), ())) = _
                    by_cases h1 : unf (valL ds) < lo
                    · rw [cnd_y (decide_eq_true h1), decide_eq_true (.inl h1)]
                    · rw [cnd_n (decide_eq_false h1)]
                      congr 2; apply decide_eq_decide.2; simp [h1]
                  · show stdW.cnd _ _ _ = _
                    by_cases h1 : unf (valL ds) < lo ∨ hi < unf (valL ds)
                    · rw [cnd_y (decide_eq_true h1), if_pos h1]; rfl
                    · rw [cnd_n (decide_eq_false h1), if_neg h1]
    refine (loop_n (N := Nat.min 10 (lead bs)) (by have : min 10 (lead bs) ≤ 10 := Nat.min_le_left _ _; show min 10 (lead bs) < _; omega) (fun _ _ => True) _ trivial ?_ ?_)
    · rintro ⟨⟩ again _
      have hmin : Nat.min 10 (lead bs) = min 10 (lead bs) := rfl
      have T := tail _ rfl (((Nat.min 10 (lead bs) : Nat) : Int), ()) rfl
      show stdW.cnd (decide (((Nat.min 10 (lead bs) : Nat) : Int) < (bs.length : Int))) (stdW.idx bs ((Nat.min 10 (lead bs) : Nat) : Int) _) _ = _
      by_cases h : Nat.min 10 (lead bs) < bs.length
      · rw [cnd_lt h, idx_w h]
        by_cases h10 : Nat.min 10 (lead bs) = 10
        · by_cases h128 : 128 ≤ bs[Nat.min 10 (lead bs)]
          · rw [cnd_y (decide_eq_true h128)]
            show stdW.cnd (decide (((Nat.min 10 (lead bs) : Nat) : Int) < 10)) _ _ = _
            rw [cnd_n (decide_eq_false (by omega))]
            exact T
          · rw [cnd_n (decide_eq_false h128)]
            exact T
        · have e : Nat.min 10 (lead bs) = lead bs := by omega
          have hle3 := lead_end bs (by omega)
          have : ¬ 128 ≤ bs[Nat.min 10 (lead bs)] := by simp only [e]; omega
          rw [cnd_n (decide_eq_false this)]
          exact T
      · rw [cnd_n (decide_eq_false (by omega))]
        exact T
    · rintro i hi' ⟨⟩ _ again ha
      have hmin : Nat.min 10 (lead bs) = min 10 (lead bs) := rfl
      have h2 : i < bs.length := by omega
      have := lead_get bs i (by omega) h2
      show stdW.cnd (decide ((i : Int) < (bs.length : Int))) _ _ = _
      rw [cnd_lt h2]
      show stdW.idx bs (i : Int) _ = _
      rw [idx_w h2, cnd_y (decide_eq_true this)]
      show stdW.cnd (decide ((i : Int) < 10)) (again (IntKind.i64.wrap ((i : Int) + 1), ())) _ = _
      rw [cnd_y (decide_eq_true (by omega)), i64_s i (by omega)]
      exact ha _ trivial
  · rw [cnd_y (by simp [he]), if_pos he]
end Go.Proofs.YtclleaffonkegaaGreat
namespace Go.Proofs.YtclleaffonkegaaGreat
open Go Go.Vc Go.RowKit
set_option synthInstance.maxSize 100000
set_option synthInstance.maxHeartbeats 0
theorem r_rInt {n : Int} (hn : Is64 n) : ref04_Int n = some (encU (fold n)) := by
  show ref04_IntW stdW n = _
  unfold ref04_IntW
  have go : ∀ u : Nat, u < 18446744073709551616 → stdW.loop (fun (z2 : Int × List (Int) × Unit) again3 => 
   stdW.cnd (decide (128 ≤ z2.1)) (stdW.nz 128 (stdW.room (z2.2.1.length + ((IntKind.u8.wrap (IntKind.u64.wrap ((Int.tmod z2.1 128) + 128))) :: []).length) 1 (stdW.nz 128 ((again3 ((IntKind.u64.wrap (Int.tdiv z2.1 128)), ((z2.2.1 ++ ((IntKind.u8.wrap (IntKind.u64.wrap ((Int.tmod z2.1 128) + 128))) :: [])), ())))))))
    (stdW.room (z2.2.1.length + ((IntKind.u8.wrap z2.1) :: []).length) 1 (some (z2.2.1 ++ ((IntKind.u8.wrap z2.1) :: []))))) ((u : Int), ([], ())) = some (encU u) := by
    intro u hu
    have hl := encU_len10 hu
    refine (loop_std (fun z => z.1.toNat) (fun z => ∃ (v : Nat) (l : List Int), z = ((v : Int), (l, ())) ∧ v < 18446744073709551616 ∧ l.length + (encU v).length ≤ 20) (fun z => some (z.2.1 ++ encU z.1.toNat)) ⟨u, [], rfl, hu, by simp only [List.length_nil]; omega⟩ (by show (u : Int).toNat < _; omega) ?_).trans (by simp)
    rintro _ ⟨v, l, rfl, hv, hl⟩ again ha
    show stdW.cnd (decide ((128 : Int) ≤ (v : Int))) _ _ = some (l ++ encU (v : Int).toNat)
    rw [Int.toNat_natCast]
    by_cases h : 128 ≤ v
    · rw [cnd_y (by simpa using by omega)]
      rw [encU_ge h] at hl ⊢
      simp only [List.length_cons] at hl
      show nzF 128 _ = _
      rw [nz_eq (by omega), room_w (by simp only [List.length_cons, List.length_nil]; omega) (by simp only [List.length_cons, List.length_nil]; omega)]
      show nzF 128 _ = _
      rw [nz_eq (by omega)]
      show again (IntKind.u64.wrap (Int.tdiv (v : Int) 128), ((l ++ (IntKind.u8.wrap (IntKind.u64.wrap ((Int.tmod (v : Int) 128) + 128))) :: []), ())) = _
      rw [tdivN, tmodN, u64c _ (by omega), u64c _ (by omega), u8c _ (by omega)]
      refine (ha _ ⟨v / 128, _, rfl, by omega, by simp only [List.length_append, List.length_cons, List.length_nil]; omega⟩ (by show ((v / 128 : Nat) : Int).toNat < ((v : Nat) : Int).toNat; omega)).trans ?_
      rw [Int.toNat_natCast, List.append_assoc]
      show some (l ++ ((((v % 128 : Nat) : Int) + 128) :: encU (v / 128))) = _
      rw [show ((v % 128 : Nat) : Int) + 128 = ((v % 128 + 128 : Nat) : Int) by omega]
    · rw [cnd_n (by simpa using by omega)]
      rw [encU_lt (by omega)] at hl ⊢
      rw [room_w (by simp only [List.length_cons, List.length_nil] at hl ⊢; omega) (by simp only [List.length_cons, List.length_nil] at hl ⊢; omega)]
      show some (l ++ (IntKind.u8.wrap (v : Int)) :: []) = _
      rw [u8c _ (by omega)]
  have hf := fold_lt n hn
  unfold Is64 at hn
  rw [join_w]
  by_cases h : 0 ≤ n
  · rw [cnd_y (by simpa using h), u64c n (by omega), u64c (2 * n) (by omega)]
    have e : 2 * n = ((fold n : Nat) : Int) := by unfold fold; rw [if_pos h]; omega
    rw [e]; exact go _ hf
  · rw [cnd_n (by simpa using by omega), i64c (n + 1) (by omega), i64c (0 - (n + 1)) (by omega), u64c (0 - (n + 1)) (by omega), u64c (2 * (0 - (n + 1))) (by omega), u64c (2 * (0 - (n + 1)) + 1) (by omega)]
    have e : 2 * (0 - (n + 1)) + 1 = ((fold n : Nat) : Int) := by unfold fold; rw [if_neg h]; omega
    rw [e]; exact go _ hf
theorem r_sameL {α : Type} [DecidableEq α] {l m : List α} (f : Int × Unit → (Int × Unit → Option Bool) → Option Bool) (hl : l.length ≤ 100000000) (hm : l.length = m.length)
    (hf : ∀ (i : Nat) (h : i < l.length) (again : Int × Unit → Option Bool), f ((i : Int), ()) again = if l[i] = m[i]'(by omega) then again (((i + 1 : Nat) : Int), ()) else some false) (he : ∀ again : Int × Unit → Option Bool, f ((l.length : Int), ()) again = some true) : stdW.loop f (0, ()) = some (decide (l = m)) := by
  refine (loop_list (l := l) (by omega) (fun i _ => l.take i = m.take i) (fun _ _ => some (decide (l = m))) (s0 := ()) (by simp) ?_ ?_)
  · rintro ⟨⟩ again h
    rw [he]
    rw [List.take_length, hm, List.take_length] at h
    rw [decide_eq_true h]
  · rintro i hi ⟨⟩ h again ha
    rw [hf i hi]
    by_cases h1 : l[i] = m[i]'(by omega)
    · rw [if_pos h1, ha ()]
      rw [show l.take (i + 1) = l.take i ++ [l[i]] by simp, show m.take (i + 1) = m.take i ++ [m[i]'(by omega)] by simp, h, h1]
    · rw [if_neg h1, decide_eq_false (fun e => h1 (by subst e; rfl))]
theorem r_sameB {l m : List Int} (hl : l.length ≤ 100000000) : ref01_Same l m = some (decide (l = m)) := by
  show ref01_SameW stdW l m = _
  unfold ref01_SameW
  by_cases h : l.length = m.length
  · rw [cnd_n (by simp [h])]
    refine r_sameL _ hl h (fun i hi again => ?_) (fun again => ?_)
    · rw [cnd_lt hi, idx_w hi, idx_w (by omega)]
      by_cases h1 : l[i] = m[i]'(by omega)
      · rw [cnd_n (by simp [h1]), if_pos h1]
        show again (IntKind.i64.wrap ((i : Int) + 1), ()) = _
        rw [i64_s i (by omega)]
      · rw [cnd_y (by simp [h1]), if_neg h1]
    · rw [cnd_end]
  · rw [cnd_y (by simp; omega), decide_eq_false (fun e => h (by rw [e]))]

theorem byEq (a : List Int) : bytes_EqualW stdW a a = some true := by
  unfold bytes_EqualW
  simp [notIf]
theorem encU_btK : ∀ (u : Nat), Bt (encU u) := by
  intro u
  induction u using Nat.strongRecOn with
  | ind u ih =>
    by_cases h : u < 128
    · rw [encU_lt h]; intro b hb; rw [List.mem_singleton.1 hb]; omega
    · rw [encU_ge (by omega)]
      intro b hb
      rcases List.mem_cons.1 hb with rfl | hb
      · omega
      · exact ih (u / 128) (by omega) b hb
theorem encs_btK (l : List Int) : Bt (encs l) := fun b hb => by
  obtain ⟨n, _, h⟩ := List.mem_flatMap.1 hb
  exact encU_btK _ b h
theorem r_cutB {b : List Int} {n : Nat} (hn : n ≤ 1000000) : ref01_Cut b n = some (b.take n) := by
  show ref01_CutW stdW b n = _
  unfold ref01_CutW
  by_cases h : n < b.length
  · rw [cnd_y (decide_eq_true (by omega)), bnd_w (by omega) (by omega)]; rfl
  · rw [cnd_n (decide_eq_false (by omega)), List.take_of_length_le (by omega)]
/-! ### strings of bytes -/
theorem strOf_go : ∀ (l : List Int) (r : ByteArray), l.foldl (fun r n => r.push (UInt8.ofNat n.toNat)) r = ⟨r.data ++ (l.map fun n => UInt8.ofNat n.toNat).toArray⟩
  | [], r => by simp
  | n :: l, r => by rw [List.foldl_cons, strOf_go l]; simp [ByteArray.push]
theorem strOf_eq (l : List Int) : strOf l = ⟨(l.map fun n => UInt8.ofNat n.toNat).toArray⟩ := by
  unfold strOf
  rw [strOf_go]
  simp [ByteArray.empty, ByteArray.emptyWithCapacity]
  rfl
theorem strOf_size (l : List Int) : (strOf l).size = l.length := by rw [strOf_eq]; simp [ByteArray.size]
theorem bytesI_strOf {l : List Int} (h : Bt l) : bytesI (strOf l) = l := by
  rw [strOf_eq]
  unfold bytesI
  simp only [List.toList_toArray, List.map_map]
  conv => rhs; rw [← List.map_id l]
  refine List.map_congr_left fun n hn => ?_
  have := h n hn
  simp only [Function.comp_apply, id, UInt8.toNat_ofNat']
  omega
theorem bt_take {l : List Int} (h : Bt l) (n : Nat) : Bt (l.take n) := fun b hb => h b (List.mem_of_mem_take hb)
theorem bt_drop {l : List Int} (h : Bt l) (n : Nat) : Bt (l.drop n) := fun b hb => h b (List.mem_of_mem_drop hb)
theorem bt_app {l m : List Int} (h : Bt l) (k : Bt m) : Bt (l ++ m) := fun b hb => (List.mem_append.1 hb).elim (h b) (k b)
/-! ### a text, read -/
abbrev Rs := List Int × Int
def rT (most : Int) (s : Rs) : List Int × Rs :=
  if (rd 0 most s).2.2 ≠ 0 then ([], (rd 0 most s).2) else
  if ((rd 0 most s).2.1.length : Int) < (rd 0 most s).1 then ([], ([], 4)) else
  ((rd 0 most s).2.1.take (rd 0 most s).1.toNat, ((rd 0 most s).2.1.drop (rd 0 most s).1.toNat, 0))
def okR (s : Rs) : Prop := Bt s.1 ∧ s.1.length ≤ 100000000
theorem rdInt_len (bs : List Int) (e lo hi : Int) : (rdInt bs e lo hi).2.1.length ≤ bs.length := by
  have hs := numS_len bs 0 0
  unfold rdInt
  split
  · exact Nat.le_refl _
  · cases hN : numS 0 0 bs with
    | mk o p =>
      rw [hN] at hs
      cases o with
      | none => exact hs
      | some u =>
        show (if unf u < lo ∨ hi < unf u then ((0 : Int), (([] : List Int), (7 : Int))) else (unf u, p.1, p.2)).2.1.length ≤ _
        split
        · exact Nat.zero_le _
        · exact hs
theorem rd_ok (lo hi : Int) (s : Rs) (h : okR s) : okR (rd lo hi s).2 := ⟨rdInt_bytes s.1 s.2 lo hi h.1, Nat.le_trans (rdInt_len ..) h.2⟩
theorem rd_err (lo hi : Int) (s : Rs) (h : (rd lo hi s).2.2 = 0) : s.2 = 0 := rdInt_err _ _ _ _ h
theorem rd_enc (lo hi n : Int) (hn : Is64 n) (r : List Int) (h : lo ≤ n ∧ n ≤ hi) : rd lo hi (encs [n] ++ r, 0) = (n, (r, 0)) := by
  have := rdInt_enc n hn lo hi r h
  rw [encs_one]
  show ((rdInt (encU (fold n) ++ r) 0 lo hi).1, ((rdInt (encU (fold n) ++ r) 0 lo hi).2.1, (rdInt (encU (fold n) ++ r) 0 lo hi).2.2)) = _
  rw [this]
theorem rd_dec (lo hi : Int) (s : Rs) (hb : Bt s.1) (he : s.2 = 0) (h : (rd lo hi s).2.2 = 0) : s.1 = encs [(rd lo hi s).1] ++ (rd lo hi s).2.1 ∧ Is64 (rd lo hi s).1 := by
  rw [encs_one]; exact rdInt_canon' s.1 s.2 lo hi hb he h
theorem rd_in (lo hi : Int) (s : Rs) (h : (rd lo hi s).2.2 = 0) : lo ≤ (rd lo hi s).1 ∧ (rd lo hi s).1 ≤ hi := by
  have h' : (rdInt s.1 s.2 lo hi).2.2 = 0 := h
  show lo ≤ (rdInt s.1 s.2 lo hi).1 ∧ (rdInt s.1 s.2 lo hi).1 ≤ hi
  have he := rdInt_err _ _ _ _ h'
  rw [he] at h' ⊢
  have hn := numS_none s.1 0 0
  unfold rdInt at h' ⊢
  rw [if_neg (by omega)] at h' ⊢
  cases hN : numS 0 0 s.1 with
  | mk o p =>
    rw [hN] at h' hn
    cases o with
    | none => exact (hn p.1 (by rw [← h'])).elim
    | some u =>
      replace h' : (if unf u < lo ∨ hi < unf u then ((0 : Int), (([] : List Int), (7 : Int))) else (unf u, p.1, p.2)).2.2 = 0 := h'
      show lo ≤ (if unf u < lo ∨ hi < unf u then ((0 : Int), (([] : List Int), (7 : Int))) else (unf u, p.1, p.2)).1 ∧ (if unf u < lo ∨ hi < unf u then ((0 : Int), (([] : List Int), (7 : Int))) else (unf u, p.1, p.2)).1 ≤ hi
      split at h'
      · exact absurd h' (by decide)
      · rename_i hh; rw [if_neg hh]; omega
/-! ### which readers are good -/
theorem rd_nn {most : Int} {s : Rs} (h : (rd 0 most s).2.2 = 0) : 0 ≤ (rd 0 most s).1 := (rd_in 0 most s h).1
end Go.Proofs.YtclleaffonkegaaGreat

namespace Go.Proofs.YtclleaffonkegaaGreat
open Go Go.Vc Go.RowKit
set_option synthInstance.maxSize 100000
set_option synthInstance.maxHeartbeats 0
/-! ### texts -/
theorem rT_bt {most : Int} {s : Rs} (h : okR s) : okR (rT most s).2 := by
  have h1 := rd_ok 0 most s h
  unfold rT
  split
  · exact h1
  · split
    · exact ⟨fun b hb => by simp at hb, by simp⟩
    · exact ⟨bt_drop h1.1 _, by have := h1.2; simp only [List.length_drop]; omega⟩
theorem r_pText {most : Int} {s : Rs} (h : okR s) : pack_Reader_Text true s.1 s.2 most = some (strOf (rT most s).1, (true, ((rT most s).2.1, ((rT most s).2.2, ())))) := by
  show pack_Reader_TextW stdW true s.1 s.2 most = _
  unfold pack_Reader_TextW
  rw [call_w (r_pInt h.1 (by have := h.2; omega))]
  show stdW.call (pack_Reader_goodW stdW true (rd 0 most s).2.1 (rd 0 most s).2.2) _ = _
  rw [call_w (show pack_Reader_goodW stdW true (rd 0 most s).2.1 (rd 0 most s).2.2 = some (((rd 0 most s).2.2 == 0), (true, ((rd 0 most s).2.1, ((rd 0 most s).2.2, ())))) from rfl)]
  unfold rT
  by_cases he : (rd 0 most s).2.2 = 0
  · rw [if_neg (by simpa using he), cnd_n (by simp [he])]
    by_cases hn : ((rd 0 most s).2.1.length : Int) < (rd 0 most s).1
    · rw [if_pos hn, cnd_y (decide_eq_true hn)]; rfl
    · have h0 := rd_nn he
      have hk : (rd 0 most s).1.toNat ≤ (rd 0 most s).2.1.length := by omega
      rw [if_neg hn, cnd_n (decide_eq_false hn), bnd_w h0 (by dsimp only; omega), bnd_w h0 (by dsimp only; omega)]
      simp only [List.take_length, he]
  · rw [if_pos he, cnd_y (by simp [he])]; rfl
theorem r_rText {most : Int} {s : Rs} (h : okR s) : ref04_Reader_Text s.1 s.2 most = some (strOf (rT most s).1, ((rT most s).2.1, ((rT most s).2.2, ()))) := by
  show ref04_Reader_TextW stdW s.1 s.2 most = _
  unfold ref04_Reader_TextW
  rw [call_w (r_rGet h.1 (by have := h.2; omega))]
  unfold rT
  by_cases he : (rd 0 most s).2.2 = 0
  · rw [if_neg (by simpa using he), cnd_n (by simp [he])]
    by_cases hn : ((rd 0 most s).2.1.length : Int) < (rd 0 most s).1
    · rw [if_pos hn, cnd_y (decide_eq_true hn)]; rfl
    · have h0 := rd_nn he
      have hk : (rd 0 most s).1.toNat ≤ (rd 0 most s).2.1.length := by omega
      rw [if_neg hn, cnd_n (decide_eq_false hn), bnd_w h0 (by dsimp only; omega), bnd_w h0 (by dsimp only; omega)]
      simp only [List.take_length, he]
  · rw [if_pos he, cnd_y (by simp [he])]; rfl
theorem is64_len {l : List Int} (h : l.length ≤ 100000000) : Is64 (l.length : Int) := ⟨by omega, by omega⟩
/-- a text, written -/
def wT (l : List Int) : List Int := encU (fold (l.length : Int)) ++ l
theorem r_wText {b l : List Int} (hl : Bt l) (hn : l.length ≤ 1000000) (hb : b.length ≤ 50000000) : pack_Writer_Text true b (strOf l) = some ((), (true, (b ++ wT l, ()))) := by
  show pack_Writer_TextW stdW true b (strOf l) = _
  unfold pack_Writer_TextW
  have h64 := is64_len (l := l) (by omega)
  have hu := encU_len10 (fold_lt _ h64)
  rw [join_w, call_w (show pack_Writer_okW stdW true b = some (true, (true, (b, ()))) from rfl), cnd_y (by rfl), strOf_size, call_w (r_folded h64)]
  show stdW.call (pack_Writer_one true b (fold (l.length : Int) : Int)) _ = _
  rw [call_w (r_pkOne (fold_lt _ h64) (by omega))]
  show stdW.room ((b ++ encU (fold (l.length : Int))).length + l.length) 1 _ = _
  rw [room_w (by simp only [List.length_append]; omega) (by simp only [List.length_append]; omega), bytesI_strOf hl, List.append_assoc]
  rfl
theorem sidx_w {β : Type} {l : List Int} (hl : Bt l) {i : Nat} (h : i < l.length) (K : Int → Option β) : stdW.sidx (strOf l) (i : Int) K = K l[i] := by
  have hz : i < (strOf l).size := by rw [strOf_size]; exact h
  show sidxF (strOf l) (i : Int) K = _
  unfold sidxF
  rw [decide_eq_true (by omega : (0 : Int) ≤ (i : Int))]
  simp only [cond_true, Int.toNat_natCast]
  have he : (strOf l)[i]? = some (UInt8.ofNat l[i].toNat) := by
    rw [strOf_eq] at hz ⊢
    rw [getElem?_pos _ i hz]
    simp only [ByteArray.getElem_eq_getElem_data]
    simp
  rw [he]
  have := hl _ (List.getElem_mem h)
  show K (((UInt8.ofNat l[i].toNat).toNat : Nat) : Int) = _
  congr 1
  simp only [UInt8.toNat_ofNat']
  omega
theorem r_rTextW {l : List Int} (hl : Bt l) (hn : l.length ≤ 1000000) : ref04_Text (strOf l) = some (wT l) := by
  show ref04_TextW stdW (strOf l) = _
  unfold ref04_TextW
  have h64 := is64_len (l := l) (by omega)
  have hu := encU_len10 (fold_lt _ h64)
  rw [strOf_size]
  show stdW.call (ref04_Int (l.length : Int)) _ = _
  rw [call_w (r_rInt h64)]
  refine loop_list (l := l) (by omega) (fun i s => s = (encU (fold (l.length : Int)) ++ l.take i, ())) (fun _ _ => some (wT l)) (by simp) ?_ ?_
  · rintro _ again rfl
    rw [cnd_end, List.take_length]; rfl
  · rintro i hi _ rfl again ha
    rw [cnd_lt hi, sidx_w hl hi]
    show stdW.room ((encU (fold (l.length : Int)) ++ l.take i).length + [l[i]].length) 1 _ = _
    rw [room_w (by simp only [List.length_append, List.length_take, List.length_singleton]; omega) (by simp only [List.length_append, List.length_take, List.length_singleton]; omega)]
    show again (IntKind.i64.wrap ((i : Int) + 1), ((encU (fold (l.length : Int)) ++ l.take i) ++ [l[i]], ())) = _
    rw [i64_s i (by omega)]
    refine ha _ ?_
    rw [show l.take (i + 1) = l.take i ++ [l[i]] by simp, List.append_assoc]
end Go.Proofs.YtclleaffonkegaaGreat

namespace Go.Proofs.YtclleaffonkegaaGreat
open Go Go.Vc Go.RowKit
set_option synthInstance.maxSize 100000
set_option synthInstance.maxHeartbeats 0
/-! ### readers of bytes -/
structure Gb {α : Type} (R : Rs → α × Rs) (g : α → List Int) (P : α → Prop) : Prop where
  err : ∀ s, (R s).2.2 = 0 → s.2 = 0
  enc : ∀ a r, P a → R (g a ++ r, 0) = (a, (r, 0))
  dec : ∀ s, okR s → s.2 = 0 → (R s).2.2 = 0 → s.1 = g (R s).1 ++ (R s).2.1 ∧ P (R s).1
  bt : ∀ s, okR s → okR (R s).2
def gN (n : Int) : List Int := encU (fold n)
def PN (lo hi n : Int) : Prop := Is64 n ∧ lo ≤ n ∧ n ≤ hi
theorem gb_rd (lo hi : Int) : Gb (rd lo hi) gN (PN lo hi) where
  err := rd_err lo hi
  enc := fun n r h => by
    have := rd_enc lo hi n h.1 r h.2
    rwa [encs_one] at this
  dec := fun s hb he h => by
    obtain ⟨h1, h2⟩ := rd_dec lo hi s hb.1 he h
    rw [encs_one] at h1
    exact ⟨h1, h2, rd_in lo hi s h⟩
  bt := rd_ok lo hi
def PT (most : Int) (l : List Int) : Prop := Bt l ∧ (l.length : Int) ≤ most ∧ l.length ≤ 100000000
theorem gb_T (most : Int) : Gb (rT most) wT (PT most) where
  err := fun s h => by
    unfold rT at h
    split at h
    · rename_i h1; exact absurd h h1
    · rename_i h1; exact rd_err 0 most s (by simpa using h1)
  enc := fun l r h => by
    have h64 := is64_len h.2.2
    have e := (gb_rd 0 most).enc (l.length : Int) (l ++ r) ⟨h64, by omega, h.2.1⟩
    have e : rd 0 most (wT l ++ r, 0) = ((l.length : Int), (l ++ r, 0)) := by
      rw [← e]; unfold wT gN; rw [List.append_assoc]
    unfold rT
    rw [e]
    simp only [ne_eq, not_true_eq_false, if_false, Int.toNat_natCast]
    rw [if_neg (by simp only [List.length_append]; omega), List.take_left, List.drop_left]
  dec := fun s hb he h => by
    unfold rT at h ⊢
    by_cases h1 : (rd 0 most s).2.2 = 0
    · obtain ⟨d1, d2, d3⟩ := (gb_rd 0 most).dec s hb he h1
      have hbt := rdInt_bytes s.1 s.2 0 most hb.1
      have hln : (rd 0 most s).2.1.length ≤ s.1.length := rdInt_len ..
      have hbt : Bt (rd 0 most s).2.1 := hbt
      rw [if_neg (by simpa using h1)] at h ⊢
      by_cases h2 : ((rd 0 most s).2.1.length : Int) < (rd 0 most s).1
      · rw [if_pos h2] at h; cases h
      · rw [if_neg h2]
        have h0 := rd_nn h1
        have hl : ((rd 0 most s).2.1.take (rd 0 most s).1.toNat).length = (rd 0 most s).1.toNat := by rw [List.length_take]; omega
        refine ⟨?_, bt_take hbt _, by dsimp only; rw [hl]; omega, ?_⟩
        · dsimp only
          unfold wT
          rw [hl, Int.toNat_of_nonneg h0, List.append_assoc, List.take_append_drop]
          exact d1
        · dsimp only
          rw [hl]
          have := hb.2
          omega
    · rw [if_pos h1] at h; exact absurd h h1
  bt := fun s h => rT_bt h
/-! ### rows of what is read -/
def rMany {α : Type} (R : Rs → α × Rs) : Nat → List α → Rs → List α × Rs
  | 0, a, s => (a, s)
  | n + 1, a, s => if s.2 = 0 then rMany R n (a ++ [(R s).1]) (R s).2 else (a, s)
theorem many_err {α : Type} {R : Rs → α × Rs} {g : α → List Int} {P : α → Prop} (hR : Gb R g P) : ∀ (n : Nat) (a : List α) (s : Rs), (rMany R n a s).2.2 = 0 → s.2 = 0
  | 0, a, s, h => h
  | n + 1, a, s, h => by
    unfold rMany at h
    split at h
    · assumption
    · exact h
theorem many_bt {α : Type} {R : Rs → α × Rs} {g : α → List Int} {P : α → Prop} (hR : Gb R g P) : ∀ (n : Nat) (a : List α) (s : Rs), okR s → okR (rMany R n a s).2
  | 0, a, s, h => h
  | n + 1, a, s, h => by
    unfold rMany
    split
    · exact many_bt hR n _ _ (hR.bt s h)
    · exact h
theorem many_enc {α : Type} {R : Rs → α × Rs} {g : α → List Int} {P : α → Prop} (hR : Gb R g P) : ∀ (l a : List α) (r : List Int), (∀ x ∈ l, P x) → rMany R l.length a (l.flatMap g ++ r, 0) = (a ++ l, (r, 0))
  | [], a, r, _ => by simp [rMany]
  | x :: l, a, r, h => by
    have e := hR.enc x (l.flatMap g ++ r) (h x (by simp))
    simp only [List.length_cons, rMany, if_true, List.flatMap_cons, List.append_assoc]
    rw [e]
    have := many_enc hR l (a ++ [x]) r fun y hy => h y (by simp [hy])
    rw [List.append_assoc] at this
    exact this
theorem many_dec {α : Type} {R : Rs → α × Rs} {g : α → List Int} {P : α → Prop} (hR : Gb R g P) : ∀ (n : Nat) (a : List α) (s : Rs), okR s → s.2 = 0 → (rMany R n a s).2.2 = 0 →
    ∃ l, l.length = n ∧ (rMany R n a s).1 = a ++ l ∧ s.1 = l.flatMap g ++ (rMany R n a s).2.1 ∧ ∀ x ∈ l, P x
  | 0, a, s, _, _, _ => ⟨[], rfl, by simp [rMany], by simp [rMany], by simp⟩
  | n + 1, a, s, hb, he, h => by
    unfold rMany at h ⊢
    rw [if_pos he] at h ⊢
    have h1 := many_err hR n _ _ h
    obtain ⟨d1, d2⟩ := hR.dec s hb he h1
    obtain ⟨l, e1, e2, e3, e4⟩ := many_dec hR n (a ++ [(R s).1]) (R s).2 (hR.bt s hb) h1 h
    refine ⟨(R s).1 :: l, by simp [e1], by rw [e2, List.append_assoc]; rfl, ?_, fun x hx => ?_⟩
    · rw [List.flatMap_cons, List.append_assoc, ← e3]; exact d1
    · rcases List.mem_cons.1 hx with rfl | hx
      · exact d2
      · exact e4 x hx
/-! ### entries -/
structure Bd where
  klo : Int
  khi : Int
  most : Int
  nlo : Int
  nhi : Int
  cnt : Int
  plo : Int
  phi : Int
abbrev En := AEntry'
def rE (B : Bd) (s : Rs) : En × Rs :=
  if (rd B.klo B.khi s).1 = 1 then ((1, (rT B.most (rd B.klo B.khi s).2).1, 0, [], ()), (rT B.most (rd B.klo B.khi s).2).2)
  else if (rd B.klo B.khi s).1 = 2 then
    ((2, [], (rd B.nlo B.nhi (rd B.klo B.khi s).2).1, (rMany (rd B.plo B.phi) (rd 0 B.cnt (rd B.nlo B.nhi (rd B.klo B.khi s).2).2).1.toNat [] (rd 0 B.cnt (rd B.nlo B.nhi (rd B.klo B.khi s).2).2).2).1, ()),
      (rMany (rd B.plo B.phi) (rd 0 B.cnt (rd B.nlo B.nhi (rd B.klo B.khi s).2).2).1.toNat [] (rd 0 B.cnt (rd B.nlo B.nhi (rd B.klo B.khi s).2).2).2).2)
  else (((rd B.klo B.khi s).1, [], 0, [], ()), (rd B.klo B.khi s).2)
def gE (x : En) : List Int := gN x.1 ++ (if x.1 = 1 then wT x.2.1 else if x.1 = 2 then gN x.2.2.1 ++ gN (x.2.2.2.1.length : Int) ++ x.2.2.2.1.flatMap gN else [])
structure PE (B : Bd) (x : En) : Prop where
  k : PN B.klo B.khi x.1
  t : x.1 = 1 → PT B.most x.2.1
  t0 : x.1 ≠ 1 → x.2.1 = []
  n : x.1 = 2 → PN B.nlo B.nhi x.2.2.1 ∧ PN 0 B.cnt (x.2.2.2.1.length : Int) ∧ ∀ p ∈ x.2.2.2.1, PN B.plo B.phi p
  n0 : x.1 ≠ 2 → x.2.2.1 = 0 ∧ x.2.2.2.1 = []
theorem gb_E (B : Bd) : Gb (rE B) gE (PE B) where
  err := fun s h => by
    unfold rE at h
    split at h
    · exact rd_err _ _ _ ((gb_T _).err _ h)
    · split at h
      · exact rd_err _ _ _ (rd_err _ _ _ (rd_err _ _ _ (many_err (gb_rd _ _) _ _ _ h)))
      · exact rd_err _ _ _ h
  bt := fun s h => by
    unfold rE
    have h1 := rd_ok B.klo B.khi s h
    split
    · exact rT_bt h1
    · split
      · exact many_bt (gb_rd _ _) _ _ _ (rd_ok _ _ _ (rd_ok _ _ _ h1))
      · exact h1
  enc := fun x r h => by
    obtain ⟨k, b, n, p, ⟨⟩⟩ := x
    obtain ⟨hk, ht, ht0, hn, hn0⟩ := h
    dsimp only at hk ht ht0 hn hn0
    unfold rE gE
    dsimp only
    by_cases h1 : k = 1
    · subst h1
      obtain ⟨rfl, rfl⟩ := hn0 (by decide)
      rw [if_pos rfl, List.append_assoc, (gb_rd _ _).enc 1 _ hk]
      rw [if_pos rfl, (gb_T _).enc b r (ht rfl)]
    · obtain rfl := ht0 h1
      by_cases h2 : k = 2
      · subst h2
        obtain ⟨q1, q2, q3⟩ := hn rfl
        rw [if_neg h1, if_pos rfl, List.append_assoc, (gb_rd _ _).enc 2 _ hk]
        rw [if_neg (by show ¬ (2 : Int) = 1; decide), if_pos rfl, List.append_assoc, List.append_assoc, (gb_rd _ _).enc n _ q1]
        dsimp only
        rw [(gb_rd _ _).enc _ _ q2]
        dsimp only
        rw [Int.toNat_natCast, many_enc (gb_rd _ _) p [] r q3]
        rfl
      · obtain ⟨rfl, rfl⟩ := hn0 h2
        rw [if_neg h1, if_neg h2, List.append_nil, (gb_rd _ _).enc k _ hk]
        rw [if_neg h1, if_neg h2]
  dec := fun s hb he h => by
    unfold rE at h ⊢
    by_cases h1 : (rd B.klo B.khi s).1 = 1
    · rw [if_pos h1] at h ⊢
      have e1 := (gb_T _).err _ h
      obtain ⟨d1, d2⟩ := (gb_rd _ _).dec s hb he e1
      obtain ⟨d3, d4⟩ := (gb_T _).dec _ (rd_ok _ _ _ hb) e1 h
      refine ⟨?_, ?_⟩
      · unfold gE
        dsimp only
        rw [if_pos rfl, List.append_assoc, ← d3]
        rw [h1] at d1; exact d1
      · refine ⟨by rw [h1] at d2; exact d2, fun _ => d4, fun h => absurd rfl h, fun h => absurd h (by show ¬ (1 : Int) = 2; decide), fun _ => ⟨rfl, rfl⟩⟩
    · rw [if_neg h1] at h ⊢
      by_cases h2 : (rd B.klo B.khi s).1 = 2
      · rw [if_pos h2] at h ⊢
        have e3 := many_err (gb_rd _ _) _ _ _ h
        have e2 := rd_err _ _ _ e3
        have e1 := rd_err _ _ _ e2
        have b1 := rd_ok B.klo B.khi s hb
        have b2 := rd_ok B.nlo B.nhi _ b1
        have b3 := rd_ok 0 B.cnt _ b2
        obtain ⟨d1, d2⟩ := (gb_rd _ _).dec s hb he e1
        obtain ⟨d3, d4⟩ := (gb_rd _ _).dec _ b1 e1 e2
        obtain ⟨d5, d6⟩ := (gb_rd _ _).dec _ b2 e2 e3
        obtain ⟨l, m1, m2, m3, m4⟩ := many_dec (gb_rd _ _) _ [] _ b3 e3 h
        rw [List.nil_append] at m2
        have hl : ((l.length : Nat) : Int) = (rd 0 B.cnt (rd B.nlo B.nhi (rd B.klo B.khi s).2).2).1 := by rw [m1]; exact Int.toNat_of_nonneg d6.2.1
        refine ⟨?_, ?_⟩
        · unfold gE
          dsimp only
          rw [if_neg (by decide), if_pos rfl, List.append_assoc, List.append_assoc, List.append_assoc, m2, hl, ← m3, ← d5, ← d3]
          rw [h2] at d1; exact d1
        · refine ⟨by rw [h2] at d2; exact d2, fun h => absurd h (by show ¬ (2 : Int) = 1; decide), fun _ => rfl, fun _ => ⟨d4, ?_, ?_⟩, fun h => absurd rfl h⟩
          · dsimp only; rw [m2, hl]; exact d6
          · dsimp only; rw [m2]; exact m4
      · rw [if_neg h2] at h ⊢
        obtain ⟨d1, d2⟩ := (gb_rd _ _).dec s hb he h
        refine ⟨?_, ⟨d2, fun h => absurd h h1, fun _ => rfl, fun h => absurd h h2, fun _ => ⟨rfl, rfl⟩⟩⟩
        unfold gE
        dsimp only
        rw [if_neg h1, if_neg h2, List.append_nil]
        exact d1
/-! ### all -/
def rA (B : Bd) (c : Int) (s : Rs) : List En × Rs := rMany (rE B) (rd 0 c s).1.toNat [] (rd 0 c s).2
def gA (l : List En) : List Int := gN (l.length : Int) ++ l.flatMap gE
def PA (B : Bd) (c : Int) (l : List En) : Prop := PN 0 c (l.length : Int) ∧ ∀ x ∈ l, PE B x
theorem gb_A (B : Bd) (c : Int) : Gb (rA B c) gA (PA B c) where
  err := fun s h => rd_err _ _ _ (many_err (gb_E B) _ _ _ h)
  bt := fun s h => many_bt (gb_E B) _ _ _ (rd_ok _ _ _ h)
  enc := fun l r h => by
    unfold rA gA
    rw [List.append_assoc, (gb_rd _ _).enc _ _ h.1]
    dsimp only
    rw [Int.toNat_natCast, many_enc (gb_E B) l [] r h.2]; rfl
  dec := fun s hb he h => by
    unfold rA at h ⊢
    have e1 := many_err (gb_E B) _ _ _ h
    obtain ⟨d1, d2⟩ := (gb_rd _ _).dec s hb he e1
    obtain ⟨l, m1, m2, m3, m4⟩ := many_dec (gb_E B) _ [] _ (rd_ok _ _ _ hb) e1 h
    rw [List.nil_append] at m2
    have hl : ((l.length : Nat) : Int) = (rd 0 c s).1 := by rw [m1]; exact Int.toNat_of_nonneg d2.2.1
    rw [m2]
    refine ⟨?_, by rw [hl]; exact d2, m4⟩
    unfold gA
    rw [List.append_assoc, hl, ← m3]
    exact d1
end Go.Proofs.YtclleaffonkegaaGreat

namespace Go.Proofs.YtclleaffonkegaaGreat
open Go Go.Vc Go.RowKit
set_option synthInstance.maxSize 100000
set_option synthInstance.maxHeartbeats 0
theorem both_of {β : Type} [EqB β] {a b c : Option β} (ha : a = c) (hb : b = c) : stdW.both a b = c := by rw [ha, hb]; exact both_w c
/-- a loop that reads -/
theorem loop_dn {α X β : Type} {f : X → (X → Option β) → Option β} (R : Rs → α × Rs) (st : Nat → List α → Rs → X) (r : List α → Rs → Option β) (hR : ∀ s, okR s → okR (R s).2) (m : Nat) (hm : m ≤ 1000000)
    (h0 : ∀ a s again, okR s → a.length = m → f (st 0 a s) again = r a s)
    (h1 : ∀ n a s again, okR s → n + 1 + a.length = m → s.2 ≠ 0 → f (st (n + 1) a s) again = r a s)
    (h2 : ∀ n a s again, okR s → n + 1 + a.length = m → s.2 = 0 → f (st (n + 1) a s) again = again (st n (a ++ [(R s).1]) (R s).2))
    (s : Rs) (hs : okR s) : stdW.loop f (st m [] s) = r (rMany R m [] s).1 (rMany R m [] s).2 := by
  have key : ∀ n k a s, okR s → n + a.length = m → n < k → loopF k f (st n a s) = r (rMany R n a s).1 (rMany R n a s).2 := by
    intro n
    induction n with
    | zero =>
      intro k a s hs ha hk
      cases k with
      | zero => omega
      | succ k => exact h0 a s (loopF k f) hs (by omega)
    | succ n ih =>
      intro k a s hs ha hk
      cases k with
      | zero => omega
      | succ k =>
        show f (st (n + 1) a s) (loopF k f) = _
        unfold rMany
        by_cases he : s.2 = 0
        · rw [if_pos he, h2 n a s _ hs (by omega) he]
          exact ih k _ _ (hR s hs) (by simp only [List.length_append, List.length_singleton]; omega) (by omega)
        · rw [if_neg he]
          exact h1 n a s _ hs (by omega) he
  exact key m FU [] s hs (by simp) (by rw [FU_eq]; omega)
def sm : Bd := ⟨1, 4, 400, 0, 1048576, 255, 0, 254⟩
theorem r_err (s : Rs) : pack_Reader_ErrW stdW true s.1 s.2 = some (s.2, (true, (s.1, (s.2, ())))) := rfl
theorem r_pI {lo hi : Int} {s : Rs} (h : okR s) : pack_Reader_IntW stdW true s.1 s.2 lo hi = some ((rd lo hi s).1, (true, ((rd lo hi s).2.1, ((rd lo hi s).2.2, ())))) := r_pInt h.1 (by have := h.2; omega)
theorem cnt_le {lo hi : Int} {s : Rs} (h0 : 0 ≤ hi) (hlo : lo ≤ 0) : (rd lo hi s).1 ≤ hi := by
  by_cases he : (rd lo hi s).2.2 = 0
  · exact (rd_in lo hi s he).2
  · unfold rd rdInt at he ⊢
    dsimp only at he ⊢
    split
    · exact h0
    · rename_i h1
      rw [if_neg h1] at he
      split
      · exact h0
      · rename_i u r e' heq
        rw [heq] at he
        dsimp only at he ⊢
        split
        · exact h0
        · omega
theorem cnt_nn {lo hi : Int} {s : Rs} (hlo : 0 ≤ lo) : 0 ≤ (rd lo hi s).1 := by
  unfold rd rdInt
  dsimp only
  split
  · exact Int.le_refl 0
  · split
    · exact Int.le_refl 0
    · split
      · exact Int.le_refl 0
      · omega
/-! ### an entry, read -/
theorem rT_len {most : Int} {s : Rs} (h : okR s) : (rT most s).1.length ≤ 100000000 ∧ Bt (rT most s).1 := by
  unfold rT
  have h1 : (rd 0 most s).2.1.length ≤ s.1.length := rdInt_len ..
  have h2 := (rd_ok 0 most s h).1
  split
  · exact ⟨by simp, fun b hb => by simp at hb⟩
  · split
    · exact ⟨by simp, fun b hb => by simp at hb⟩
    · refine ⟨?_, bt_take h2 _⟩
      have := h.2
      simp only [List.length_take]; omega
theorem rE_1 {s : Rs} (h : (rd 1 4 s).1 = 1) : rE sm s = ((1, (rT 400 (rd 1 4 s).2).1, 0, [], ()), (rT 400 (rd 1 4 s).2).2) := by
  unfold rE; exact if_pos h
theorem rE_2 {s : Rs} (h : (rd 1 4 s).1 = 2) : rE sm s = ((2, [], (rd 0 1048576 (rd 1 4 s).2).1, (rMany (rd 0 254) (rd 0 255 (rd 0 1048576 (rd 1 4 s).2).2).1.toNat [] (rd 0 255 (rd 0 1048576 (rd 1 4 s).2).2).2).1, ()),
      (rMany (rd 0 254) (rd 0 255 (rd 0 1048576 (rd 1 4 s).2).2).1.toNat [] (rd 0 255 (rd 0 1048576 (rd 1 4 s).2).2).2).2) := by
  unfold rE
  have h1 : ¬ (rd sm.klo sm.khi s).1 = 1 := by show ¬ (rd 1 4 s).1 = 1; rw [h]; decide
  rw [if_neg h1]; exact if_pos h
theorem rE_3 {s : Rs} (h1 : (rd 1 4 s).1 ≠ 1) (h2 : (rd 1 4 s).1 ≠ 2) : rE sm s = (((rd 1 4 s).1, [], 0, [], ()), (rd 1 4 s).2) := by
  unfold rE
  rw [if_neg (show ¬ (rd sm.klo sm.khi s).1 = 1 from h1), if_neg (show ¬ (rd sm.klo sm.khi s).1 = 2 from h2)]
  rfl
theorem r_take {s : Rs} (h : okR s) : script_take true s.1 s.2 = some ((rE sm s).1, (true, ((rE sm s).2.1, ((rE sm s).2.2, ())))) := by
  show script_takeW stdW true s.1 s.2 = _
  unfold script_takeW
  have b1 := rd_ok 1 4 s h
  rw [call_w (r_pI h), join_w]
  by_cases h1 : (rd 1 4 s).1 = 1
  · rw [rE_1 h1, cnd_y (by simp [h1])]
    show stdW.call (pack_Reader_Text true (rd 1 4 s).2.1 (rd 1 4 s).2.2 400) _ = _
    obtain ⟨l1, l2⟩ := rT_len (most := 400) b1
    rw [call_w (r_pText b1)]
    show stdW.str ((strOf (rT 400 (rd 1 4 s).2).1).size : Int) _ = _
    rw [strOf_size]
    show strF _ _ = _
    unfold strF
    rw [decide_eq_true (by omega), cond_true, bytesI_strOf l2, h1]
  · rw [cnd_n (by simp [h1])]
    by_cases h2 : (rd 1 4 s).1 = 2
    · rw [rE_2 h2, cnd_y (by simp [h2])]
      have b2 := rd_ok 0 1048576 _ b1
      have b3 := rd_ok 0 255 _ b2
      show stdW.call (pack_Reader_IntW stdW true (rd 1 4 s).2.1 (rd 1 4 s).2.2 0 1048576) _ = _
      rw [call_w (r_pI b1)]
      show stdW.call (pack_Reader_IntW stdW true (rd 0 1048576 (rd 1 4 s).2).2.1 (rd 0 1048576 (rd 1 4 s).2).2.2 0 255) _ = _
      rw [call_w (r_pI b2)]
      generalize hN : rd 0 1048576 (rd 1 4 s).2 = q2 at *
      have hc0 := cnt_nn (lo := 0) (hi := 255) (s := q2.2) (by omega)
      have hc1 := cnt_le (lo := 0) (hi := 255) (s := q2.2) (by omega) (by omega)
      generalize hC : rd 0 255 q2.2 = q3 at *
      obtain ⟨c, hc⟩ := Int.eq_ofNat_of_zero_le hc0
      have hcn : c ≤ 255 := by omega
      rw [hc, h2]
      have := loop_dn (f := (fun (z7 : Int × Bool × List (Int) × Int × Int × Int × List (Int) × Unit) again8 => 
     stdW.cnd (decide (0 < z7.1)) (stdW.call (pack_Reader_ErrW stdW z7.2.1 z7.2.2.1 z7.2.2.2.1) fun v9 => 
      stdW.cnd (v9.1 == 0) (
       stdW.join (fun (z10 : Bool × List (Int) × Int × Int × Int × List (Int) × Unit) => (again8 ((IntKind.i64.wrap (z7.1 - 1)), z10)))
        fun k11 => stdW.both (stdW.call (pack_Reader_IntW stdW v9.2.1 v9.2.2.1 v9.2.2.2.1 0 254) fun v12 => stdW.room (z7.2.2.2.2.2.2.1.length + (v12.1 :: []).length) 8 ((k11 (v12.2.1, (v12.2.2.1, (v12.2.2.2.1, (z7.2.2.2.2.1, (z7.2.2.2.2.2.1, ((z7.2.2.2.2.2.2.1 ++ (v12.1 :: [])), ()))))))))) (stdW.call (pack_Reader_IntW stdW v9.2.1 v9.2.2.1 v9.2.2.2.1 0 254) fun v13 => stdW.both (stdW.room (z7.2.2.2.2.2.2.1.length + (v13.1 :: []).length) 8 ((k11 (v13.2.1, (v13.2.2.1, (v13.2.2.2.1, (z7.2.2.2.2.1, (z7.2.2.2.2.2.1, ((z7.2.2.2.2.2.2.1 ++ (v13.1 :: [])), ()))))))))) (stdW.room (z7.2.2.2.2.2.2.1.length + (v13.1 :: []).length) 8 ((k11 (v13.2.1, (v13.2.2.1, (v13.2.2.2.1, (z7.2.2.2.2.1, (z7.2.2.2.2.2.1, ((z7.2.2.2.2.2.2.1 ++ (v13.1 :: [])), ())))))))))))
       (some ((z7.2.2.2.2.1, ([], z7.2.2.2.2.2)), (v9.2.1, (v9.2.2.1, (v9.2.2.2.1, ()))))))
      (some ((z7.2.2.2.2.1, ([], z7.2.2.2.2.2)), (z7.2.1, (z7.2.2.1, (z7.2.2.2.1, ())))))))
        (R := rd 0 254) (st := fun n a s => ((n : Int), (true, (s.1, (s.2, ((2 : Int), (q2.1, (a, ())))))))) (r := fun a s => some (((2, [], q2.1, a, ()) : En), (true, (s.1, (s.2, ()))))) (fun s hs => rd_ok _ _ s hs) c (by omega)
        (fun a s again hs ha => by rw [cnd_n (decide_eq_false (by show ¬ (0 : Int) < ((0 : Nat) : Int); decide))])
        (fun n a s again hs ha he => by
          rw [cnd_y (decide_eq_true (by show (0 : Int) < ((n + 1 : Nat) : Int); omega))]
          show stdW.call (pack_Reader_ErrW stdW true s.1 s.2) _ = _
          rw [call_w (r_err s), cnd_n (by simp [he])])
        (fun n a s again hs ha he => by
          rw [cnd_y (decide_eq_true (by show (0 : Int) < ((n + 1 : Nat) : Int); omega))]
          show stdW.call (pack_Reader_ErrW stdW true s.1 s.2) _ = _
          rw [call_w (r_err s), cnd_y (by simp [he]), join_w]
          have hi : IntKind.i64.wrap (((n + 1 : Nat) : Int) - 1) = (n : Int) := by rw [i64_p (n + 1) (by omega) (by omega)]; rfl
          refine both_of ?_ ?_
          · show stdW.call (pack_Reader_IntW stdW true s.1 s.2 0 254) _ = _
            rw [call_w (r_pI hs)]
            rw [room_w (by simp only [List.length_cons, List.length_nil]; omega) (by simp only [List.length_cons, List.length_nil]; omega), hi]
          · show stdW.call (pack_Reader_IntW stdW true s.1 s.2 0 254) _ = _
            rw [call_w (r_pI hs)]
            refine both_of ?_ ?_ <;>
            · rw [room_w (by simp only [List.length_cons, List.length_nil]; omega) (by simp only [List.length_cons, List.length_nil]; omega), hi])
        q3.2 b3
      rw [Int.toNat_natCast]
      exact this
    · rw [rE_3 h1 h2, cnd_n (by simp [h2])]
end Go.Proofs.YtclleaffonkegaaGreat

namespace Go.Proofs.YtclleaffonkegaaGreat
open Go Go.Vc Go.RowKit
set_option synthInstance.maxSize 100000
set_option synthInstance.maxHeartbeats 0
/-! ### entries, written -/
structure WE (x : En) : Prop where
  k : Is64 x.1
  b : Bt x.2.1
  bl : x.2.1.length ≤ 1000
  n : Is64 x.2.2.1
  pl : x.2.2.2.1.length ≤ 1000
  p : ∀ p ∈ x.2.2.2.1, Is64 p
theorem gN_len {n : Int} (h : Is64 n) : (gN n).length ≤ 10 := encU_len10 (fold_lt n h)
theorem gNs_len {l : List Int} (h : ∀ n ∈ l, Is64 n) : (l.flatMap gN).length ≤ 10 * l.length := encs_len h
theorem gE_len {x : En} (h : WE x) : (gE x).length ≤ 11100 := by
  unfold gE wT
  have h1 := gN_len h.k
  have h2 := gN_len h.n
  have h3 := gNs_len h.p
  have h4 := gN_len (is64_len (l := x.2.2.2.1) (by have := h.pl; omega))
  have h5 := encU_len10 (fold_lt _ (is64_len (l := x.2.1) (by have := h.bl; omega)))
  have h6 := h.bl
  have h7 := h.pl
  simp only [List.length_append]
  split
  · simp only [List.length_append]; omega
  · split
    · simp only [List.length_append]; omega
    · simp only [List.length_nil]; omega
theorem gEs_len {l : List En} (h : ∀ x ∈ l, WE x) : (l.flatMap gE).length ≤ 11100 * l.length := by
  induction l with
  | nil => simp
  | cons x l ih =>
    have h1 := gE_len (h x (by simp))
    have h2 := ih fun y hy => h y (by simp [hy])
    rw [List.flatMap_cons, List.length_append, List.length_cons]; omega
theorem encs_two (a b : Int) : encs [a, b] = gN a ++ gN b := by unfold encs gN; simp
theorem r_wI {b l : List Int} (hl : ∀ n ∈ l, Is64 n) (hn : l.length ≤ 1000000) (hb : b.length ≤ 50000000) : pack_Writer_IntW stdW true b l = some ((), (true, (b ++ encs l, ()))) := r_pkInt hl hn hb
theorem r_entry {b : List Int} {x : En} (h : WE x) (hb : b.length ≤ 40000000) : script_entry true b x = some ((), (true, (b ++ gE x, ()))) := by
  show script_entryW stdW true b x = _
  unfold script_entryW
  have l1 := gN_len h.k
  rw [call_w (r_wI (l := [x.1]) (fun n hn => by rw [List.mem_singleton.1 hn]; exact h.k) (by simp) (by omega))]
  rw [encs_one]
  by_cases h1 : x.1 = 1
  · rw [cnd_y (by simp [h1])]
    show stdW.call (pack_Writer_Text true (b ++ gN x.1) (strOf x.2.1)) _ = _
    rw [call_w (r_wText h.b (by have := h.bl; omega) (by simp only [List.length_append]; omega))]
    unfold gE
    rw [if_pos h1, ← List.append_assoc]
  · rw [cnd_n (by simp [h1])]
    by_cases h2 : x.1 = 2
    · rw [cnd_y (by simp [h2])]
      have l2 := gN_len h.n
      have hp64 := is64_len (l := x.2.2.2.1) (by have := h.pl; omega)
      have l3 := gN_len hp64
      show stdW.call (pack_Writer_IntW stdW true (b ++ gN x.1) [x.2.2.1, (x.2.2.2.1.length : Int)]) _ = _
      rw [call_w (r_wI (fun n hn => by
        simp only [List.mem_cons, List.not_mem_nil, or_false] at hn
        rcases hn with rfl | rfl
        · exact h.n
        · exact hp64) (by simp) (by simp only [List.length_append]; omega)), encs_two]
      have hpl := h.pl
      refine loop_list (l := x.2.2.2.1) (by omega) (fun i s => s = (true, ((b ++ gN x.1 ++ (gN x.2.2.1 ++ gN (x.2.2.2.1.length : Int))) ++ (x.2.2.2.1.take i).flatMap gN, ()))) (fun _ _ => some ((), (true, (b ++ gE x, ())))) (by simp) ?_ ?_
      · rintro _ again rfl
        rw [cnd_end, List.take_length]
        unfold gE
        rw [if_neg h1, if_pos h2]
        simp only [List.append_assoc]
      · rintro i hi _ rfl again ha
        have hx := h.p _ (List.getElem_mem hi)
        have l4 := gNs_len (l := x.2.2.2.1.take i) fun n hn => h.p n (List.mem_of_mem_take hn)
        rw [List.length_take] at l4
        rw [cnd_lt hi, idx_w hi]
        show stdW.call (pack_Writer_IntW stdW true ((b ++ gN x.1 ++ (gN x.2.2.1 ++ gN (x.2.2.2.1.length : Int))) ++ (x.2.2.2.1.take i).flatMap gN) [x.2.2.2.1[i]]) _ = _
        rw [call_w (r_wI (fun n hn => by rw [List.mem_singleton.1 hn]; exact hx) (by simp) (by simp only [List.length_append]; omega)), i64_s i (by omega), encs_one]
        refine ha _ ?_
        have e1 : x.2.2.2.1.take (i + 1) = x.2.2.2.1.take i ++ [x.2.2.2.1[i]] := by simp
        rw [e1, List.flatMap_append]
        show (true, (_ ++ gN x.2.2.2.1[i], ())) = _
        simp only [List.append_assoc, List.flatMap_cons, List.flatMap_nil, List.append_nil]
    · rw [cnd_n (by simp [h2])]
      unfold gE
      rw [if_neg h1, if_neg h2, List.append_nil]
      rfl
theorem r_bytesOf {l : List En} (h : ∀ x ∈ l, WE x) (hl : l.length ≤ 1000) : script_bytesOf l = some (gA l) := by
  show script_bytesOfW stdW l = _
  unfold script_bytesOfW
  have h64 : Is64 (l.length : Int) := ⟨by omega, by omega⟩
  have l1 := gN_len h64
  rw [call_w (show pack_NewW stdW = some ((), (true, ([], ()))) from rfl)]
  show stdW.call (pack_Writer_IntW stdW true [] [(l.length : Int)]) _ = _
  rw [call_w (r_wI (fun n hn => by rw [List.mem_singleton.1 hn]; exact h64) (by simp) (by simp)), encs_one, List.nil_append]
  refine loop_list (l := l) (by omega) (fun i s => s = (true, (gN (l.length : Int) ++ (l.take i).flatMap gE, ()))) (fun _ _ => some (gA l)) (by simp [gN]) ?_ ?_
  · rintro _ again rfl
    rw [cnd_end, List.take_length]
    have l2 := gEs_len h
    show stdW.call (pack_Writer_Done true (gA l)) _ = _
    rw [call_w (r_done (by unfold gA; simp only [List.length_append]; omega))]
  · rintro i hi _ rfl again ha
    have l2 := gEs_len (l := l.take i) fun n hn => h n (List.mem_of_mem_take hn)
    rw [List.length_take] at l2
    rw [cnd_lt hi, idx_w hi]
    show stdW.call (script_entry true (gN (l.length : Int) ++ (l.take i).flatMap gE) l[i]) _ = _
    rw [call_w (r_entry (h _ (List.getElem_mem hi)) (by simp only [List.length_append]; omega)), i64_s i (by omega)]
    refine ha _ ?_
    rw [show l.take (i + 1) = l.take i ++ [l[i]] by simp, List.flatMap_append, List.append_assoc]
    simp
/-! ### scripts, read -/
theorem PE.we {x : En} (h : PE sm x) : WE x := by
  obtain ⟨hk, ht, ht0, hn, hn0⟩ := h
  have hb : Bt x.2.1 ∧ x.2.1.length ≤ 1000 := by
    by_cases h1 : x.1 = 1
    · obtain ⟨q1, q2, _⟩ := ht h1
      have q2 : (x.2.1.length : Int) ≤ 400 := q2
      exact ⟨q1, by omega⟩
    · rw [ht0 h1]; exact ⟨fun b hb => by simp at hb, by simp⟩
  have hp : Is64 x.2.2.1 ∧ x.2.2.2.1.length ≤ 1000 ∧ ∀ p ∈ x.2.2.2.1, Is64 p := by
    by_cases h2 : x.1 = 2
    · obtain ⟨q1, q2, q3⟩ := hn h2
      have q2 : (x.2.2.2.1.length : Int) ≤ 255 := q2.2.2
      exact ⟨q1.1, by omega, fun p hp => (q3 p hp).1⟩
    · obtain ⟨e1, e2⟩ := hn0 h2
      rw [e1, e2]; exact ⟨⟨by decide, by decide⟩, by simp, by simp⟩
  exact ⟨hk.1, hb.1, hb.2, hp.1, hp.2.1, hp.2.2⟩
/-- what is read of bytes -/
def dA (b : List Int) : Option (List En) := if endE (rA sm 400 (b, 0)).2 = 0 then some (rA sm 400 (b, 0)).1 else none
theorem end0 {s : Rs} (h : endE s = 0) : s.2 = 0 ∧ s.1 = [] := by
  unfold endE at h
  split at h
  · rename_i h1; exact absurd h h1
  · rename_i h1
    split at h
    · cases h
    · rename_i h2; exact ⟨by simpa using h1, List.length_eq_zero_iff.1 (by omega)⟩
theorem dA_s {b : List Int} (hb : okR (b, 0)) {l : List En} (h : dA b = some l) : b = gA l ∧ PA sm 400 l := by
  unfold dA at h
  split at h
  · rename_i he
    simp only [Option.some.injEq] at h
    obtain ⟨h1, h2⟩ := end0 he
    obtain ⟨d1, d2⟩ := (gb_A sm 400).dec (b, 0) hb rfl h1
    rw [h2, List.append_nil, h] at d1
    rw [h] at d2
    exact ⟨d1, d2⟩
  · cases h
theorem dA_e {l : List En} (h : PA sm 400 l) : dA (gA l) = some l := by
  have := (gb_A sm 400).enc l [] h
  rw [List.append_nil] at this
  unfold dA
  rw [this]; rfl
def outD (o : Option (List En)) : List En × Int × Unit := match o with
  | some l => (l, (0, ()))
  | none => ([], (3, ()))
theorem PA.len {l : List En} (h : PA sm 400 l) : l.length ≤ 400 := by have := h.1.2.2; omega
theorem r_take' {s : Rs} (h : okR s) : script_takeW stdW true s.1 s.2 = some ((rE sm s).1, (true, ((rE sm s).2.1, ((rE sm s).2.2, ())))) := r_take h
theorem r_scDecode {b : List Int} (hb : okR (b, 0)) : script_Decode b = some (outD (dA b)) := by
  show script_DecodeW stdW b = _
  unfold script_DecodeW
  rw [call_w (show pack_OpenW stdW b = some ((), (true, (b, (0, ())))) from r_open hb.2), join_w]
  show stdW.call (pack_Reader_IntW stdW true (b, (0 : Int)).1 (b, (0 : Int)).2 0 400) _ = _
  rw [call_w (r_pI hb)]
  have b1 := rd_ok 0 400 _ hb
  have hc0 := cnt_nn (lo := 0) (hi := 400) (s := (b, 0)) (by omega)
  have hc1 := cnt_le (lo := 0) (hi := 400) (s := (b, 0)) (by omega) (by omega)
  obtain ⟨c, hc⟩ := Int.eq_ofNat_of_zero_le hc0
  have hA : rA sm 400 (b, 0) = rMany (rE sm) c [] (rd 0 400 (b, 0)).2 := by unfold rA; rw [hc]; rfl
  rw [hc]
  have hfin : ∀ (a : List En) (s : Rs), (a, s) = rA sm 400 (b, 0) → stdW.join (fun (z3 : Bool × Bool × List (Int) × Int × List (Int × List (Int) × Int × List (Int) × Unit) × Unit) => 
   stdW.cnd z3.1 (some (([] : List En), ((3 : Int), ())))
    (some (z3.2.2.2.2.1, (0, ()))))
   (fun k4 => stdW.call (pack_Reader_EndW stdW true s.1 s.2) fun v5 => 
   stdW.cnd (v5.1 != 0) ((k4 (true, (v5.2.1, (v5.2.2.1, (v5.2.2.2.1, (a, ())))))))
    (stdW.call (script_bytesOfW stdW a) fun v6 => stdW.call (bytes_EqualW stdW v6 b) fun v7 => (k4 ((!v7), (v5.2.1, (v5.2.2.1, (v5.2.2.2.1, (a, ())))))))) = some (outD (dA b)) := by
    intro a s hs
    rw [join_w, call_w (show pack_Reader_EndW stdW true s.1 s.2 = _ from r_pEnd s)]
    by_cases he : endE s = 0
    · rw [cnd_n (by simp [he])]
      have hd : dA b = some a := by unfold dA; rw [← hs, if_pos he]
      obtain ⟨e1, e2⟩ := dA_s hb hd
      rw [call_w (show script_bytesOfW stdW a = some (gA a) from r_bytesOf (fun x hx => (e2.2 x hx).we) (by have := e2.len; omega)), ← e1, call_w (byEq b), hd]
      show stdW.cnd (!true) _ _ = _
      rw [cnd_n (by rfl)]
      rfl
    · rw [cnd_y (by simp [he])]
      show stdW.cnd true _ _ = _
      rw [cnd_y (by rfl)]
      have hd : dA b = none := by unfold dA; rw [← hs, if_neg he]
      rw [hd]; rfl
  refine (loop_dn (R := rE sm) (st := fun n a s => ((n : Int), (true, (s.1, (s.2, (a, ())))))) (r := fun a s => stdW.join (fun (z3 : Bool × Bool × List (Int) × Int × List (Int × List (Int) × Int × List (Int) × Unit) × Unit) => 
   stdW.cnd z3.1 (some (([] : List En), ((3 : Int), ())))
    (some (z3.2.2.2.2.1, (0, ()))))
   (fun k4 => stdW.call (pack_Reader_EndW stdW true s.1 s.2) fun v5 => 
   stdW.cnd (v5.1 != 0) ((k4 (true, (v5.2.1, (v5.2.2.1, (v5.2.2.2.1, (a, ())))))))
    (stdW.call (script_bytesOfW stdW a) fun v6 => stdW.call (bytes_EqualW stdW v6 b) fun v7 => (k4 ((!v7), (v5.2.1, (v5.2.2.1, (v5.2.2.2.1, (a, ())))))))))
    (fun s hs => (gb_E sm).bt s hs) c (by omega) (fun a s again hs ha => ?_) (fun n a s again hs ha he => ?_) (fun n a s again hs ha he => ?_) (rd 0 400 (b, 0)).2 b1).trans ?_
  · rw [cnd_n (decide_eq_false (by show ¬ (0 : Int) < ((0 : Nat) : Int); decide))]
  · rw [cnd_y (decide_eq_true (by show (0 : Int) < ((n + 1 : Nat) : Int); omega))]
    show stdW.call (pack_Reader_ErrW stdW true s.1 s.2) _ = _
    rw [call_w (r_err s), cnd_n (by simp [he])]
  · rw [cnd_y (decide_eq_true (by show (0 : Int) < ((n + 1 : Nat) : Int); omega))]
    show stdW.call (pack_Reader_ErrW stdW true s.1 s.2) _ = _
    rw [call_w (r_err s), cnd_y (by simp [he])]
    have hi : IntKind.i64.wrap (((n + 1 : Nat) : Int) - 1) = (n : Int) := by rw [i64_p (n + 1) (by omega) (by omega)]; rfl
    show stdW.call (script_takeW stdW true s.1 s.2) _ = _
    rw [call_w (r_take' hs), room_w (by simp only [List.length_cons, List.length_nil]; omega) (by simp only [List.length_cons, List.length_nil]; omega), hi]
  · exact hfin _ _ (by rw [hA])
/-! ### scripts, written -/
def bareB (x : En) : Bool := (decide (x.1 = 1) || decide (x.2.1 = [])) && (decide (x.1 = 2) || (decide (x.2.2.1 = 0) && decide (x.2.2.2.1 = [])))
theorem len0 (l : List Int) : (((l.length : Nat) : Int) == 0) = decide (l = []) := by
  cases l with
  | nil => rfl
  | cons x l => simp; omega
theorem r_bare (x : En) : script_bare x = some (bareB x) := by
  show script_bareW stdW x = _
  unfold script_bareW bareB
  have hb : ∀ a b : Int, (a == b) = decide (a = b) := fun _ _ => rfl
  rw [len0, len0]
  simp only [hb]
  by_cases h1 : x.1 = 1 <;> by_cases h2 : x.1 = 2 <;> by_cases h3 : x.2.1 = [] <;> by_cases h4 : x.2.2.1 = 0 <;> simp [h1, h2, h3, h4]
theorem r_bare' (x : En) : script_bareW stdW x = some (bareB x) := r_bare x
def encO (l : List En) : List Int × Int × Unit := if l.all bareB = true ∧ (dA (gA l)).isSome then (gA l, (0, ())) else ([], (3, ()))
theorem bt_gN {n : Int} : Bt (gN n) := fun b hb => encs_btK [n] b (by rw [encs_one]; exact hb)
theorem gE_bt {x : En} (h : WE x) : Bt (gE x) := by
  unfold gE wT
  refine bt_app bt_gN ?_
  split
  · exact bt_app bt_gN h.b
  · split
    · exact bt_app (bt_app bt_gN bt_gN) (encs_btK _)
    · exact fun b hb => by simp at hb
theorem gA_ok {l : List En} (h : ∀ x ∈ l, WE x) (hl : l.length ≤ 1000) : okR (gA l, 0) := by
  have l1 := gN_len (n := (l.length : Int)) ⟨by omega, by omega⟩
  have l2 := gEs_len h
  refine ⟨bt_app bt_gN fun b hb => ?_, by unfold gA; simp only [List.length_append]; omega⟩
  obtain ⟨x, hx, hb⟩ := List.mem_flatMap.1 hb
  exact gE_bt (h x hx) b hb
theorem r_scEncode {l : List En} (h : ∀ x ∈ l, WE x) (hl : l.length ≤ 1000) : script_Encode l = some (encO l) := by
  show script_EncodeW stdW l = _
  unfold script_EncodeW
  refine loop_list (l := l) (by omega) (fun i _ => (l.take i).all bareB = true) (fun _ _ => some (encO l)) (by simp) ?_ ?_
  · rintro ⟨⟩ again hb
    rw [List.take_length] at hb
    rw [cnd_end, call_w (show script_bytesOfW stdW l = some (gA l) from r_bytesOf h hl)]
    rw [call_w (show script_DecodeW stdW (gA l) = some (outD (dA (gA l))) from r_scDecode (gA_ok h hl))]
    unfold encO
    cases hd : dA (gA l) with
    | none => rw [cnd_y (by rfl), if_neg (by simp)]; rfl
    | some l' => rw [cnd_n (by rfl), if_pos ⟨hb, rfl⟩]
  · rintro i hi ⟨⟩ hb again ha
    rw [cnd_lt hi, idx_w hi, call_w (r_bare' _)]
    cases hx : bareB l[i] with
    | false =>
      rw [cnd_y (by rfl)]
      unfold encO
      rw [if_neg]
      rintro ⟨h1, _⟩
      have := List.all_eq_true.1 h1 l[i] (List.getElem_mem hi)
      rw [hx] at this; cases this
    | true =>
      rw [cnd_n (by rfl)]
      show again (IntKind.i64.wrap ((i : Int) + 1), ()) = _
      rw [i64_s i (by omega)]
      refine ha _ ?_
      rw [show l.take (i + 1) = l.take i ++ [l[i]] by simp, List.all_append, hb]
      simp [hx]
end Go.Proofs.YtclleaffonkegaaGreat

namespace Go.Proofs.YtclleaffonkegaaGreat
open Go Go.Vc Go.RowKit
set_option synthInstance.maxSize 100000
set_option synthInstance.maxHeartbeats 0
/-! ### the reference: which entries are a script -/
abbrev Kp (x : En) : Prop := ∀ p ∈ x.2.2.2.1, 0 ≤ p ∧ p ≤ 254
abbrev W2 (x : En) : Prop := 0 ≤ x.2.2.1 ∧ x.2.2.1 ≤ 1048576 ∧ (x.2.2.2.1.length : Int) ≤ 255 ∧ (x.1 ≠ 2 → x.2.2.1 = 0 ∧ ¬ (0 : Int) < (x.2.2.2.1.length : Int))
abbrev W1 (x : En) : Prop := 1 ≤ x.1 ∧ x.1 ≤ 4 ∧ (x.2.1.length : Int) ≤ 400 ∧ (x.1 ≠ 1 → ¬ (0 : Int) < (x.2.1.length : Int))
abbrev Wn (x : En) : Prop := W1 x ∧ W2 x ∧ Kp x
theorem r_keeps {l : List Int} (hl : l.length ≤ 1000000) : stdW.loop (fun (z3 : Int × Unit) again4 => 
      stdW.cnd (decide (z3.1 < (l.length : Int))) (
       stdW.join (fun (z5 : Bool × Unit) => 
        stdW.cnd z5.1 (some false)
         ((again4 ((IntKind.i64.wrap (z3.1 + 1)), ()))))
        fun k6 => stdW.idx l z3.1 fun x7 => 
        stdW.cnd (decide (x7 < 0)) ((k6 (true, ())))
         (stdW.idx l z3.1 fun x8 => (k6 ((decide (254 < x8)), ()))))
       (some true))
      (0, ()) = some (decide (∀ p ∈ l, 0 ≤ p ∧ p ≤ 254)) := by
  refine loop_list (l := l) (by omega) (fun i _ => ∀ p ∈ l.take i, 0 ≤ p ∧ p ≤ 254) (fun _ _ => some (decide (∀ p ∈ l, 0 ≤ p ∧ p ≤ 254))) (by simp) ?_ ?_
  · rintro ⟨⟩ again hb
    rw [List.take_length] at hb
    rw [cnd_end, decide_eq_true hb]
  · rintro i hi ⟨⟩ hb again ha
    rw [cnd_lt hi, join_w, idx_w hi, idx_w hi]
    by_cases h1 : l[i] < 0
    · rw [cnd_y (decide_eq_true h1)]
      show stdW.cnd true _ _ = _
      rw [cnd_y rfl, decide_eq_false]
      intro h
      have := (h l[i] (List.getElem_mem hi)).1
      omega
    · rw [cnd_n (decide_eq_false h1)]
      by_cases h2 : 254 < l[i]
      · rw [decide_eq_true h2]
        show stdW.cnd true _ _ = _
        rw [cnd_y rfl, decide_eq_false]
        intro h
        have := (h l[i] (List.getElem_mem hi)).2
        omega
      · rw [decide_eq_false h2]
        show stdW.cnd false _ _ = _
        rw [cnd_n rfl]
        show again (IntKind.i64.wrap ((i : Int) + 1), ()) = _
        rw [i64_s i (by omega)]
        refine ha _ ?_
        rw [show l.take (i + 1) = l.take i ++ [l[i]] by simp]
        intro p hp
        rcases List.mem_append.1 hp with hp | hp
        · exact hb p hp
        · rw [List.mem_singleton.1 hp]; omega
theorem join_g {α β : Type} {g : α → Option β} {f : (α → Option β) → Option β} {r : Option β} (h : ∀ k, (∀ z, k z = g z) → f k = r) : stdW.join g f = r := h g fun _ => rfl
theorem dec_f {p : Prop} [Decidable p] (h : ¬ p) : some false = some (decide p) := by rw [decide_eq_false h]
theorem r_one {x : En} (hl : x.2.2.2.1.length ≤ 1000000) : ref38_oneW stdW x = some (decide (Wn x)) := by
  have hb : ∀ a b : Int, (a != b) = decide (a ≠ b) := fun a b => by by_cases h : a = b <;> simp [h]
  have hk := r_keeps hl
  -- the second part
  have g2 : W1 x → ∀ k9 : Bool × Unit → Option Bool, (∀ z, k9 z = stdW.cnd z.1 (some false) (some (decide (Kp x)))) →
      (stdW.cnd (decide (x.2.2.1 < 0)) ((k9 (true, ())))
     (
     stdW.cnd (decide (1048576 < x.2.2.1)) ((k9 (true, ())))
      (
      stdW.cnd (decide (255 < (x.2.2.2.1.length : Int))) ((k9 (true, ())))
       (
       stdW.cnd (x.1 != 2) (
        stdW.cnd (x.2.2.1 != 0) ((k9 (true, ())))
         ((k9 ((decide (0 < (x.2.2.2.1.length : Int))), ()))))
        ((k9 (false, ()))))))) = some (decide (Wn x)) := by
    intro w1 k9 hk9
    have t : k9 (true, ()) = some false := by rw [hk9]; rfl
    have f : k9 (false, ()) = some (decide (Kp x)) := by rw [hk9]; rfl
    by_cases a1 : x.2.2.1 < 0
    · rw [cnd_y (decide_eq_true a1), t]; exact dec_f fun h => by have := h.2.1.1; omega
    rw [cnd_n (decide_eq_false a1)]
    by_cases a2 : 1048576 < x.2.2.1
    · rw [cnd_y (decide_eq_true a2), t]; exact dec_f fun h => by have := h.2.1.2.1; omega
    rw [cnd_n (decide_eq_false a2)]
    by_cases a3 : 255 < (x.2.2.2.1.length : Int)
    · rw [cnd_y (decide_eq_true a3), t]; exact dec_f fun h => by have := h.2.1.2.2.1; omega
    rw [cnd_n (decide_eq_false a3)]
    have e : ∀ h : (x.1 ≠ 2 → x.2.2.1 = 0 ∧ ¬ (0 : Int) < (x.2.2.2.1.length : Int)), some (decide (Kp x)) = some (decide (Wn x)) := fun h => by
      congr 1
      exact decide_eq_decide.2 ⟨fun k => ⟨w1, ⟨by omega, by omega, by omega, h⟩, k⟩, fun k => k.2.2⟩
    by_cases a4 : x.1 = 2
    · rw [cnd_n (by simp [a4]), f]; exact e fun h => absurd a4 h
    · rw [cnd_y (by simp [a4])]
      by_cases a5 : x.2.2.1 = 0
      · rw [cnd_n (by simp [a5])]
        by_cases a6 : (0 : Int) < (x.2.2.2.1.length : Int)
        · rw [decide_eq_true a6, t]; exact dec_f fun h => (h.2.1.2.2.2 a4).2 a6
        · rw [decide_eq_false a6, f]; exact e fun _ => ⟨a5, a6⟩
      · rw [cnd_y (by simp [a5]), t]; exact dec_f fun h => a5 (h.2.1.2.2.2 a4).1
  have g1 : ∀ k10 : Bool × Unit → Option Bool, k10 (true, ()) = some false → (W1 x → k10 (false, ()) = some (decide (Wn x))) →
      (stdW.cnd (decide (x.1 < 1)) ((k10 (true, ())))
   (
   stdW.cnd (decide (4 < x.1)) ((k10 (true, ())))
    (
    stdW.cnd (decide (400 < (x.2.1.length : Int))) ((k10 (true, ())))
     (
     stdW.cnd (x.1 != 1) ((k10 ((decide (0 < (x.2.1.length : Int))), ())))
      ((k10 (false, ()))))))) = some (decide (Wn x)) := by
    intro k10 t f
    by_cases a1 : x.1 < 1
    · rw [cnd_y (decide_eq_true a1), t]; exact dec_f fun h => by have := h.1.1; omega
    rw [cnd_n (decide_eq_false a1)]
    by_cases a2 : 4 < x.1
    · rw [cnd_y (decide_eq_true a2), t]; exact dec_f fun h => by have := h.1.2.1; omega
    rw [cnd_n (decide_eq_false a2)]
    by_cases a3 : 400 < (x.2.1.length : Int)
    · rw [cnd_y (decide_eq_true a3), t]; exact dec_f fun h => by have := h.1.2.2.1; omega
    rw [cnd_n (decide_eq_false a3)]
    by_cases a4 : x.1 = 1
    · rw [cnd_n (by simp [a4])]; exact f ⟨by omega, by omega, by omega, fun h => absurd a4 h⟩
    · rw [cnd_y (by simp [a4])]
      by_cases a6 : (0 : Int) < (x.2.1.length : Int)
      · rw [decide_eq_true a6, t]; exact dec_f fun h => (h.1.2.2.2 a4) a6
      · rw [decide_eq_false a6]; exact f ⟨by omega, by omega, by omega, fun _ => a6⟩
  unfold ref38_oneW
  refine join_g fun k10 h10 => ?_
  refine g1 k10 (by rw [h10]; rfl) fun w1 => ?_
  rw [h10]
  show stdW.cnd false _ _ = _
  rw [cnd_n rfl]
  refine join_g fun k9 h9 => ?_
  refine g2 w1 k9 fun z => ?_
  rw [h9]
  show stdW.cnd z.1 (some false) (stdW.loop _ _) = _
  rw [hk]
theorem r_Is {l : List En} (hk : ∀ x ∈ l, x.2.2.2.1.length ≤ 1000000) (hl : l.length ≤ 1000000) : ref38_IsW stdW l = some (decide ((∀ x ∈ l, Wn x) ∧ (l.length : Int) ≤ 400)) := by
  unfold ref38_IsW
  refine loop_list (l := l) (by omega) (fun i _ => ∀ x ∈ l.take i, Wn x) (fun _ _ => some (decide ((∀ x ∈ l, Wn x) ∧ (l.length : Int) ≤ 400))) (by simp) ?_ ?_
  · rintro ⟨⟩ again hb
    rw [List.take_length] at hb
    rw [cnd_end]
    congr 1
    exact decide_eq_decide.2 ⟨fun h => ⟨hb, h⟩, fun h => h.2⟩
  · rintro i hi ⟨⟩ hb again ha
    rw [cnd_lt hi, idx_w hi, call_w (r_one (hk _ (List.getElem_mem hi)))]
    by_cases h1 : Wn l[i]
    · rw [decide_eq_true h1]
      show stdW.cnd false _ _ = _
      rw [cnd_n rfl]
      show again (IntKind.i64.wrap ((i : Int) + 1), ()) = _
      rw [i64_s i (by omega)]
      refine ha _ ?_
      rw [show l.take (i + 1) = l.take i ++ [l[i]] by simp]
      intro p hp
      rcases List.mem_append.1 hp with hp | hp
      · exact hb p hp
      · rw [List.mem_singleton.1 hp]; exact h1
    · rw [decide_eq_false h1]
      show stdW.cnd true _ _ = _
      rw [cnd_y rfl]
      exact dec_f fun h => h1 (h.1 _ (List.getElem_mem hi))
end Go.Proofs.YtclleaffonkegaaGreat

namespace Go.Proofs.YtclleaffonkegaaGreat
open Go Go.Vc Go.RowKit
set_option synthInstance.maxSize 100000
set_option synthInstance.maxHeartbeats 0
/-! ### the reference: scripts, written -/
theorem r_gN {n : Int} (h : Is64 n) : ref04_IntW stdW n = some (gN n) := r_rInt h
theorem r_gT {l : List Int} (hl : Bt l) (hn : l.length ≤ 1000000) : ref04_TextW stdW (strOf l) = some (wT l) := r_rTextW hl hn
abbrev IsS (l : List En) : Prop := (∀ x ∈ l, Wn x) ∧ (l.length : Int) ≤ 400
theorem r_refEnc {l : List En} (h : ∀ x ∈ l, WE x) (hl : l.length ≤ 1000) : ref38_EncodeW stdW l = some (if IsS l then (gA l, (0, ())) else ([], (3, ()))) := by
  unfold ref38_EncodeW
  rw [call_w (r_Is (fun x hx => by have := (h x hx).pl; omega) (by omega))]
  by_cases hw : IsS l
  · rw [decide_eq_true hw, if_pos hw]
    show stdW.cnd false _ _ = _
    rw [cnd_n rfl]
    have h64 : Is64 (l.length : Int) := ⟨by omega, by omega⟩
    have l1 := gN_len h64
    rw [call_w (r_gN h64)]
    refine loop_list (l := l) (by omega) (fun i s => s = (gN (l.length : Int) ++ (l.take i).flatMap gE, ())) (fun _ _ => some (gA l, (0, ()))) (by simp) ?_ ?_
    · rintro _ again rfl
      rw [cnd_end, List.take_length]
      rfl
    · rintro i hi _ rfl again ha
      have hx := h _ (List.getElem_mem hi)
      have l2 := gEs_len (l := l.take i) fun n hn => h n (List.mem_of_mem_take hn)
      rw [List.length_take] at l2
      have go : again (IntKind.i64.wrap ((i : Int) + 1), ((gN (l.length : Int) ++ (l.take i).flatMap gE) ++ gE l[i], ())) = some (gA l, (0, ())) := by
        rw [i64_s i (by omega)]
        refine ha _ ?_
        have e1 : l.take (i + 1) = l.take i ++ [l[i]] := by simp
        rw [e1, List.flatMap_append]
        simp only [List.append_assoc, List.flatMap_cons, List.flatMap_nil, List.append_nil]
      have hb : (gN (l.length : Int) ++ (l.take i).flatMap gE).length ≤ 20000000 := by simp only [List.length_append]; omega
      rw [cnd_lt hi, join_w, idx_w hi]
      generalize (gN (l.length : Int) ++ (l.take i).flatMap gE) = b at go hb ⊢
      generalize l[i] = x at go hx ⊢
      have q1 := gN_len hx.k
      have q2 := hx.bl
      have q3 := gN_len hx.n
      have q4 := hx.pl
      have hp64 : Is64 (x.2.2.2.1.length : Int) := ⟨by omega, by omega⟩
      have q5 := gN_len hp64
      have q6 : (wT x.2.1).length ≤ 1010 := by
        have := encU_len10 (fold_lt _ (is64_len (l := x.2.1) (by omega)))
        unfold wT; simp only [List.length_append]; omega
      rw [call_w (r_gN hx.k), room_w (n := b.length + _) (by omega) (by omega), join_w]
      by_cases h1 : x.1 = 1
      · have e : b ++ gE x = (b ++ gN x.1) ++ wT x.2.1 := by unfold gE; rw [if_pos h1, List.append_assoc]
        rw [cnd_y (by simp [h1]), call_w (r_gT hx.b (by omega)), room_w (n := (b ++ gN x.1).length + _) (by simp only [List.length_append]; omega) (by simp only [List.length_append]; omega)]
        show stdW.cnd (x.1 == 2) _ _ = _
        rw [cnd_n (by simp [h1])]
        rw [e] at go
        exact go
      · rw [cnd_n (by simp [h1])]
        show stdW.cnd (x.1 == 2) _ _ = _
        by_cases h2 : x.1 = 2
        · have e : b ++ gE x = (((b ++ gN x.1) ++ gN x.2.2.1) ++ gN (x.2.2.2.1.length : Int)) ++ x.2.2.2.1.flatMap gN := by
            unfold gE; rw [if_neg h1, if_pos h2]; simp only [List.append_assoc]
          rw [e] at go
          rw [cnd_y (by simp [h2]), call_w (r_gN hx.n), room_w (n := (b ++ gN x.1).length + _) (by simp only [List.length_append]; omega) (by simp only [List.length_append]; omega), call_w (r_gN hp64), room_w (n := ((b ++ gN x.1) ++ gN x.2.2.1).length + _) (by simp only [List.length_append]; omega) (by simp only [List.length_append]; omega)]
          show stdW.loop _ (0, ((((b ++ gN x.1) ++ gN x.2.2.1) ++ gN (x.2.2.2.1.length : Int)), ())) = _
          have hb2 : (((b ++ gN x.1) ++ gN x.2.2.1) ++ gN (x.2.2.2.1.length : Int)).length ≤ 20000030 := by simp only [List.length_append]; omega
          generalize (((b ++ gN x.1) ++ gN x.2.2.1) ++ gN (x.2.2.2.1.length : Int)) = b2 at go hb2 ⊢
          refine loop_list (l := x.2.2.2.1) (by omega) (fun j s => s = (b2 ++ (x.2.2.2.1.take j).flatMap gN, ())) (fun _ _ => some (gA l, (0, ()))) (by simp) ?_ ?_
          · rintro _ again' rfl
            rw [cnd_end, List.take_length]
            exact go
          · rintro j hj _ rfl again' ha'
            have hp := hx.p _ (List.getElem_mem hj)
            have q7 := gN_len hp
            have q8 := gNs_len (l := x.2.2.2.1.take j) fun n hn => hx.p n (List.mem_of_mem_take hn)
            rw [List.length_take] at q8
            rw [cnd_lt hj, idx_w hj, call_w (r_gN hp), room_w (n := (b2 ++ (x.2.2.2.1.take j).flatMap gN).length + _) (by simp only [List.length_append]; omega) (by simp only [List.length_append]; omega), i64_s j (by omega)]
            refine ha' _ ?_
            have e1 : x.2.2.2.1.take (j + 1) = x.2.2.2.1.take j ++ [x.2.2.2.1[j]] := by simp
            rw [e1, List.flatMap_append]
            simp only [List.append_assoc, List.flatMap_cons, List.flatMap_nil, List.append_nil]
        · have e : b ++ gE x = b ++ gN x.1 := by unfold gE; rw [if_neg h1, if_neg h2, List.append_nil]
          rw [e] at go
          rw [cnd_n (by simp [h2])]
          exact go
  · rw [decide_eq_false hw, if_neg hw]
    show stdW.cnd true _ _ = _
    rw [cnd_y rfl]
end Go.Proofs.YtclleaffonkegaaGreat

namespace Go.Proofs.YtclleaffonkegaaGreat
open Go Go.Vc Go.RowKit
set_option synthInstance.maxSize 100000
set_option synthInstance.maxHeartbeats 0
/-! ### the reference: scripts, read -/
theorem r_sameE {l : List En} (h : ∀ x ∈ l, WE x) (hl : l.length ≤ 1000) : ref38_SameEntriesW stdW l l = some true := by
  unfold ref38_SameEntriesW
  rw [call_w (r_refEnc h hl), call_w (r_refEnc h hl)]
  have hlen : (if IsS l then (gA l, ((0 : Int), ())) else (([] : List Int), (3, ()))).1.length ≤ 100000000 := by
    have h1 := gN_len (n := (l.length : Int)) ⟨by omega, by omega⟩
    have h2 := gEs_len h
    split
    · show (gA l).length ≤ _; unfold gA; simp only [List.length_append]; omega
    · simp
  generalize (if IsS l then (gA l, ((0 : Int), ())) else (([] : List Int), (3, ()))) = y at hlen
  refine join_g fun k hk => ?_
  show stdW.cnd (y.2.1 != y.2.1) _ _ = _
  rw [cnd_n (by simp)]
  show k (((y.1.length : Int) != (y.1.length : Int)), (y.1, (y.1, ()))) = _
  rw [show ((y.1.length : Int) != (y.1.length : Int)) = false by simp, hk]
  show stdW.cnd false _ _ = _
  rw [cnd_n rfl]
  refine loop_list (l := y.1) (by omega) (fun i s => s = (y.1, (y.1, ()))) (fun _ _ => some true) rfl ?_ ?_
  · rintro _ again rfl
    rw [cnd_end]
  · rintro i hi _ rfl again ha
    rw [cnd_lt hi]
    refine join_g fun k2 hk2 => ?_
    show stdW.idx y.1 (i : Int) _ = _
    rw [idx_w hi, idx_w hi]
    have e : k2 ((y.1[i] != y.1[i]), (y.1, (y.1, ()))) = some true := by
      rw [show (y.1[i] != y.1[i]) = false by simp, hk2]
      show stdW.cnd false _ _ = _
      rw [cnd_n rfl]
      show again (IntKind.i64.wrap ((i : Int) + 1), (y.1, (y.1, ()))) = _
      rw [i64_s i (by omega)]
      exact ha _ rfl
    refine both_of ?_ ?_
    · rw [nth_w hi, nth_w hi]; exact e
    · rw [nth_w hi, nth_w hi]; exact e
/-- reads that do not stop -/
def rAll {α : Type} (R : Rs → α × Rs) : Nat → List α → Rs → List α × Rs
  | 0, a, s => (a, s)
  | n + 1, a, s => rAll R n (a ++ [(R s).1]) (R s).2
theorem rAll_e {α : Type} {R : Rs → α × Rs} (hR : ∀ s, s.2 ≠ 0 → (R s).2 = s) : ∀ (n : Nat) (a : List α) (s : Rs), s.2 ≠ 0 → (rAll R n a s).2 = s
  | 0, _, _, _ => rfl
  | n + 1, a, s, h => by
    show (rAll R n _ _).2 = s
    rw [hR s h]; exact rAll_e hR n _ s h
theorem rAll_many {α : Type} {R : Rs → α × Rs} (hR : ∀ s, s.2 ≠ 0 → (R s).2 = s) : ∀ (n : Nat) (a : List α) (s : Rs), (rAll R n a s).2 = (rMany R n a s).2 ∧ ((rMany R n a s).2.2 = 0 → (rAll R n a s).1 = (rMany R n a s).1)
  | 0, _, _ => ⟨rfl, fun _ => rfl⟩
  | n + 1, a, s => by
    by_cases h : s.2 = 0
    · have e : rMany R (n + 1) a s = rMany R n (a ++ [(R s).1]) (R s).2 := by show (if s.2 = 0 then _ else _) = _; rw [if_pos h]
      rw [e]; exact rAll_many hR n _ _
    · have e : rMany R (n + 1) a s = (a, s) := by show (if s.2 = 0 then _ else _) = _; rw [if_neg h]
      rw [e]; exact ⟨rAll_e hR (n + 1) a s h, fun h' => absurd h' h⟩
theorem rd_keep (lo hi : Int) (s : Rs) (h : s.2 ≠ 0) : (rd lo hi s).2 = s := by
  obtain ⟨b, e⟩ := s
  show ((rdInt b e lo hi).2.1, (rdInt b e lo hi).2.2) = (b, e)
  unfold rdInt
  rw [if_pos h]
theorem loop_all {α X β : Type} {f : X → (X → Option β) → Option β} (R : Rs → α × Rs) (st : Nat → List α → Rs → X) (r : List α → Rs → Option β) (hR : ∀ s, okR s → okR (R s).2) (m : Nat) (hm : m ≤ 1000000)
    (h0 : ∀ a s again, okR s → a.length = m → f (st 0 a s) again = r a s)
    (h2 : ∀ n a s again, okR s → n + 1 + a.length = m → f (st (n + 1) a s) again = again (st n (a ++ [(R s).1]) (R s).2))
    (s : Rs) (hs : okR s) : stdW.loop f (st m [] s) = r (rAll R m [] s).1 (rAll R m [] s).2 := by
  have key : ∀ n k a s, okR s → n + a.length = m → n < k → loopF k f (st n a s) = r (rAll R n a s).1 (rAll R n a s).2 := by
    intro n
    induction n with
    | zero =>
      intro k a s hs ha hk
      cases k with
      | zero => omega
      | succ k => exact h0 a s (loopF k f) hs (by omega)
    | succ n ih =>
      intro k a s hs ha hk
      cases k with
      | zero => omega
      | succ k =>
        show f (st (n + 1) a s) (loopF k f) = _
        rw [h2 n a s _ hs (by omega)]
        exact ih k _ _ (hR s hs) (by simp only [List.length_append, List.length_singleton]; omega) (by omega)
  exact key m FU [] s hs (by simp) (by rw [FU_eq]; omega)
/-- an entry, as the reference reads it -/
def rE' (s : Rs) : En × Rs :=
  if (rd 1 4 s).1 = 1 then ((1, (rT 400 (rd 1 4 s).2).1, 0, [], ()), (rT 400 (rd 1 4 s).2).2)
  else if (rd 1 4 s).1 = 2 then
    ((2, [], (rd 0 1048576 (rd 1 4 s).2).1, (rAll (rd 0 254) (rd 0 255 (rd 0 1048576 (rd 1 4 s).2).2).1.toNat [] (rd 0 255 (rd 0 1048576 (rd 1 4 s).2).2).2).1, ()),
      (rAll (rd 0 254) (rd 0 255 (rd 0 1048576 (rd 1 4 s).2).2).1.toNat [] (rd 0 255 (rd 0 1048576 (rd 1 4 s).2).2).2).2)
  else (((rd 1 4 s).1, [], 0, [], ()), (rd 1 4 s).2)
theorem rE'_eq (s : Rs) : (rE' s).2 = (rE sm s).2 ∧ ((rE sm s).2.2 = 0 → (rE' s).1 = (rE sm s).1) := by
  unfold rE' rE
  show (if (rd 1 4 s).1 = 1 then _ else if (rd 1 4 s).1 = 2 then _ else _ : En × Rs).2 = (if (rd 1 4 s).1 = 1 then _ else if (rd 1 4 s).1 = 2 then _ else _ : En × Rs).2 ∧ _
  by_cases h1 : (rd 1 4 s).1 = 1
  · rw [if_pos h1, if_pos h1]; exact ⟨rfl, fun _ => by rw [if_pos (show (rd sm.klo sm.khi s).1 = 1 from h1)]; rfl⟩
  · have h1' : ¬ (rd sm.klo sm.khi s).1 = 1 := h1
    by_cases h2 : (rd 1 4 s).1 = 2
    · have h2' : (rd sm.klo sm.khi s).1 = 2 := h2
      have m := rAll_many (rd_keep 0 254) (rd 0 255 (rd 0 1048576 (rd 1 4 s).2).2).1.toNat [] (rd 0 255 (rd 0 1048576 (rd 1 4 s).2).2).2
      rw [if_neg h1, if_pos h2, if_neg h1, if_pos h2]
      refine ⟨m.1, fun h => ?_⟩
      rw [if_neg h1', if_pos h2'] at h ⊢
      show ((2 : Int), ([] : List Int), _, _, ()) = _
      rw [m.2 h]; rfl
    · have h2' : ¬ (rd sm.klo sm.khi s).1 = 2 := h2
      rw [if_neg h1, if_neg h2, if_neg h1, if_neg h2]
      exact ⟨rfl, fun _ => by rw [if_neg h1', if_neg h2']; rfl⟩
theorem many_eq : ∀ (n : Nat) (a : List En) (s : Rs), (rMany rE' n a s).2 = (rMany (rE sm) n a s).2 ∧ ((rMany (rE sm) n a s).2.2 = 0 → (rMany rE' n a s).1 = (rMany (rE sm) n a s).1)
  | 0, _, _ => ⟨rfl, fun _ => rfl⟩
  | n + 1, a, s => by
    by_cases h : s.2 = 0
    · have e : rMany (rE sm) (n + 1) a s = rMany (rE sm) n (a ++ [(rE sm s).1]) (rE sm s).2 := by show (if s.2 = 0 then _ else _) = _; rw [if_pos h]
      have e' : rMany rE' (n + 1) a s = rMany rE' n (a ++ [(rE' s).1]) (rE' s).2 := by show (if s.2 = 0 then _ else _) = _; rw [if_pos h]
      rw [e, e', (rE'_eq s).1]
      by_cases h2 : (rE sm s).2.2 = 0
      · rw [(rE'_eq s).2 h2]; exact many_eq n _ _
      · cases n with
        | zero => exact ⟨rfl, fun h' => absurd h' h2⟩
        | succ n =>
          have f : ∀ (R : Rs → En × Rs) (b : List En), rMany R (n + 1) b (rE sm s).2 = (b, (rE sm s).2) := fun R b => by show (if (rE sm s).2.2 = 0 then _ else _) = _; rw [if_neg h2]
          rw [f, f]; exact ⟨rfl, fun h' => absurd h' h2⟩
    · have e : ∀ R : Rs → En × Rs, rMany R (n + 1) a s = (a, s) := fun R => by show (if s.2 = 0 then _ else _) = _; rw [if_neg h]
      rw [e, e]; exact ⟨rfl, fun _ => rfl⟩
theorem rE'_ok {s : Rs} (h : okR s) : okR (rE' s).2 := by rw [(rE'_eq s).1]; exact (gb_E sm).bt s h
end Go.Proofs.YtclleaffonkegaaGreat

namespace Go.Proofs.YtclleaffonkegaaGreat
open Go Go.Vc Go.RowKit
open Lot
set_option maxRecDepth 100000
set_option synthInstance.maxSize 100000
set_option synthInstance.maxHeartbeats 0
set_option maxHeartbeats 8000000
def scroll_Scroll_AppendW (W : Wd) (s1 : Int) (s2 : Int) (s3 : Int) (s4 : Int) (s5 : Int) (s6 : Int) (s7 : List (List Int)) (s8 : Bool) (s0_0 : Bool) (s0_1 : Bool) (s0_2 : Int) (s0_3 : List Int) (s0_4 : List DriveCell') (s0_5 : Int) (b : List Int) : Option (Int × (Int × Int × Int × Int × Int × Int × (List (List Int)) × Bool × Bool × Bool × Int × (List Int) × (List DriveCell') × Int × Unit)) := W.call (scroll_Scroll_okW W s1 s2 s3 s4 s5 s6 s7 s8 s0_0 s0_1 s0_2 s0_3 s0_4 s0_5) fun v1 => 
 W.cnd (!v1.1) (some (1, v1.2))
  (
  W.join (fun (z2 : Bool × Int × Int × Int × Int × Int × Int × Bool × Bool × Bool × Int × List (Int) × Int × List (List (Int)) × List (Int × Int × Int × Int × Int × Int × Int × Int × Int × Int × Int × Int × Int × Int × Int × Int × Int × Int × Int × Int × Int × Int × Int × Int × Int × Int × Int × Int × Int × Int × Int × Int × Int × Int × Int × Int × Int × Int × Int × Int × Int × Int × Int × _ × _) × Unit) => 
   W.cnd z2.1 (some (9, (z2.2.1, (z2.2.2.1, (z2.2.2.2.1, (z2.2.2.2.2.1, (z2.2.2.2.2.2.1, (z2.2.2.2.2.2.2.1, (z2.2.2.2.2.2.2.2.2.2.2.2.2.2.1, (z2.2.2.2.2.2.2.2.1, (z2.2.2.2.2.2.2.2.2.1, (z2.2.2.2.2.2.2.2.2.2.1, (z2.2.2.2.2.2.2.2.2.2.2.1, (z2.2.2.2.2.2.2.2.2.2.2.2.1, (z2.2.2.2.2.2.2.2.2.2.2.2.2.2.2.1, (z2.2.2.2.2.2.2.2.2.2.2.2.2.1, ()))))))))))))))))
    (W.call (frame_CutW W z2.2.2.2.1 z2.2.2.2.2.1 (IntKind.i64.wrap ((z2.2.2.2.2.2.2.2.2.2.2.2.2.2.1.length : Int) + 1)) b) fun v3 => 
    W.cnd (v3.2.1 != 0) (some (v3.2.1, (z2.2.1, (z2.2.2.1, (z2.2.2.2.1, (z2.2.2.2.2.1, (z2.2.2.2.2.2.1, (z2.2.2.2.2.2.2.1, (z2.2.2.2.2.2.2.2.2.2.2.2.2.2.1, (z2.2.2.2.2.2.2.2.1, (z2.2.2.2.2.2.2.2.2.1, (z2.2.2.2.2.2.2.2.2.2.1, (z2.2.2.2.2.2.2.2.2.2.2.1, (z2.2.2.2.2.2.2.2.2.2.2.2.1, (z2.2.2.2.2.2.2.2.2.2.2.2.2.2.2.1, (z2.2.2.2.2.2.2.2.2.2.2.2.2.1, ()))))))))))))))))
     (
     W.cnd (decide ((IntKind.i64.wrap (z2.2.2.1 - z2.2.2.2.2.2.2.1)) < (v3.1.length : Int))) (some (10, (z2.2.1, (z2.2.2.1, (z2.2.2.2.1, (z2.2.2.2.2.1, (z2.2.2.2.2.2.1, (z2.2.2.2.2.2.2.1, (z2.2.2.2.2.2.2.2.2.2.2.2.2.2.1, (z2.2.2.2.2.2.2.2.1, (z2.2.2.2.2.2.2.2.2.1, (z2.2.2.2.2.2.2.2.2.2.1, (z2.2.2.2.2.2.2.2.2.2.2.1, (z2.2.2.2.2.2.2.2.2.2.2.2.1, (z2.2.2.2.2.2.2.2.2.2.2.2.2.2.2.1, (z2.2.2.2.2.2.2.2.2.2.2.2.2.1, ()))))))))))))))))
      (W.call (drive_Drive_WriteW W z2.2.2.2.2.2.2.2.2.1 z2.2.2.2.2.2.2.2.2.2.1 z2.2.2.2.2.2.2.2.2.2.2.1 z2.2.2.2.2.2.2.2.2.2.2.2.1 z2.2.2.2.2.2.2.2.2.2.2.2.2.2.2.1 z2.2.2.2.2.2.2.2.2.2.2.2.2.1 z2.2.2.2.2.2.2.1 v3.1) fun v4 => 
      W.cnd (v4.1 != 0) (some (v4.1, (z2.2.1, (z2.2.2.1, (z2.2.2.2.1, (z2.2.2.2.2.1, (z2.2.2.2.2.2.1, (z2.2.2.2.2.2.2.1, (z2.2.2.2.2.2.2.2.2.2.2.2.2.2.1, (true, v4.2))))))))))
       (W.both (W.both (W.call (bytes_CloneW W b) fun v5 => W.both (W.both (W.room (z2.2.2.2.2.2.2.2.2.2.2.2.2.2.1.length + (v5 :: []).length) 24 (W.both (some (0, (z2.2.1, (z2.2.2.1, (z2.2.2.2.1, (z2.2.2.2.2.1, (z2.2.2.2.1, ((IntKind.i64.wrap (z2.2.2.2.2.2.2.1 + (v3.1.length : Int))), ((z2.2.2.2.2.2.2.2.2.2.2.2.2.2.1 ++ (v5 :: [])), (z2.2.2.2.2.2.2.2.1, v4.2)))))))))) (some (0, (z2.2.1, (z2.2.2.1, (z2.2.2.2.1, (z2.2.2.2.2.1, (z2.2.2.2.1, ((IntKind.i64.wrap (z2.2.2.2.2.2.2.1 + (v3.1.length : Int))), ((z2.2.2.2.2.2.2.2.2.2.2.2.2.2.1 ++ (v5 :: [])), (z2.2.2.2.2.2.2.2.1, v4.2)))))))))))) (W.both (W.both (W.room (z2.2.2.2.2.2.2.2.2.2.2.2.2.2.1.length + (v5 :: []).length) 24 (some (0, (z2.2.1, (z2.2.2.1, (z2.2.2.2.1, (z2.2.2.2.2.1, (z2.2.2.2.1, ((IntKind.i64.wrap (z2.2.2.2.2.2.2.1 + (v3.1.length : Int))), ((z2.2.2.2.2.2.2.2.2.2.2.2.2.2.1 ++ (v5 :: [])), (z2.2.2.2.2.2.2.2.1, v4.2))))))))))) (W.room (z2.2.2.2.2.2.2.2.2.2.2.2.2.2.1.length + (v5 :: []).length) 24 (some (0, (z2.2.1, (z2.2.2.1, (z2.2.2.2.1, (z2.2.2.2.2.1, (z2.2.2.2.1, ((IntKind.i64.wrap (z2.2.2.2.2.2.2.1 + (v3.1.length : Int))), ((z2.2.2.2.2.2.2.2.2.2.2.2.2.2.1 ++ (v5 :: [])), (z2.2.2.2.2.2.2.2.1, v4.2)))))))))))) (W.both (W.room (z2.2.2.2.2.2.2.2.2.2.2.2.2.2.1.length + (v5 :: []).length) 24 (some (0, (z2.2.1, (z2.2.2.1, (z2.2.2.2.1, (z2.2.2.2.2.1, (z2.2.2.2.1, ((IntKind.i64.wrap (z2.2.2.2.2.2.2.1 + (v3.1.length : Int))), ((z2.2.2.2.2.2.2.2.2.2.2.2.2.2.1 ++ (v5 :: [])), (z2.2.2.2.2.2.2.2.1, v4.2))))))))))) (W.room (z2.2.2.2.2.2.2.2.2.2.2.2.2.2.1.length + (v5 :: []).length) 24 (some (0, (z2.2.1, (z2.2.2.1, (z2.2.2.2.1, (z2.2.2.2.2.1, (z2.2.2.2.1, ((IntKind.i64.wrap (z2.2.2.2.2.2.2.1 + (v3.1.length : Int))), ((z2.2.2.2.2.2.2.2.2.2.2.2.2.2.1 ++ (v5 :: [])), (z2.2.2.2.2.2.2.2.1, v4.2)))))))))))))) (W.both (W.both (W.both (W.room (z2.2.2.2.2.2.2.2.2.2.2.2.2.2.1.length + (v5 :: []).length) 24 (some (0, (z2.2.1, (z2.2.2.1, (z2.2.2.2.1, (z2.2.2.2.2.1, (z2.2.2.2.1, ((IntKind.i64.wrap (z2.2.2.2.2.2.2.1 + (v3.1.length : Int))), ((z2.2.2.2.2.2.2.2.2.2.2.2.2.2.1 ++ (v5 :: [])), (z2.2.2.2.2.2.2.2.1, v4.2))))))))))) (W.room (z2.2.2.2.2.2.2.2.2.2.2.2.2.2.1.length + (v5 :: []).length) 24 (some (0, (z2.2.1, (z2.2.2.1, (z2.2.2.2.1, (z2.2.2.2.2.1, (z2.2.2.2.1, ((IntKind.i64.wrap (z2.2.2.2.2.2.2.1 + (v3.1.length : Int))), ((z2.2.2.2.2.2.2.2.2.2.2.2.2.2.1 ++ (v5 :: [])), (z2.2.2.2.2.2.2.2.1, v4.2)))))))))))) (W.room (z2.2.2.2.2.2.2.2.2.2.2.2.2.2.1.length + (v5 :: []).length) 24 (some (0, (z2.2.1, (z2.2.2.1, (z2.2.2.2.1, (z2.2.2.2.2.1, (z2.2.2.2.1, ((IntKind.i64.wrap (z2.2.2.2.2.2.2.1 + (v3.1.length : Int))), ((z2.2.2.2.2.2.2.2.2.2.2.2.2.2.1 ++ (v5 :: [])), (z2.2.2.2.2.2.2.2.1, v4.2)))))))))))) (W.both (W.both (W.room (z2.2.2.2.2.2.2.2.2.2.2.2.2.2.1.length + (v5 :: []).length) 24 (some (0, (z2.2.1, (z2.2.2.1, (z2.2.2.2.1, (z2.2.2.2.2.1, (z2.2.2.2.1, ((IntKind.i64.wrap (z2.2.2.2.2.2.2.1 + (v3.1.length : Int))), ((z2.2.2.2.2.2.2.2.2.2.2.2.2.2.1 ++ (v5 :: [])), (z2.2.2.2.2.2.2.2.1, v4.2))))))))))) (W.room (z2.2.2.2.2.2.2.2.2.2.2.2.2.2.1.length + (v5 :: []).length) 24 (some (0, (z2.2.1, (z2.2.2.1, (z2.2.2.2.1, (z2.2.2.2.2.1, (z2.2.2.2.1, ((IntKind.i64.wrap (z2.2.2.2.2.2.2.1 + (v3.1.length : Int))), ((z2.2.2.2.2.2.2.2.2.2.2.2.2.2.1 ++ (v5 :: [])), (z2.2.2.2.2.2.2.2.1, v4.2)))))))))))) (W.room (z2.2.2.2.2.2.2.2.2.2.2.2.2.2.1.length + (v5 :: []).length) 24 (some (0, (z2.2.1, (z2.2.2.1, (z2.2.2.2.1, (z2.2.2.2.2.1, (z2.2.2.2.1, ((IntKind.i64.wrap (z2.2.2.2.2.2.2.1 + (v3.1.length : Int))), ((z2.2.2.2.2.2.2.2.2.2.2.2.2.2.1 ++ (v5 :: [])), (z2.2.2.2.2.2.2.2.1, v4.2)))))))))))))) (W.both (W.both (W.call (bytes_CloneW W b) fun v6 => W.both (W.both (W.room (z2.2.2.2.2.2.2.2.2.2.2.2.2.2.1.length + (v6 :: []).length) 24 (some (0, (z2.2.1, (z2.2.2.1, (z2.2.2.2.1, (z2.2.2.2.2.1, (z2.2.2.2.1, ((IntKind.i64.wrap (z2.2.2.2.2.2.2.1 + (v3.1.length : Int))), ((z2.2.2.2.2.2.2.2.2.2.2.2.2.2.1 ++ (v6 :: [])), (z2.2.2.2.2.2.2.2.1, v4.2))))))))))) (W.room (z2.2.2.2.2.2.2.2.2.2.2.2.2.2.1.length + (v6 :: []).length) 24 (some (0, (z2.2.1, (z2.2.2.1, (z2.2.2.2.1, (z2.2.2.2.2.1, (z2.2.2.2.1, ((IntKind.i64.wrap (z2.2.2.2.2.2.2.1 + (v3.1.length : Int))), ((z2.2.2.2.2.2.2.2.2.2.2.2.2.2.1 ++ (v6 :: [])), (z2.2.2.2.2.2.2.2.1, v4.2)))))))))))) (W.room (z2.2.2.2.2.2.2.2.2.2.2.2.2.2.1.length + (v6 :: []).length) 24 (some (0, (z2.2.1, (z2.2.2.1, (z2.2.2.2.1, (z2.2.2.2.2.1, (z2.2.2.2.1, ((IntKind.i64.wrap (z2.2.2.2.2.2.2.1 + (v3.1.length : Int))), ((z2.2.2.2.2.2.2.2.2.2.2.2.2.2.1 ++ (v6 :: [])), (z2.2.2.2.2.2.2.2.1, v4.2)))))))))))) (W.call (bytes_CloneW W b) fun v7 => W.room (z2.2.2.2.2.2.2.2.2.2.2.2.2.2.1.length + (v7 :: []).length) 24 (some (0, (z2.2.1, (z2.2.2.1, (z2.2.2.2.1, (z2.2.2.2.2.1, (z2.2.2.2.1, ((IntKind.i64.wrap (z2.2.2.2.2.2.2.1 + (v3.1.length : Int))), ((z2.2.2.2.2.2.2.2.2.2.2.2.2.2.1 ++ (v7 :: [])), (z2.2.2.2.2.2.2.2.1, v4.2)))))))))))) (W.both (W.call (bytes_CloneW W b) fun v8 => W.both (W.both (W.room (z2.2.2.2.2.2.2.2.2.2.2.2.2.2.1.length + (v8 :: []).length) 24 (some (0, (z2.2.1, (z2.2.2.1, (z2.2.2.2.1, (z2.2.2.2.2.1, (z2.2.2.2.1, ((IntKind.i64.wrap (z2.2.2.2.2.2.2.1 + (v3.1.length : Int))), ((z2.2.2.2.2.2.2.2.2.2.2.2.2.2.1 ++ (v8 :: [])), (z2.2.2.2.2.2.2.2.1, v4.2))))))))))) (W.room (z2.2.2.2.2.2.2.2.2.2.2.2.2.2.1.length + (v8 :: []).length) 24 (some (0, (z2.2.1, (z2.2.2.1, (z2.2.2.2.1, (z2.2.2.2.2.1, (z2.2.2.2.1, ((IntKind.i64.wrap (z2.2.2.2.2.2.2.1 + (v3.1.length : Int))), ((z2.2.2.2.2.2.2.2.2.2.2.2.2.2.1 ++ (v8 :: [])), (z2.2.2.2.2.2.2.2.1, v4.2)))))))))))) (W.room (z2.2.2.2.2.2.2.2.2.2.2.2.2.2.1.length + (v8 :: []).length) 24 (some (0, (z2.2.1, (z2.2.2.1, (z2.2.2.2.1, (z2.2.2.2.2.1, (z2.2.2.2.1, ((IntKind.i64.wrap (z2.2.2.2.2.2.2.1 + (v3.1.length : Int))), ((z2.2.2.2.2.2.2.2.2.2.2.2.2.2.1 ++ (v8 :: [])), (z2.2.2.2.2.2.2.2.1, v4.2)))))))))))) (W.call (bytes_CloneW W b) fun v9 => W.room (z2.2.2.2.2.2.2.2.2.2.2.2.2.2.1.length + (v9 :: []).length) 24 (some (0, (z2.2.1, (z2.2.2.1, (z2.2.2.2.1, (z2.2.2.2.2.1, (z2.2.2.2.1, ((IntKind.i64.wrap (z2.2.2.2.2.2.2.1 + (v3.1.length : Int))), ((z2.2.2.2.2.2.2.2.2.2.2.2.2.2.1 ++ (v9 :: [])), (z2.2.2.2.2.2.2.2.1, v4.2)))))))))))))) (W.both (W.call (bytes_CloneW W b) fun v10 => W.both (W.both (W.both (W.room (z2.2.2.2.2.2.2.2.2.2.2.2.2.2.1.length + (v10 :: []).length) 24 (W.both (some (0, (z2.2.1, (z2.2.2.1, (z2.2.2.2.1, (z2.2.2.2.2.1, (z2.2.2.2.1, ((IntKind.i64.wrap (z2.2.2.2.2.2.2.1 + (v3.1.length : Int))), ((z2.2.2.2.2.2.2.2.2.2.2.2.2.2.1 ++ (v10 :: [])), (z2.2.2.2.2.2.2.2.1, v4.2)))))))))) (some (0, (z2.2.1, (z2.2.2.1, (z2.2.2.2.1, (z2.2.2.2.2.1, (z2.2.2.2.1, ((IntKind.i64.wrap (z2.2.2.2.2.2.2.1 + (v3.1.length : Int))), ((z2.2.2.2.2.2.2.2.2.2.2.2.2.2.1 ++ (v10 :: [])), (z2.2.2.2.2.2.2.2.1, v4.2)))))))))))) (W.both (W.both (W.room (z2.2.2.2.2.2.2.2.2.2.2.2.2.2.1.length + (v10 :: []).length) 24 (some (0, (z2.2.1, (z2.2.2.1, (z2.2.2.2.1, (z2.2.2.2.2.1, (z2.2.2.2.1, ((IntKind.i64.wrap (z2.2.2.2.2.2.2.1 + (v3.1.length : Int))), ((z2.2.2.2.2.2.2.2.2.2.2.2.2.2.1 ++ (v10 :: [])), (z2.2.2.2.2.2.2.2.1, v4.2))))))))))) (W.room (z2.2.2.2.2.2.2.2.2.2.2.2.2.2.1.length + (v10 :: []).length) 24 (some (0, (z2.2.1, (z2.2.2.1, (z2.2.2.2.1, (z2.2.2.2.2.1, (z2.2.2.2.1, ((IntKind.i64.wrap (z2.2.2.2.2.2.2.1 + (v3.1.length : Int))), ((z2.2.2.2.2.2.2.2.2.2.2.2.2.2.1 ++ (v10 :: [])), (z2.2.2.2.2.2.2.2.1, v4.2)))))))))))) (W.both (W.room (z2.2.2.2.2.2.2.2.2.2.2.2.2.2.1.length + (v10 :: []).length) 24 (some (0, (z2.2.1, (z2.2.2.1, (z2.2.2.2.1, (z2.2.2.2.2.1, (z2.2.2.2.1, ((IntKind.i64.wrap (z2.2.2.2.2.2.2.1 + (v3.1.length : Int))), ((z2.2.2.2.2.2.2.2.2.2.2.2.2.2.1 ++ (v10 :: [])), (z2.2.2.2.2.2.2.2.1, v4.2))))))))))) (W.room (z2.2.2.2.2.2.2.2.2.2.2.2.2.2.1.length + (v10 :: []).length) 24 (some (0, (z2.2.1, (z2.2.2.1, (z2.2.2.2.1, (z2.2.2.2.2.1, (z2.2.2.2.1, ((IntKind.i64.wrap (z2.2.2.2.2.2.2.1 + (v3.1.length : Int))), ((z2.2.2.2.2.2.2.2.2.2.2.2.2.2.1 ++ (v10 :: [])), (z2.2.2.2.2.2.2.2.1, v4.2)))))))))))))) (W.both (W.both (W.both (W.room (z2.2.2.2.2.2.2.2.2.2.2.2.2.2.1.length + (v10 :: []).length) 24 (some (0, (z2.2.1, (z2.2.2.1, (z2.2.2.2.1, (z2.2.2.2.2.1, (z2.2.2.2.1, ((IntKind.i64.wrap (z2.2.2.2.2.2.2.1 + (v3.1.length : Int))), ((z2.2.2.2.2.2.2.2.2.2.2.2.2.2.1 ++ (v10 :: [])), (z2.2.2.2.2.2.2.2.1, v4.2))))))))))) (W.room (z2.2.2.2.2.2.2.2.2.2.2.2.2.2.1.length + (v10 :: []).length) 24 (some (0, (z2.2.1, (z2.2.2.1, (z2.2.2.2.1, (z2.2.2.2.2.1, (z2.2.2.2.1, ((IntKind.i64.wrap (z2.2.2.2.2.2.2.1 + (v3.1.length : Int))), ((z2.2.2.2.2.2.2.2.2.2.2.2.2.2.1 ++ (v10 :: [])), (z2.2.2.2.2.2.2.2.1, v4.2)))))))))))) (W.room (z2.2.2.2.2.2.2.2.2.2.2.2.2.2.1.length + (v10 :: []).length) 24 (some (0, (z2.2.1, (z2.2.2.1, (z2.2.2.2.1, (z2.2.2.2.2.1, (z2.2.2.2.1, ((IntKind.i64.wrap (z2.2.2.2.2.2.2.1 + (v3.1.length : Int))), ((z2.2.2.2.2.2.2.2.2.2.2.2.2.2.1 ++ (v10 :: [])), (z2.2.2.2.2.2.2.2.1, v4.2)))))))))))) (W.both (W.both (W.room (z2.2.2.2.2.2.2.2.2.2.2.2.2.2.1.length + (v10 :: []).length) 24 (some (0, (z2.2.1, (z2.2.2.1, (z2.2.2.2.1, (z2.2.2.2.2.1, (z2.2.2.2.1, ((IntKind.i64.wrap (z2.2.2.2.2.2.2.1 + (v3.1.length : Int))), ((z2.2.2.2.2.2.2.2.2.2.2.2.2.2.1 ++ (v10 :: [])), (z2.2.2.2.2.2.2.2.1, v4.2))))))))))) (W.room (z2.2.2.2.2.2.2.2.2.2.2.2.2.2.1.length + (v10 :: []).length) 24 (some (0, (z2.2.1, (z2.2.2.1, (z2.2.2.2.1, (z2.2.2.2.2.1, (z2.2.2.2.1, ((IntKind.i64.wrap (z2.2.2.2.2.2.2.1 + (v3.1.length : Int))), ((z2.2.2.2.2.2.2.2.2.2.2.2.2.2.1 ++ (v10 :: [])), (z2.2.2.2.2.2.2.2.1, v4.2)))))))))))) (W.room (z2.2.2.2.2.2.2.2.2.2.2.2.2.2.1.length + (v10 :: []).length) 24 (some (0, (z2.2.1, (z2.2.2.1, (z2.2.2.2.1, (z2.2.2.2.2.1, (z2.2.2.2.1, ((IntKind.i64.wrap (z2.2.2.2.2.2.2.1 + (v3.1.length : Int))), ((z2.2.2.2.2.2.2.2.2.2.2.2.2.2.1 ++ (v10 :: [])), (z2.2.2.2.2.2.2.2.1, v4.2)))))))))))))) (W.both (W.both (W.both (W.room (z2.2.2.2.2.2.2.2.2.2.2.2.2.2.1.length + (v10 :: []).length) 24 (W.both (some (0, (z2.2.1, (z2.2.2.1, (z2.2.2.2.1, (z2.2.2.2.2.1, (z2.2.2.2.1, ((IntKind.i64.wrap (z2.2.2.2.2.2.2.1 + (v3.1.length : Int))), ((z2.2.2.2.2.2.2.2.2.2.2.2.2.2.1 ++ (v10 :: [])), (z2.2.2.2.2.2.2.2.1, v4.2)))))))))) (some (0, (z2.2.1, (z2.2.2.1, (z2.2.2.2.1, (z2.2.2.2.2.1, (z2.2.2.2.1, ((IntKind.i64.wrap (z2.2.2.2.2.2.2.1 + (v3.1.length : Int))), ((z2.2.2.2.2.2.2.2.2.2.2.2.2.2.1 ++ (v10 :: [])), (z2.2.2.2.2.2.2.2.1, v4.2)))))))))))) (W.both (W.both (W.room (z2.2.2.2.2.2.2.2.2.2.2.2.2.2.1.length + (v10 :: []).length) 24 (some (0, (z2.2.1, (z2.2.2.1, (z2.2.2.2.1, (z2.2.2.2.2.1, (z2.2.2.2.1, ((IntKind.i64.wrap (z2.2.2.2.2.2.2.1 + (v3.1.length : Int))), ((z2.2.2.2.2.2.2.2.2.2.2.2.2.2.1 ++ (v10 :: [])), (z2.2.2.2.2.2.2.2.1, v4.2))))))))))) (W.room (z2.2.2.2.2.2.2.2.2.2.2.2.2.2.1.length + (v10 :: []).length) 24 (some (0, (z2.2.1, (z2.2.2.1, (z2.2.2.2.1, (z2.2.2.2.2.1, (z2.2.2.2.1, ((IntKind.i64.wrap (z2.2.2.2.2.2.2.1 + (v3.1.length : Int))), ((z2.2.2.2.2.2.2.2.2.2.2.2.2.2.1 ++ (v10 :: [])), (z2.2.2.2.2.2.2.2.1, v4.2)))))))))))) (W.both (W.room (z2.2.2.2.2.2.2.2.2.2.2.2.2.2.1.length + (v10 :: []).length) 24 (some (0, (z2.2.1, (z2.2.2.1, (z2.2.2.2.1, (z2.2.2.2.2.1, (z2.2.2.2.1, ((IntKind.i64.wrap (z2.2.2.2.2.2.2.1 + (v3.1.length : Int))), ((z2.2.2.2.2.2.2.2.2.2.2.2.2.2.1 ++ (v10 :: [])), (z2.2.2.2.2.2.2.2.1, v4.2))))))))))) (W.room (z2.2.2.2.2.2.2.2.2.2.2.2.2.2.1.length + (v10 :: []).length) 24 (some (0, (z2.2.1, (z2.2.2.1, (z2.2.2.2.1, (z2.2.2.2.2.1, (z2.2.2.2.1, ((IntKind.i64.wrap (z2.2.2.2.2.2.2.1 + (v3.1.length : Int))), ((z2.2.2.2.2.2.2.2.2.2.2.2.2.2.1 ++ (v10 :: [])), (z2.2.2.2.2.2.2.2.1, v4.2)))))))))))))) (W.both (W.both (W.both (W.room (z2.2.2.2.2.2.2.2.2.2.2.2.2.2.1.length + (v10 :: []).length) 24 (some (0, (z2.2.1, (z2.2.2.1, (z2.2.2.2.1, (z2.2.2.2.2.1, (z2.2.2.2.1, ((IntKind.i64.wrap (z2.2.2.2.2.2.2.1 + (v3.1.length : Int))), ((z2.2.2.2.2.2.2.2.2.2.2.2.2.2.1 ++ (v10 :: [])), (z2.2.2.2.2.2.2.2.1, v4.2))))))))))) (W.room (z2.2.2.2.2.2.2.2.2.2.2.2.2.2.1.length + (v10 :: []).length) 24 (some (0, (z2.2.1, (z2.2.2.1, (z2.2.2.2.1, (z2.2.2.2.2.1, (z2.2.2.2.1, ((IntKind.i64.wrap (z2.2.2.2.2.2.2.1 + (v3.1.length : Int))), ((z2.2.2.2.2.2.2.2.2.2.2.2.2.2.1 ++ (v10 :: [])), (z2.2.2.2.2.2.2.2.1, v4.2)))))))))))) (W.room (z2.2.2.2.2.2.2.2.2.2.2.2.2.2.1.length + (v10 :: []).length) 24 (some (0, (z2.2.1, (z2.2.2.1, (z2.2.2.2.1, (z2.2.2.2.2.1, (z2.2.2.2.1, ((IntKind.i64.wrap (z2.2.2.2.2.2.2.1 + (v3.1.length : Int))), ((z2.2.2.2.2.2.2.2.2.2.2.2.2.2.1 ++ (v10 :: [])), (z2.2.2.2.2.2.2.2.1, v4.2)))))))))))) (W.both (W.both (W.room (z2.2.2.2.2.2.2.2.2.2.2.2.2.2.1.length + (v10 :: []).length) 24 (some (0, (z2.2.1, (z2.2.2.1, (z2.2.2.2.1, (z2.2.2.2.2.1, (z2.2.2.2.1, ((IntKind.i64.wrap (z2.2.2.2.2.2.2.1 + (v3.1.length : Int))), ((z2.2.2.2.2.2.2.2.2.2.2.2.2.2.1 ++ (v10 :: [])), (z2.2.2.2.2.2.2.2.1, v4.2))))))))))) (W.room (z2.2.2.2.2.2.2.2.2.2.2.2.2.2.1.length + (v10 :: []).length) 24 (some (0, (z2.2.1, (z2.2.2.1, (z2.2.2.2.1, (z2.2.2.2.2.1, (z2.2.2.2.1, ((IntKind.i64.wrap (z2.2.2.2.2.2.2.1 + (v3.1.length : Int))), ((z2.2.2.2.2.2.2.2.2.2.2.2.2.2.1 ++ (v10 :: [])), (z2.2.2.2.2.2.2.2.1, v4.2)))))))))))) (W.room (z2.2.2.2.2.2.2.2.2.2.2.2.2.2.1.length + (v10 :: []).length) 24 (some (0, (z2.2.1, (z2.2.2.1, (z2.2.2.2.1, (z2.2.2.2.2.1, (z2.2.2.2.1, ((IntKind.i64.wrap (z2.2.2.2.2.2.2.1 + (v3.1.length : Int))), ((z2.2.2.2.2.2.2.2.2.2.2.2.2.2.1 ++ (v10 :: [])), (z2.2.2.2.2.2.2.2.1, v4.2)))))))))))))) (W.both (W.both (W.both (W.both (W.room (z2.2.2.2.2.2.2.2.2.2.2.2.2.2.1.length + (v10 :: []).length) 24 (some (0, (z2.2.1, (z2.2.2.1, (z2.2.2.2.1, (z2.2.2.2.2.1, (z2.2.2.2.1, ((IntKind.i64.wrap (z2.2.2.2.2.2.2.1 + (v3.1.length : Int))), ((z2.2.2.2.2.2.2.2.2.2.2.2.2.2.1 ++ (v10 :: [])), (z2.2.2.2.2.2.2.2.1, v4.2))))))))))) (W.room (z2.2.2.2.2.2.2.2.2.2.2.2.2.2.1.length + (v10 :: []).length) 24 (some (0, (z2.2.1, (z2.2.2.1, (z2.2.2.2.1, (z2.2.2.2.2.1, (z2.2.2.2.1, ((IntKind.i64.wrap (z2.2.2.2.2.2.2.1 + (v3.1.length : Int))), ((z2.2.2.2.2.2.2.2.2.2.2.2.2.2.1 ++ (v10 :: [])), (z2.2.2.2.2.2.2.2.1, v4.2)))))))))))) (W.room (z2.2.2.2.2.2.2.2.2.2.2.2.2.2.1.length + (v10 :: []).length) 24 (some (0, (z2.2.1, (z2.2.2.1, (z2.2.2.2.1, (z2.2.2.2.2.1, (z2.2.2.2.1, ((IntKind.i64.wrap (z2.2.2.2.2.2.2.1 + (v3.1.length : Int))), ((z2.2.2.2.2.2.2.2.2.2.2.2.2.2.1 ++ (v10 :: [])), (z2.2.2.2.2.2.2.2.1, v4.2)))))))))))) (W.both (W.both (W.both (W.room (z2.2.2.2.2.2.2.2.2.2.2.2.2.2.1.length + (v10 :: []).length) 24 (some (0, (z2.2.1, (z2.2.2.1, (z2.2.2.2.1, (z2.2.2.2.2.1, (z2.2.2.2.1, ((IntKind.i64.wrap (z2.2.2.2.2.2.2.1 + (v3.1.length : Int))), ((z2.2.2.2.2.2.2.2.2.2.2.2.2.2.1 ++ (v10 :: [])), (z2.2.2.2.2.2.2.2.1, v4.2))))))))))) (W.room (z2.2.2.2.2.2.2.2.2.2.2.2.2.2.1.length + (v10 :: []).length) 24 (some (0, (z2.2.1, (z2.2.2.1, (z2.2.2.2.1, (z2.2.2.2.2.1, (z2.2.2.2.1, ((IntKind.i64.wrap (z2.2.2.2.2.2.2.1 + (v3.1.length : Int))), ((z2.2.2.2.2.2.2.2.2.2.2.2.2.2.1 ++ (v10 :: [])), (z2.2.2.2.2.2.2.2.1, v4.2)))))))))))) (W.room (z2.2.2.2.2.2.2.2.2.2.2.2.2.2.1.length + (v10 :: []).length) 24 (some (0, (z2.2.1, (z2.2.2.1, (z2.2.2.2.1, (z2.2.2.2.2.1, (z2.2.2.2.1, ((IntKind.i64.wrap (z2.2.2.2.2.2.2.1 + (v3.1.length : Int))), ((z2.2.2.2.2.2.2.2.2.2.2.2.2.2.1 ++ (v10 :: [])), (z2.2.2.2.2.2.2.2.1, v4.2)))))))))))) (W.both (W.room (z2.2.2.2.2.2.2.2.2.2.2.2.2.2.1.length + (v10 :: []).length) 24 (some (0, (z2.2.1, (z2.2.2.1, (z2.2.2.2.1, (z2.2.2.2.2.1, (z2.2.2.2.1, ((IntKind.i64.wrap (z2.2.2.2.2.2.2.1 + (v3.1.length : Int))), ((z2.2.2.2.2.2.2.2.2.2.2.2.2.2.1 ++ (v10 :: [])), (z2.2.2.2.2.2.2.2.1, v4.2))))))))))) (W.room (z2.2.2.2.2.2.2.2.2.2.2.2.2.2.1.length + (v10 :: []).length) 24 (some (0, (z2.2.1, (z2.2.2.1, (z2.2.2.2.1, (z2.2.2.2.2.1, (z2.2.2.2.1, ((IntKind.i64.wrap (z2.2.2.2.2.2.2.1 + (v3.1.length : Int))), ((z2.2.2.2.2.2.2.2.2.2.2.2.2.2.1 ++ (v10 :: [])), (z2.2.2.2.2.2.2.2.1, v4.2)))))))))))))) (W.both (W.both (W.both (W.room (z2.2.2.2.2.2.2.2.2.2.2.2.2.2.1.length + (v10 :: []).length) 24 (some (0, (z2.2.1, (z2.2.2.1, (z2.2.2.2.1, (z2.2.2.2.2.1, (z2.2.2.2.1, ((IntKind.i64.wrap (z2.2.2.2.2.2.2.1 + (v3.1.length : Int))), ((z2.2.2.2.2.2.2.2.2.2.2.2.2.2.1 ++ (v10 :: [])), (z2.2.2.2.2.2.2.2.1, v4.2))))))))))) (W.room (z2.2.2.2.2.2.2.2.2.2.2.2.2.2.1.length + (v10 :: []).length) 24 (some (0, (z2.2.1, (z2.2.2.1, (z2.2.2.2.1, (z2.2.2.2.2.1, (z2.2.2.2.1, ((IntKind.i64.wrap (z2.2.2.2.2.2.2.1 + (v3.1.length : Int))), ((z2.2.2.2.2.2.2.2.2.2.2.2.2.2.1 ++ (v10 :: [])), (z2.2.2.2.2.2.2.2.1, v4.2)))))))))))) (W.room (z2.2.2.2.2.2.2.2.2.2.2.2.2.2.1.length + (v10 :: []).length) 24 (some (0, (z2.2.1, (z2.2.2.1, (z2.2.2.2.1, (z2.2.2.2.2.1, (z2.2.2.2.1, ((IntKind.i64.wrap (z2.2.2.2.2.2.2.1 + (v3.1.length : Int))), ((z2.2.2.2.2.2.2.2.2.2.2.2.2.2.1 ++ (v10 :: [])), (z2.2.2.2.2.2.2.2.1, v4.2)))))))))))) (W.both (W.both (W.both (W.room (z2.2.2.2.2.2.2.2.2.2.2.2.2.2.1.length + (v10 :: []).length) 24 (some (0, (z2.2.1, (z2.2.2.1, (z2.2.2.2.1, (z2.2.2.2.2.1, (z2.2.2.2.1, ((IntKind.i64.wrap (z2.2.2.2.2.2.2.1 + (v3.1.length : Int))), ((z2.2.2.2.2.2.2.2.2.2.2.2.2.2.1 ++ (v10 :: [])), (z2.2.2.2.2.2.2.2.1, v4.2))))))))))) (W.room (z2.2.2.2.2.2.2.2.2.2.2.2.2.2.1.length + (v10 :: []).length) 24 (some (0, (z2.2.1, (z2.2.2.1, (z2.2.2.2.1, (z2.2.2.2.2.1, (z2.2.2.2.1, ((IntKind.i64.wrap (z2.2.2.2.2.2.2.1 + (v3.1.length : Int))), ((z2.2.2.2.2.2.2.2.2.2.2.2.2.2.1 ++ (v10 :: [])), (z2.2.2.2.2.2.2.2.1, v4.2)))))))))))) (W.room (z2.2.2.2.2.2.2.2.2.2.2.2.2.2.1.length + (v10 :: []).length) 24 (some (0, (z2.2.1, (z2.2.2.1, (z2.2.2.2.1, (z2.2.2.2.2.1, (z2.2.2.2.1, ((IntKind.i64.wrap (z2.2.2.2.2.2.2.1 + (v3.1.length : Int))), ((z2.2.2.2.2.2.2.2.2.2.2.2.2.2.1 ++ (v10 :: [])), (z2.2.2.2.2.2.2.2.1, v4.2)))))))))))) (W.both (W.room (z2.2.2.2.2.2.2.2.2.2.2.2.2.2.1.length + (v10 :: []).length) 24 (some (0, (z2.2.1, (z2.2.2.1, (z2.2.2.2.1, (z2.2.2.2.2.1, (z2.2.2.2.1, ((IntKind.i64.wrap (z2.2.2.2.2.2.2.1 + (v3.1.length : Int))), ((z2.2.2.2.2.2.2.2.2.2.2.2.2.2.1 ++ (v10 :: [])), (z2.2.2.2.2.2.2.2.1, v4.2))))))))))) (W.room (z2.2.2.2.2.2.2.2.2.2.2.2.2.2.1.length + (v10 :: []).length) 24 (some (0, (z2.2.1, (z2.2.2.1, (z2.2.2.2.1, (z2.2.2.2.2.1, (z2.2.2.2.1, ((IntKind.i64.wrap (z2.2.2.2.2.2.2.1 + (v3.1.length : Int))), ((z2.2.2.2.2.2.2.2.2.2.2.2.2.2.1 ++ (v10 :: [])), (z2.2.2.2.2.2.2.2.1, v4.2))))))))))))))))) (W.both (W.both (W.both (W.call (bytes_CloneW W b) fun v11 => W.both (W.both (W.room (z2.2.2.2.2.2.2.2.2.2.2.2.2.2.1.length + (v11 :: []).length) 24 (some (0, (z2.2.1, (z2.2.2.1, (z2.2.2.2.1, (z2.2.2.2.2.1, (z2.2.2.2.1, ((IntKind.i64.wrap (z2.2.2.2.2.2.2.1 + (v3.1.length : Int))), ((z2.2.2.2.2.2.2.2.2.2.2.2.2.2.1 ++ (v11 :: [])), (z2.2.2.2.2.2.2.2.1, v4.2))))))))))) (W.room (z2.2.2.2.2.2.2.2.2.2.2.2.2.2.1.length + (v11 :: []).length) 24 (some (0, (z2.2.1, (z2.2.2.1, (z2.2.2.2.1, (z2.2.2.2.2.1, (z2.2.2.2.1, ((IntKind.i64.wrap (z2.2.2.2.2.2.2.1 + (v3.1.length : Int))), ((z2.2.2.2.2.2.2.2.2.2.2.2.2.2.1 ++ (v11 :: [])), (z2.2.2.2.2.2.2.2.1, v4.2)))))))))))) (W.room (z2.2.2.2.2.2.2.2.2.2.2.2.2.2.1.length + (v11 :: []).length) 24 (some (0, (z2.2.1, (z2.2.2.1, (z2.2.2.2.1, (z2.2.2.2.2.1, (z2.2.2.2.1, ((IntKind.i64.wrap (z2.2.2.2.2.2.2.1 + (v3.1.length : Int))), ((z2.2.2.2.2.2.2.2.2.2.2.2.2.2.1 ++ (v11 :: [])), (z2.2.2.2.2.2.2.2.1, v4.2)))))))))))) (W.call (bytes_CloneW W b) fun v12 => W.room (z2.2.2.2.2.2.2.2.2.2.2.2.2.2.1.length + (v12 :: []).length) 24 (some (0, (z2.2.1, (z2.2.2.1, (z2.2.2.2.1, (z2.2.2.2.2.1, (z2.2.2.2.1, ((IntKind.i64.wrap (z2.2.2.2.2.2.2.1 + (v3.1.length : Int))), ((z2.2.2.2.2.2.2.2.2.2.2.2.2.2.1 ++ (v12 :: [])), (z2.2.2.2.2.2.2.2.1, v4.2)))))))))))) (W.both (W.call (bytes_CloneW W b) fun v13 => W.both (W.both (W.both (W.room (z2.2.2.2.2.2.2.2.2.2.2.2.2.2.1.length + (v13 :: []).length) 24 (some (0, (z2.2.1, (z2.2.2.1, (z2.2.2.2.1, (z2.2.2.2.2.1, (z2.2.2.2.1, ((IntKind.i64.wrap (z2.2.2.2.2.2.2.1 + (v3.1.length : Int))), ((z2.2.2.2.2.2.2.2.2.2.2.2.2.2.1 ++ (v13 :: [])), (z2.2.2.2.2.2.2.2.1, v4.2))))))))))) (W.room (z2.2.2.2.2.2.2.2.2.2.2.2.2.2.1.length + (v13 :: []).length) 24 (some (0, (z2.2.1, (z2.2.2.1, (z2.2.2.2.1, (z2.2.2.2.2.1, (z2.2.2.2.1, ((IntKind.i64.wrap (z2.2.2.2.2.2.2.1 + (v3.1.length : Int))), ((z2.2.2.2.2.2.2.2.2.2.2.2.2.2.1 ++ (v13 :: [])), (z2.2.2.2.2.2.2.2.1, v4.2)))))))))))) (W.room (z2.2.2.2.2.2.2.2.2.2.2.2.2.2.1.length + (v13 :: []).length) 24 (some (0, (z2.2.1, (z2.2.2.1, (z2.2.2.2.1, (z2.2.2.2.2.1, (z2.2.2.2.1, ((IntKind.i64.wrap (z2.2.2.2.2.2.2.1 + (v3.1.length : Int))), ((z2.2.2.2.2.2.2.2.2.2.2.2.2.2.1 ++ (v13 :: [])), (z2.2.2.2.2.2.2.2.1, v4.2)))))))))))) (W.both (W.both (W.both (W.room (z2.2.2.2.2.2.2.2.2.2.2.2.2.2.1.length + (v13 :: []).length) 24 (some (0, (z2.2.1, (z2.2.2.1, (z2.2.2.2.1, (z2.2.2.2.2.1, (z2.2.2.2.1, ((IntKind.i64.wrap (z2.2.2.2.2.2.2.1 + (v3.1.length : Int))), ((z2.2.2.2.2.2.2.2.2.2.2.2.2.2.1 ++ (v13 :: [])), (z2.2.2.2.2.2.2.2.1, v4.2))))))))))) (W.room (z2.2.2.2.2.2.2.2.2.2.2.2.2.2.1.length + (v13 :: []).length) 24 (some (0, (z2.2.1, (z2.2.2.1, (z2.2.2.2.1, (z2.2.2.2.2.1, (z2.2.2.2.1, ((IntKind.i64.wrap (z2.2.2.2.2.2.2.1 + (v3.1.length : Int))), ((z2.2.2.2.2.2.2.2.2.2.2.2.2.2.1 ++ (v13 :: [])), (z2.2.2.2.2.2.2.2.1, v4.2)))))))))))) (W.room (z2.2.2.2.2.2.2.2.2.2.2.2.2.2.1.length + (v13 :: []).length) 24 (some (0, (z2.2.1, (z2.2.2.1, (z2.2.2.2.1, (z2.2.2.2.2.1, (z2.2.2.2.1, ((IntKind.i64.wrap (z2.2.2.2.2.2.2.1 + (v3.1.length : Int))), ((z2.2.2.2.2.2.2.2.2.2.2.2.2.2.1 ++ (v13 :: [])), (z2.2.2.2.2.2.2.2.1, v4.2)))))))))))) (W.both (W.room (z2.2.2.2.2.2.2.2.2.2.2.2.2.2.1.length + (v13 :: []).length) 24 (some (0, (z2.2.1, (z2.2.2.1, (z2.2.2.2.1, (z2.2.2.2.2.1, (z2.2.2.2.1, ((IntKind.i64.wrap (z2.2.2.2.2.2.2.1 + (v3.1.length : Int))), ((z2.2.2.2.2.2.2.2.2.2.2.2.2.2.1 ++ (v13 :: [])), (z2.2.2.2.2.2.2.2.1, v4.2))))))))))) (W.room (z2.2.2.2.2.2.2.2.2.2.2.2.2.2.1.length + (v13 :: []).length) 24 (some (0, (z2.2.1, (z2.2.2.1, (z2.2.2.2.1, (z2.2.2.2.2.1, (z2.2.2.2.1, ((IntKind.i64.wrap (z2.2.2.2.2.2.2.1 + (v3.1.length : Int))), ((z2.2.2.2.2.2.2.2.2.2.2.2.2.2.1 ++ (v13 :: [])), (z2.2.2.2.2.2.2.2.1, v4.2)))))))))))))) (W.both (W.call (bytes_CloneW W b) fun v14 => W.room (z2.2.2.2.2.2.2.2.2.2.2.2.2.2.1.length + (v14 :: []).length) 24 (some (0, (z2.2.1, (z2.2.2.1, (z2.2.2.2.1, (z2.2.2.2.2.1, (z2.2.2.2.1, ((IntKind.i64.wrap (z2.2.2.2.2.2.2.1 + (v3.1.length : Int))), ((z2.2.2.2.2.2.2.2.2.2.2.2.2.2.1 ++ (v14 :: [])), (z2.2.2.2.2.2.2.2.1, v4.2))))))))))) (W.call (bytes_CloneW W b) fun v15 => W.both (W.room (z2.2.2.2.2.2.2.2.2.2.2.2.2.2.1.length + (v15 :: []).length) 24 (some (0, (z2.2.1, (z2.2.2.1, (z2.2.2.2.1, (z2.2.2.2.2.1, (z2.2.2.2.1, ((IntKind.i64.wrap (z2.2.2.2.2.2.2.1 + (v3.1.length : Int))), ((z2.2.2.2.2.2.2.2.2.2.2.2.2.2.1 ++ (v15 :: [])), (z2.2.2.2.2.2.2.2.1, v4.2))))))))))) (W.room (z2.2.2.2.2.2.2.2.2.2.2.2.2.2.1.length + (v15 :: []).length) 24 (some (0, (z2.2.1, (z2.2.2.1, (z2.2.2.2.1, (z2.2.2.2.2.1, (z2.2.2.2.1, ((IntKind.i64.wrap (z2.2.2.2.2.2.2.1 + (v3.1.length : Int))), ((z2.2.2.2.2.2.2.2.2.2.2.2.2.2.1 ++ (v15 :: [])), (z2.2.2.2.2.2.2.2.1, v4.2))))))))))))))) (W.both (W.both (W.call (bytes_CloneW W b) fun v16 => W.both (W.both (W.room (z2.2.2.2.2.2.2.2.2.2.2.2.2.2.1.length + (v16 :: []).length) 24 (some (0, (z2.2.1, (z2.2.2.1, (z2.2.2.2.1, (z2.2.2.2.2.1, (z2.2.2.2.1, ((IntKind.i64.wrap (z2.2.2.2.2.2.2.1 + (v3.1.length : Int))), ((z2.2.2.2.2.2.2.2.2.2.2.2.2.2.1 ++ (v16 :: [])), (z2.2.2.2.2.2.2.2.1, v4.2))))))))))) (W.room (z2.2.2.2.2.2.2.2.2.2.2.2.2.2.1.length + (v16 :: []).length) 24 (some (0, (z2.2.1, (z2.2.2.1, (z2.2.2.2.1, (z2.2.2.2.2.1, (z2.2.2.2.1, ((IntKind.i64.wrap (z2.2.2.2.2.2.2.1 + (v3.1.length : Int))), ((z2.2.2.2.2.2.2.2.2.2.2.2.2.2.1 ++ (v16 :: [])), (z2.2.2.2.2.2.2.2.1, v4.2)))))))))))) (W.room (z2.2.2.2.2.2.2.2.2.2.2.2.2.2.1.length + (v16 :: []).length) 24 (some (0, (z2.2.1, (z2.2.2.1, (z2.2.2.2.1, (z2.2.2.2.2.1, (z2.2.2.2.1, ((IntKind.i64.wrap (z2.2.2.2.2.2.2.1 + (v3.1.length : Int))), ((z2.2.2.2.2.2.2.2.2.2.2.2.2.2.1 ++ (v16 :: [])), (z2.2.2.2.2.2.2.2.1, v4.2)))))))))))) (W.call (bytes_CloneW W b) fun v17 => W.room (z2.2.2.2.2.2.2.2.2.2.2.2.2.2.1.length + (v17 :: []).length) 24 (some (0, (z2.2.1, (z2.2.2.1, (z2.2.2.2.1, (z2.2.2.2.2.1, (z2.2.2.2.1, ((IntKind.i64.wrap (z2.2.2.2.2.2.2.1 + (v3.1.length : Int))), ((z2.2.2.2.2.2.2.2.2.2.2.2.2.2.1 ++ (v17 :: [])), (z2.2.2.2.2.2.2.2.1, v4.2)))))))))))) (W.both (W.call (bytes_CloneW W b) fun v18 => W.both (W.both (W.both (W.room (z2.2.2.2.2.2.2.2.2.2.2.2.2.2.1.length + (v18 :: []).length) 24 (some (0, (z2.2.1, (z2.2.2.1, (z2.2.2.2.1, (z2.2.2.2.2.1, (z2.2.2.2.1, ((IntKind.i64.wrap (z2.2.2.2.2.2.2.1 + (v3.1.length : Int))), ((z2.2.2.2.2.2.2.2.2.2.2.2.2.2.1 ++ (v18 :: [])), (z2.2.2.2.2.2.2.2.1, v4.2))))))))))) (W.room (z2.2.2.2.2.2.2.2.2.2.2.2.2.2.1.length + (v18 :: []).length) 24 (some (0, (z2.2.1, (z2.2.2.1, (z2.2.2.2.1, (z2.2.2.2.2.1, (z2.2.2.2.1, ((IntKind.i64.wrap (z2.2.2.2.2.2.2.1 + (v3.1.length : Int))), ((z2.2.2.2.2.2.2.2.2.2.2.2.2.2.1 ++ (v18 :: [])), (z2.2.2.2.2.2.2.2.1, v4.2)))))))))))) (W.room (z2.2.2.2.2.2.2.2.2.2.2.2.2.2.1.length + (v18 :: []).length) 24 (some (0, (z2.2.1, (z2.2.2.1, (z2.2.2.2.1, (z2.2.2.2.2.1, (z2.2.2.2.1, ((IntKind.i64.wrap (z2.2.2.2.2.2.2.1 + (v3.1.length : Int))), ((z2.2.2.2.2.2.2.2.2.2.2.2.2.2.1 ++ (v18 :: [])), (z2.2.2.2.2.2.2.2.1, v4.2)))))))))))) (W.both (W.both (W.both (W.room (z2.2.2.2.2.2.2.2.2.2.2.2.2.2.1.length + (v18 :: []).length) 24 (some (0, (z2.2.1, (z2.2.2.1, (z2.2.2.2.1, (z2.2.2.2.2.1, (z2.2.2.2.1, ((IntKind.i64.wrap (z2.2.2.2.2.2.2.1 + (v3.1.length : Int))), ((z2.2.2.2.2.2.2.2.2.2.2.2.2.2.1 ++ (v18 :: [])), (z2.2.2.2.2.2.2.2.1, v4.2))))))))))) (W.room (z2.2.2.2.2.2.2.2.2.2.2.2.2.2.1.length + (v18 :: []).length) 24 (some (0, (z2.2.1, (z2.2.2.1, (z2.2.2.2.1, (z2.2.2.2.2.1, (z2.2.2.2.1, ((IntKind.i64.wrap (z2.2.2.2.2.2.2.1 + (v3.1.length : Int))), ((z2.2.2.2.2.2.2.2.2.2.2.2.2.2.1 ++ (v18 :: [])), (z2.2.2.2.2.2.2.2.1, v4.2)))))))))))) (W.room (z2.2.2.2.2.2.2.2.2.2.2.2.2.2.1.length + (v18 :: []).length) 24 (some (0, (z2.2.1, (z2.2.2.1, (z2.2.2.2.1, (z2.2.2.2.2.1, (z2.2.2.2.1, ((IntKind.i64.wrap (z2.2.2.2.2.2.2.1 + (v3.1.length : Int))), ((z2.2.2.2.2.2.2.2.2.2.2.2.2.2.1 ++ (v18 :: [])), (z2.2.2.2.2.2.2.2.1, v4.2)))))))))))) (W.both (W.room (z2.2.2.2.2.2.2.2.2.2.2.2.2.2.1.length + (v18 :: []).length) 24 (some (0, (z2.2.1, (z2.2.2.1, (z2.2.2.2.1, (z2.2.2.2.2.1, (z2.2.2.2.1, ((IntKind.i64.wrap (z2.2.2.2.2.2.2.1 + (v3.1.length : Int))), ((z2.2.2.2.2.2.2.2.2.2.2.2.2.2.1 ++ (v18 :: [])), (z2.2.2.2.2.2.2.2.1, v4.2))))))))))) (W.room (z2.2.2.2.2.2.2.2.2.2.2.2.2.2.1.length + (v18 :: []).length) 24 (some (0, (z2.2.1, (z2.2.2.1, (z2.2.2.2.1, (z2.2.2.2.2.1, (z2.2.2.2.1, ((IntKind.i64.wrap (z2.2.2.2.2.2.2.1 + (v3.1.length : Int))), ((z2.2.2.2.2.2.2.2.2.2.2.2.2.2.1 ++ (v18 :: [])), (z2.2.2.2.2.2.2.2.1, v4.2)))))))))))))) (W.both (W.call (bytes_CloneW W b) fun v19 => W.room (z2.2.2.2.2.2.2.2.2.2.2.2.2.2.1.length + (v19 :: []).length) 24 (some (0, (z2.2.1, (z2.2.2.1, (z2.2.2.2.1, (z2.2.2.2.2.1, (z2.2.2.2.1, ((IntKind.i64.wrap (z2.2.2.2.2.2.2.1 + (v3.1.length : Int))), ((z2.2.2.2.2.2.2.2.2.2.2.2.2.2.1 ++ (v19 :: [])), (z2.2.2.2.2.2.2.2.1, v4.2))))))))))) (W.call (bytes_CloneW W b) fun v20 => W.both (W.room (z2.2.2.2.2.2.2.2.2.2.2.2.2.2.1.length + (v20 :: []).length) 24 (some (0, (z2.2.1, (z2.2.2.1, (z2.2.2.2.1, (z2.2.2.2.2.1, (z2.2.2.2.1, ((IntKind.i64.wrap (z2.2.2.2.2.2.2.1 + (v3.1.length : Int))), ((z2.2.2.2.2.2.2.2.2.2.2.2.2.2.1 ++ (v20 :: [])), (z2.2.2.2.2.2.2.2.1, v4.2))))))))))) (W.room (z2.2.2.2.2.2.2.2.2.2.2.2.2.2.1.length + (v20 :: []).length) 24 (some (0, (z2.2.1, (z2.2.2.1, (z2.2.2.2.1, (z2.2.2.2.2.1, (z2.2.2.2.1, ((IntKind.i64.wrap (z2.2.2.2.2.2.2.1 + (v3.1.length : Int))), ((z2.2.2.2.2.2.2.2.2.2.2.2.2.2.1 ++ (v20 :: [])), (z2.2.2.2.2.2.2.2.1, v4.2))))))))))))))))))))))
   fun k21 => 
   W.cnd v1.2.2.2.2.2.2.2.2.1 ((k21 (true, (v1.2.1, (v1.2.2.1, (v1.2.2.2.1, (v1.2.2.2.2.1, (v1.2.2.2.2.2.1, (v1.2.2.2.2.2.2.1, (v1.2.2.2.2.2.2.2.2.1, (v1.2.2.2.2.2.2.2.2.2.1, (v1.2.2.2.2.2.2.2.2.2.2.1, (v1.2.2.2.2.2.2.2.2.2.2.2.1, (v1.2.2.2.2.2.2.2.2.2.2.2.2.1, (v1.2.2.2.2.2.2.2.2.2.2.2.2.2.2.1, (v1.2.2.2.2.2.2.2.1, (v1.2.2.2.2.2.2.2.2.2.2.2.2.2.1, ())))))))))))))))))
    (W.call (drive_Drive_LiveW W v1.2.2.2.2.2.2.2.2.2.1 v1.2.2.2.2.2.2.2.2.2.2.1 v1.2.2.2.2.2.2.2.2.2.2.2.1 v1.2.2.2.2.2.2.2.2.2.2.2.2.1 v1.2.2.2.2.2.2.2.2.2.2.2.2.2.1 v1.2.2.2.2.2.2.2.2.2.2.2.2.2.2.1) fun v22 => (k21 ((!v22.1), (v1.2.1, (v1.2.2.1, (v1.2.2.2.1, (v1.2.2.2.2.1, (v1.2.2.2.2.2.1, (v1.2.2.2.2.2.2.1, (v1.2.2.2.2.2.2.2.2.1, (v22.2.1, (v22.2.2.1, (v22.2.2.2.1, (v22.2.2.2.2.1, (v22.2.2.2.2.2.2.1, (v1.2.2.2.2.2.2.2.1, (v22.2.2.2.2.2.1, ()))))))))))))))))))
def scroll_Scroll_Append_k := kls kp 150 [⟨275,[.ptr 1,.i,.i,.i,.i,.i,.i,.row 22 (.slc (.int .u8)),.b]⟩,⟨45,[.b,.b,.i,.v (.slc (.int .i64)),.row 328 tDriveCell,.i]⟩] [.ptr 0,.v (.slc (.int .u8))] [⟨275,[.ptr 1,.i,.i,.i,.i,.i,.i,.row 22 (.slc (.int .u8)),.b]⟩,⟨45,[.b,.b,.i,.v (.slc (.int .i64)),.row 328 tDriveCell,.i]⟩] .i (fun W x => scroll_Scroll_AppendW W x.1 x.2.1 x.2.2.1 x.2.2.2.1 x.2.2.2.2.1 x.2.2.2.2.2.1 x.2.2.2.2.2.2.1 x.2.2.2.2.2.2.2.1 x.2.2.2.2.2.2.2.2.1 x.2.2.2.2.2.2.2.2.2.1 x.2.2.2.2.2.2.2.2.2.2.1 x.2.2.2.2.2.2.2.2.2.2.2.1 x.2.2.2.2.2.2.2.2.2.2.2.2.1 x.2.2.2.2.2.2.2.2.2.2.2.2.2.1 x.2.2.2.2.2.2.2.2.2.2.2.2.2.2.1) [scroll_Scroll_ok_k,drive_Drive_Live_k,frame_Cut_k,drive_Drive_Write_k,bytes_Clone_k] [(5,[],(oX 21 [15])),(8,[],(oI 14)),(10,[1],(oX 12 [10])),(14,[0],(.rd 0 (.rd 1 (.rd 2 (.rd 3 (.rd 4 (.rd 5 (.rd 7 (.rd 11 (.rd 12 (.rd 13 (.rd 15 (.rd 16 (.rd 18 (.rd 19 (.rd 20 (.four 6 8 14 21 (.three 8 14 21 (.three 9 14 21 (.three 10 14 21 (.two 14 21 (oN [35,42,45,47,48,51,53,54,57,59,60]) (oN [28,35,45,47,48,51,53,54,57,59,60])) (.rd 17 (.two 10 21 (oN [42,45,47,48,51,53,54,57,59,60]) (oN [20,45,47,48,51,53,54,57,59,60]))) (.two 10 14 (oN [28,35,45,47,48,51,53,54,57,59,60]) (oN [35,20,45,47,48,51,53,54,57,59,60]))) (.rd 17 (.two 9 21 (.two 10 21 (oN [42,45,47,48,51,53,54,57,59,60]) (oN [20,45,47,48,51,53,54,57,59,60])) (oN [18,20,45,47,48,51,53,54,57,59,60]))) (.two 9 14 (.two 10 14 (oN [28,35,45,47,48,51,53,54,57,59,60]) (oN [35,20,45,47,48,51,53,54,57,59,60])) (oN [35,18,20,45,47,48,51,53,54,57,59,60]))) (.rd 17 (.two 8 21 (.two 9 21 (.two 10 21 (oN [42,45,47,48,51,53,54,57,59,60]) (oN [20,45,47,48,51,53,54,57,59,60])) (oN [18,20,45,47,48,51,53,54,57,59,60])) (oN [16,18,20,45,47,48,51,53,54,57,59,60]))) (.two 8 14 (.two 9 14 (.two 10 14 (oN [28,35,45,47,48,51,53,54,57,59,60]) (oN [35,20,45,47,48,51,53,54,57,59,60])) (oN [35,18,20,45,47,48,51,53,54,57,59,60])) (oN [35,16,18,20,45,47,48,51,53,54,57,59,60]))) (.four 6 9 14 21 (.three 9 14 21 (.three 10 14 21 (.two 14 21 (oN [35,42,45,47,48,51,53,54,57,59,60]) (oN [28,35,45,47,48,51,53,54,57,59,60])) (.rd 17 (.two 10 21 (oN [42,45,47,48,51,53,54,57,59,60]) (oN [20,45,47,48,51,53,54,57,59,60]))) (.two 10 14 (oN [28,35,45,47,48,51,53,54,57,59,60]) (oN [35,20,45,47,48,51,53,54,57,59,60]))) (.rd 17 (.two 9 21 (.two 10 21 (oN [42,45,47,48,51,53,54,57,59,60]) (oN [20,45,47,48,51,53,54,57,59,60])) (oN [18,20,45,47,48,51,53,54,57,59,60]))) (.two 9 14 (.two 10 14 (oN [28,35,45,47,48,51,53,54,57,59,60]) (oN [35,20,45,47,48,51,53,54,57,59,60])) (oN [35,18,20,45,47,48,51,53,54,57,59,60]))) (.three 6 14 21 (.three 10 14 21 (.two 14 21 (oN [35,42,45,47,48,51,53,54,57,59,60]) (oN [28,35,45,47,48,51,53,54,57,59,60])) (.rd 17 (.two 10 21 (oN [42,45,47,48,51,53,54,57,59,60]) (oN [20,45,47,48,51,53,54,57,59,60]))) (.two 10 14 (oN [28,35,45,47,48,51,53,54,57,59,60]) (oN [35,20,45,47,48,51,53,54,57,59,60]))) (.rd 17 (.two 6 21 (.two 10 21 (oN [42,45,47,48,51,53,54,57,59,60]) (oN [20,45,47,48,51,53,54,57,59,60])) (oN [12,20,45,47,48,51,53,54,57,59,60]))) (.two 6 14 (.two 10 14 (oN [28,35,45,47,48,51,53,54,57,59,60]) (oN [35,20,45,47,48,51,53,54,57,59,60])) (oN [35,12,20,45,47,48,51,53,54,57,59,60]))) (.rd 17 (.three 6 9 21 (.two 9 21 (.two 10 21 (oN [42,45,47,48,51,53,54,57,59,60]) (oN [20,45,47,48,51,53,54,57,59,60])) (oN [18,20,45,47,48,51,53,54,57,59,60])) (.two 6 21 (.two 10 21 (oN [42,45,47,48,51,53,54,57,59,60]) (oN [20,45,47,48,51,53,54,57,59,60])) (oN [12,20,45,47,48,51,53,54,57,59,60])) (.two 6 9 (oN [18,20,45,47,48,51,53,54,57,59,60]) (oN [12,20,45,47,48,51,53,54,57,59,60])))) (.three 6 9 14 (.two 9 14 (.two 10 14 (oN [28,35,45,47,48,51,53,54,57,59,60]) (oN [35,20,45,47,48,51,53,54,57,59,60])) (oN [35,18,20,45,47,48,51,53,54,57,59,60])) (.two 6 14 (.two 10 14 (oN [28,35,45,47,48,51,53,54,57,59,60]) (oN [35,20,45,47,48,51,53,54,57,59,60])) (oN [35,12,20,45,47,48,51,53,54,57,59,60])) (.rd 17 (.two 6 9 (oN [18,20,45,47,48,51,53,54,57,59,60]) (oN [12,20,45,47,48,51,53,54,57,59,60]))))) (.rd 17 (.three 6 8 21 (.two 8 21 (.two 9 21 (.two 10 21 (oN [42,45,47,48,51,53,54,57,59,60]) (oN [20,45,47,48,51,53,54,57,59,60])) (oN [18,20,45,47,48,51,53,54,57,59,60])) (oN [16,18,20,45,47,48,51,53,54,57,59,60])) (.three 6 9 21 (.two 9 21 (.two 10 21 (oN [42,45,47,48,51,53,54,57,59,60]) (oN [20,45,47,48,51,53,54,57,59,60])) (oN [18,20,45,47,48,51,53,54,57,59,60])) (.two 6 21 (.two 10 21 (oN [42,45,47,48,51,53,54,57,59,60]) (oN [20,45,47,48,51,53,54,57,59,60])) (oN [12,20,45,47,48,51,53,54,57,59,60])) (.two 6 9 (oN [18,20,45,47,48,51,53,54,57,59,60]) (oN [12,20,45,47,48,51,53,54,57,59,60]))) (.two 6 8 (oN [16,18,20,45,47,48,51,53,54,57,59,60]) (.two 6 9 (oN [18,20,45,47,48,51,53,54,57,59,60]) (oN [12,20,45,47,48,51,53,54,57,59,60]))))) (.three 6 8 14 (.two 8 14 (.two 9 14 (.two 10 14 (oN [28,35,45,47,48,51,53,54,57,59,60]) (oN [35,20,45,47,48,51,53,54,57,59,60])) (oN [35,18,20,45,47,48,51,53,54,57,59,60])) (oN [35,16,18,20,45,47,48,51,53,54,57,59,60])) (.three 6 9 14 (.two 9 14 (.two 10 14 (oN [28,35,45,47,48,51,53,54,57,59,60]) (oN [35,20,45,47,48,51,53,54,57,59,60])) (oN [35,18,20,45,47,48,51,53,54,57,59,60])) (.two 6 14 (.two 10 14 (oN [28,35,45,47,48,51,53,54,57,59,60]) (oN [35,20,45,47,48,51,53,54,57,59,60])) (oN [35,12,20,45,47,48,51,53,54,57,59,60])) (.rd 17 (.two 6 9 (oN [18,20,45,47,48,51,53,54,57,59,60]) (oN [12,20,45,47,48,51,53,54,57,59,60])))) (.rd 17 (.two 6 8 (oN [16,18,20,45,47,48,51,53,54,57,59,60]) (.two 6 9 (oN [18,20,45,47,48,51,53,54,57,59,60]) (oN [12,20,45,47,48,51,53,54,57,59,60]))))))))))))))))))))))] [(500012,⟨[(12,.b)],[(0,[.own 1 0,.i,.i,.i,.i,.i,.i,.row 0,.b]),(1,[.b,.b,.i,.t (.slc (.int .i64)),.row 1,.i])],[.own 22 (.slc (.int .u8)),.own 328 tDriveCell]⟩)] [] Tryz.func150 rfl (h:=fun W x=>by kernel_rfl)
def vault_Vault_AppendW (W : Wd) (vp2 : Int) (vp3 : Int) (vp4 : Int) (vp5 : List Int) (vp6 : Bool) (vp0_1 : Int) (vp0_2 : Int) (vp0_3 : Int) (vp0_4 : Int) (vp0_5 : Int) (vp0_6 : Int) (vp0_7 : List (List Int)) (vp0_8 : Bool) (vp1_0 : Bool) (vp1_1 : Bool) (vp1_2 : Int) (vp1_3 : List Int) (vp1_4 : List DriveCell') (vp1_5 : Int) (b : List Int) : Option (Int × (Int × Int × Int × (List Int) × Bool × Int × Int × Int × Int × Int × Int × (List (List Int)) × Bool × Bool × Bool × Int × (List Int) × (List DriveCell') × Int × Unit)) := W.call (vault_Vault_readyW W vp2 vp3 vp4 vp5 vp6 vp0_1 vp0_2 vp0_3 vp0_4 vp0_5 vp0_6 vp0_7 vp0_8 vp1_0 vp1_1 vp1_2 vp1_3 vp1_4 vp1_5) fun v1 => 
 W.cnd (v1.1 != 0) (some v1)
  (W.call (scroll_Scroll_AppendW W v1.2.2.2.2.2.2.1 v1.2.2.2.2.2.2.2.1 v1.2.2.2.2.2.2.2.2.1 v1.2.2.2.2.2.2.2.2.2.1 v1.2.2.2.2.2.2.2.2.2.2.1 v1.2.2.2.2.2.2.2.2.2.2.2.1 v1.2.2.2.2.2.2.2.2.2.2.2.2.1 v1.2.2.2.2.2.2.2.2.2.2.2.2.2.1 v1.2.2.2.2.2.2.2.2.2.2.2.2.2.2.1 v1.2.2.2.2.2.2.2.2.2.2.2.2.2.2.2.1 v1.2.2.2.2.2.2.2.2.2.2.2.2.2.2.2.2.1 v1.2.2.2.2.2.2.2.2.2.2.2.2.2.2.2.2.2.1 v1.2.2.2.2.2.2.2.2.2.2.2.2.2.2.2.2.2.2.1 v1.2.2.2.2.2.2.2.2.2.2.2.2.2.2.2.2.2.2.2.1 b) fun v2 => W.call (vault_Vault_noteW W v1.2.1 v1.2.2.1 v1.2.2.2.1 v1.2.2.2.2.1 v1.2.2.2.2.2.1 v2.2.1 v2.2.2.1 v2.2.2.2.1 v2.2.2.2.2.1 v2.2.2.2.2.2.1 v2.2.2.2.2.2.2.1 v2.2.2.2.2.2.2.2.1 v2.2.2.2.2.2.2.2.2.1 v2.2.2.2.2.2.2.2.2.2.1 v2.2.2.2.2.2.2.2.2.2.2.1 v2.2.2.2.2.2.2.2.2.2.2.2.1 v2.2.2.2.2.2.2.2.2.2.2.2.2.1 v2.2.2.2.2.2.2.2.2.2.2.2.2.2.1 v2.2.2.2.2.2.2.2.2.2.2.2.2.2.2.1 v2.1) fun v3 => some v3)
def vault_Vault_Append_k := kls kp 72 [⟨152,[.ptr 1,.ptr 2,.i,.i,.i,.v (.slc (.int .u8)),.b]⟩,⟨275,[.ptr 2,.i,.i,.i,.i,.i,.i,.row 22 (.slc (.int .u8)),.b]⟩,⟨45,[.b,.b,.i,.v (.slc (.int .i64)),.row 328 tDriveCell,.i]⟩] [.ptr 0,.v (.slc (.int .u8))] [⟨152,[.ptr 1,.ptr 2,.i,.i,.i,.v (.slc (.int .u8)),.b]⟩,⟨275,[.ptr 2,.i,.i,.i,.i,.i,.i,.row 22 (.slc (.int .u8)),.b]⟩,⟨45,[.b,.b,.i,.v (.slc (.int .i64)),.row 328 tDriveCell,.i]⟩] .i (fun W x => vault_Vault_AppendW W x.1 x.2.1 x.2.2.1 x.2.2.2.1 x.2.2.2.2.1 x.2.2.2.2.2.1 x.2.2.2.2.2.2.1 x.2.2.2.2.2.2.2.1 x.2.2.2.2.2.2.2.2.1 x.2.2.2.2.2.2.2.2.2.1 x.2.2.2.2.2.2.2.2.2.2.1 x.2.2.2.2.2.2.2.2.2.2.2.1 x.2.2.2.2.2.2.2.2.2.2.2.2.1 x.2.2.2.2.2.2.2.2.2.2.2.2.2.1 x.2.2.2.2.2.2.2.2.2.2.2.2.2.2.1 x.2.2.2.2.2.2.2.2.2.2.2.2.2.2.2.1 x.2.2.2.2.2.2.2.2.2.2.2.2.2.2.2.2.1 x.2.2.2.2.2.2.2.2.2.2.2.2.2.2.2.2.2.1 x.2.2.2.2.2.2.2.2.2.2.2.2.2.2.2.2.2.2.1 x.2.2.2.2.2.2.2.2.2.2.2.2.2.2.2.2.2.2.2.1) [vault_Vault_ready_k,scroll_Scroll_Append_k,vault_Vault_note_k] [] [] [] Tryz.func72 rfl (h:=fun W x=>by kernel_rfl)
def engine_Engine_journalW (W : Wd) (g2 : Int) (g3 : List AMember') (g4 : List AInst') (g5 : List AAsset') (g6 : List AAccount') (g7 : List AChoice') (g8 : List AGroup') (g9 : List AGive') (g10 : List APos') (g11 : List APos') (g12 : List AFlow') (g13 : List AHold') (g14 : Bool) (g0_2 : Int) (g0_3 : Int) (g0_4 : Int) (g0_5 : List Int) (g0_6 : Bool) (g1_0 : Bool) (g1_1 : Bool) (g1_2 : Int) (g1_3 : List Int) (g1_4 : List DriveCell') (g1_5 : Int) (g0_0_1 : Int) (g0_0_2 : Int) (g0_0_3 : Int) (g0_0_4 : Int) (g0_0_5 : Int) (g0_0_6 : Int) (g0_0_7 : List (List Int)) (g0_0_8 : Bool) (b : List Int) : Option (Int × (Int × (List AMember') × (List AInst') × (List AAsset') × (List AAccount') × (List AChoice') × (List AGroup') × (List AGive') × (List APos') × (List APos') × (List AFlow') × (List AHold') × Bool × Int × Int × Int × (List Int) × Bool × Bool × Bool × Int × (List Int) × (List DriveCell') × Int × Int × Int × Int × Int × Int × Int × (List (List Int)) × Bool × Unit)) := W.call (vault_Vault_AppendW W g0_2 g0_3 g0_4 g0_5 g0_6 g0_0_1 g0_0_2 g0_0_3 g0_0_4 g0_0_5 g0_0_6 g0_0_7 g0_0_8 g1_0 g1_1 g1_2 g1_3 g1_4 g1_5 b) fun v1 => 
 W.cnd (v1.1 == 10) (none)
  (W.call (engine_Engine_noteW W g2 g3 g4 g5 g6 g7 g8 g9 g10 g11 g12 g13 g14 v1.2.1 v1.2.2.1 v1.2.2.2.1 v1.2.2.2.2.1 v1.2.2.2.2.2.1 v1.2.2.2.2.2.2.2.2.2.2.2.2.2.2.1 v1.2.2.2.2.2.2.2.2.2.2.2.2.2.2.2.1 v1.2.2.2.2.2.2.2.2.2.2.2.2.2.2.2.2.1 v1.2.2.2.2.2.2.2.2.2.2.2.2.2.2.2.2.2.1 v1.2.2.2.2.2.2.2.2.2.2.2.2.2.2.2.2.2.2.1 v1.2.2.2.2.2.2.2.2.2.2.2.2.2.2.2.2.2.2.2.1 v1.2.2.2.2.2.2.1 v1.2.2.2.2.2.2.2.1 v1.2.2.2.2.2.2.2.2.1 v1.2.2.2.2.2.2.2.2.2.1 v1.2.2.2.2.2.2.2.2.2.2.1 v1.2.2.2.2.2.2.2.2.2.2.2.1 v1.2.2.2.2.2.2.2.2.2.2.2.2.1 v1.2.2.2.2.2.2.2.2.2.2.2.2.2.1 v1.1) fun v2 => some v2)
def engine_Engine_journal_k := kls kp 26 [⟨39,[.ptr 1,.ptr 2,.i,.v (.slc tAMember),.v (.slc tAInst),.v (.slc tAAsset),.v (.slc tAAccount),.v (.slc tAChoice),.v (.slc tAGroup),.v (.slc tAGive),.v (.slc tAPos),.v (.slc tAPos),.v (.slc tAFlow),.v (.slc tAHold),.b]⟩,⟨152,[.ptr 3,.ptr 2,.i,.i,.i,.v (.slc (.int .u8)),.b]⟩,⟨45,[.b,.b,.i,.v (.slc (.int .i64)),.row 328 tDriveCell,.i]⟩,⟨275,[.ptr 2,.i,.i,.i,.i,.i,.i,.row 22 (.slc (.int .u8)),.b]⟩] [.ptr 0,.v (.slc (.int .u8))] [⟨39,[.ptr 1,.ptr 2,.i,.v (.slc tAMember),.v (.slc tAInst),.v (.slc tAAsset),.v (.slc tAAccount),.v (.slc tAChoice),.v (.slc tAGroup),.v (.slc tAGive),.v (.slc tAPos),.v (.slc tAPos),.v (.slc tAFlow),.v (.slc tAHold),.b]⟩,⟨152,[.ptr 3,.ptr 2,.i,.i,.i,.v (.slc (.int .u8)),.b]⟩,⟨45,[.b,.b,.i,.v (.slc (.int .i64)),.row 328 tDriveCell,.i]⟩,⟨275,[.ptr 2,.i,.i,.i,.i,.i,.i,.row 22 (.slc (.int .u8)),.b]⟩] .i (fun W x => engine_Engine_journalW W x.1 x.2.1 x.2.2.1 x.2.2.2.1 x.2.2.2.2.1 x.2.2.2.2.2.1 x.2.2.2.2.2.2.1 x.2.2.2.2.2.2.2.1 x.2.2.2.2.2.2.2.2.1 x.2.2.2.2.2.2.2.2.2.1 x.2.2.2.2.2.2.2.2.2.2.1 x.2.2.2.2.2.2.2.2.2.2.2.1 x.2.2.2.2.2.2.2.2.2.2.2.2.1 x.2.2.2.2.2.2.2.2.2.2.2.2.2.1 x.2.2.2.2.2.2.2.2.2.2.2.2.2.2.1 x.2.2.2.2.2.2.2.2.2.2.2.2.2.2.2.1 x.2.2.2.2.2.2.2.2.2.2.2.2.2.2.2.2.1 x.2.2.2.2.2.2.2.2.2.2.2.2.2.2.2.2.2.1 x.2.2.2.2.2.2.2.2.2.2.2.2.2.2.2.2.2.2.1 x.2.2.2.2.2.2.2.2.2.2.2.2.2.2.2.2.2.2.2.1 x.2.2.2.2.2.2.2.2.2.2.2.2.2.2.2.2.2.2.2.2.1 x.2.2.2.2.2.2.2.2.2.2.2.2.2.2.2.2.2.2.2.2.2.1 x.2.2.2.2.2.2.2.2.2.2.2.2.2.2.2.2.2.2.2.2.2.2.1 x.2.2.2.2.2.2.2.2.2.2.2.2.2.2.2.2.2.2.2.2.2.2.2.1 x.2.2.2.2.2.2.2.2.2.2.2.2.2.2.2.2.2.2.2.2.2.2.2.2.1 x.2.2.2.2.2.2.2.2.2.2.2.2.2.2.2.2.2.2.2.2.2.2.2.2.2.1 x.2.2.2.2.2.2.2.2.2.2.2.2.2.2.2.2.2.2.2.2.2.2.2.2.2.2.1 x.2.2.2.2.2.2.2.2.2.2.2.2.2.2.2.2.2.2.2.2.2.2.2.2.2.2.2.1 x.2.2.2.2.2.2.2.2.2.2.2.2.2.2.2.2.2.2.2.2.2.2.2.2.2.2.2.2.1 x.2.2.2.2.2.2.2.2.2.2.2.2.2.2.2.2.2.2.2.2.2.2.2.2.2.2.2.2.2.1 x.2.2.2.2.2.2.2.2.2.2.2.2.2.2.2.2.2.2.2.2.2.2.2.2.2.2.2.2.2.2.1 x.2.2.2.2.2.2.2.2.2.2.2.2.2.2.2.2.2.2.2.2.2.2.2.2.2.2.2.2.2.2.2.1 x.2.2.2.2.2.2.2.2.2.2.2.2.2.2.2.2.2.2.2.2.2.2.2.2.2.2.2.2.2.2.2.2.1) [vault_Vault_Append_k,engine_Engine_note_k] [] [] [] Tryz.func26 rfl (h:=fun W x=>by kernel_rfl)
def ref38_DecodeW (W : Wd) (b : List Int) : Option ((List AEntry') × Int × Unit) := W.call (ref04_Reader_GetW W b 0 0 400) fun v1 => 
 W.join (fun (z2 : List (Int) × Int × List (Int × List (Int) × Int × List (Int) × Unit) × Unit) => W.call (ref04_Reader_EndW W z2.1 z2.2.1) fun v3 => 
  W.cnd (v3.1 != 0) (some ([], (3, ())))
   (some (z2.2.2.1, (0, ()))))
  fun k4 => 
  W.loop (fun (z5 : Int × List (Int) × Int × List (Int × List (Int) × Int × List (Int) × Unit) × Unit) again6 => 
   W.cnd (decide (z5.1 < v1.1)) (
    W.cnd (z5.2.2.1 == 0) (W.call (ref04_Reader_GetW W z5.2.1 z5.2.2.1 1 4) fun v7 => 
     W.join (fun (z8 : List (Int) × Int × Int × Int × List (Int × List (Int) × Int × List (Int) × Unit) × List (Int) × Unit) => 
      W.join (fun (z9 : List (Int) × Int × Int × Int × List (Int × List (Int) × Int × List (Int) × Unit) × List (Int) × List (Int) × Unit) => W.room (z9.2.2.2.2.1.length + ((z9.2.2.1, (z9.2.2.2.2.2.1, (z9.2.2.2.1, z9.2.2.2.2.2.2))) :: []).length) 64 ((again6 ((IntKind.i64.wrap (z5.1 + 1)), (z9.1, (z9.2.1, ((z9.2.2.2.2.1 ++ ((z9.2.2.1, (z9.2.2.2.2.2.1, (z9.2.2.2.1, z9.2.2.2.2.2.2))) :: [])), ())))))))
       fun k10 => 
       W.cnd (z8.2.2.1 == 2) (W.call (ref04_Reader_GetW W z8.1 z8.2.1 0 1048576) fun v11 => W.call (ref04_Reader_GetW W v11.2.1 v11.2.2.1 0 255) fun v12 => 
        W.loop (fun (z13 : Int × List (Int) × Int × Int × Int × List (Int × List (Int) × Int × List (Int) × Unit) × List (Int) × List (Int) × Unit) again14 => 
         W.cnd (decide (z13.1 < v12.1)) (
          W.join (fun (z15 : List (Int) × Int × Int × Int × List (Int × List (Int) × Int × List (Int) × Unit) × List (Int) × List (Int) × Unit) => (again14 ((IntKind.i64.wrap (z13.1 + 1)), z15)))
           fun k16 => W.both (W.call (ref04_Reader_GetW W z13.2.1 z13.2.2.1 0 254) fun v17 => W.room (z13.2.2.2.2.2.2.2.1.length + (v17.1 :: []).length) 8 ((k16 (v17.2.1, (v17.2.2.1, (z13.2.2.2.1, (z13.2.2.2.2.1, (z13.2.2.2.2.2.1, (z13.2.2.2.2.2.2.1, ((z13.2.2.2.2.2.2.2.1 ++ (v17.1 :: [])), ())))))))))) (W.call (ref04_Reader_GetW W z13.2.1 z13.2.2.1 0 254) fun v18 => W.both (W.room (z13.2.2.2.2.2.2.2.1.length + (v18.1 :: []).length) 8 ((k16 (v18.2.1, (v18.2.2.1, (z13.2.2.2.1, (z13.2.2.2.2.1, (z13.2.2.2.2.2.1, (z13.2.2.2.2.2.2.1, ((z13.2.2.2.2.2.2.2.1 ++ (v18.1 :: [])), ())))))))))) (W.room (z13.2.2.2.2.2.2.2.1.length + (v18.1 :: []).length) 8 ((k16 (v18.2.1, (v18.2.2.1, (z13.2.2.2.1, (z13.2.2.2.2.1, (z13.2.2.2.2.2.1, (z13.2.2.2.2.2.2.1, ((z13.2.2.2.2.2.2.2.1 ++ (v18.1 :: [])), ()))))))))))))
          ((k10 z13.2)))
         (0, (v12.2.1, (v12.2.2.1, (z8.2.2.1, (v11.1, (z8.2.2.2.2.1, (z8.2.2.2.2.2.1, ([], ())))))))))
        ((k10 (z8.1, (z8.2.1, (z8.2.2.1, (z8.2.2.2.1, (z8.2.2.2.2.1, (z8.2.2.2.2.2.1, ([], ()))))))))))
      fun k19 => 
      W.cnd (v7.1 == 1) (W.both (W.call (ref04_Reader_TextW W v7.2.1 v7.2.2.1 400) fun v20 => W.room v20.1.size 1 ((k19 (v20.2.1, (v20.2.2.1, (v7.1, (0, (z5.2.2.2.1, ((Go.Vc.bytesI v20.1), ()))))))))) (W.call (ref04_Reader_TextW W v7.2.1 v7.2.2.1 400) fun v21 => W.room v21.1.size 1 ((k19 (v21.2.1, (v21.2.2.1, (v7.1, (0, (z5.2.2.2.1, ((Go.Vc.bytesI v21.1), ()))))))))))
       ((k19 (v7.2.1, (v7.2.2.1, (v7.1, (0, (z5.2.2.2.1, ([], ())))))))))
     ((k4 z5.2)))
    ((k4 z5.2)))
   (0, (v1.2.1, (v1.2.2.1, ([], ()))))
def ref38_Decode_k := kes kp 18 (.p1 (.slc (.int .u8))) (.p2 (.own 114 tAEntry) .i) (fun W x => ref38_DecodeW W x.1) [ref04_Reader_Get_k,ref04_Reader_Text_k,ref04_Reader_End_k] [(9,[0,1],(.rd 0 (.rd 2 (.two 1 3 (oN [6,8,11,12]) (oN [2,8,11,12]))))),(16,[0,1],(.rd 0 (.rd 2 (.two 1 3 (oN [6,8,10,13,14]) (.two 1 4 (oN [8,10,13,14]) (oN [2,10,13,14]))))))] [(10,⟨[(5,.row 4)],[(0,[.t (.slc (.int .u8)),.i]),(1,[.i,.row 5,.i,.nil])],[.dead,.dead,.dead,.dead,.own 114 tAEntry,.own 5 (.int .u8)]⟩),(15,⟨[(5,.row 4)],[(0,[.t (.slc (.int .u8)),.i]),(1,[.i,.row 5,.i,.row 7])],[.dead,.dead,.dead,.dead,.own 114 tAEntry,.own 5 (.int .u8),.dead,.own 3 (.int .i64)]⟩),(17,⟨[(5,.row 4)],[(0,[.t (.slc (.int .u8)),.i]),(1,[.i,.row 5,.i,.row 7])],[.dead,.dead,.dead,.dead,.own 114 tAEntry,.own 5 (.int .u8),.dead,.own 3 (.int .i64)]⟩),(18,⟨[(5,.row 4)],[(0,[.t (.slc (.int .u8)),.i])],[.dead,.dead,.dead,.dead,.own 114 tAEntry]⟩)] [(5,⟨[(5,.row 4),(7,.i)],[(0,[.t (.slc (.int .u8)),.i])],[.dead,.dead,.dead,.dead,.own 114 tAEntry]⟩),(14,⟨[(5,.row 4),(10,.i)],[(0,[.t (.slc (.int .u8)),.i]),(1,[.i,.row 5,.i,.row 7])],[.dead,.dead,.dead,.dead,.own 114 tAEntry,.own 5 (.int .u8),.dead,.own 3 (.int .i64)]⟩)] Tryz.func18 rfl (h:=fun W x=>by kernel_rfl)
end Go.Proofs.YtclleaffonkegaaGreat



namespace Go.Proofs.YtclleaffonkegaaGreat
open Go Go.Vc Go.RowKit
set_option synthInstance.maxSize 100000
set_option synthInstance.maxHeartbeats 0
theorem r_get {lo hi : Int} {s : Rs} (h : okR s) : ref04_Reader_GetW stdW s.1 s.2 lo hi = some ((rd lo hi s).1, ((rd lo hi s).2.1, ((rd lo hi s).2.2, ()))) := r_rGet h.1 (by have := h.2; omega)
theorem r_txt {most : Int} {s : Rs} (h : okR s) : ref04_Reader_TextW stdW s.1 s.2 most = some (strOf (rT most s).1, ((rT most s).2.1, ((rT most s).2.2, ()))) := r_rText h
theorem r_gEnd (s : Rs) : ref04_Reader_EndW stdW s.1 s.2 = some (endE s, (s.1, (s.2, ()))) := by
  obtain ⟨l, e⟩ := s
  unfold ref04_Reader_EndW endE
  show stdW.join _ _ = _
  refine join_g fun k hk => ?_
  by_cases h : e = 0
  · rw [cnd_y (by simp [h]), hk]
    show stdW.cnd (decide ((0 : Int) < (l.length : Int))) _ _ = _
    by_cases h2 : 0 < l.length
    · rw [cnd_y (decide_eq_true (by omega))]
      simp [h, h2]
    · rw [cnd_n (decide_eq_false (by omega))]
      have : l.length = 0 := by omega
      simp [h, this]
  · rw [cnd_n (by simp [h]), hk]
    show stdW.cnd false _ _ = _
    rw [cnd_n rfl]
    simp [h]
theorem r_refDec {b : List Int} (hb : okR (b, 0)) : ref38_DecodeW stdW b = some (outD (dA b)) := by
  unfold ref38_DecodeW
  rw [call_w (show ref04_Reader_GetW stdW b 0 0 400 = _ from r_get (s := (b, 0)) hb)]
  have b1 := rd_ok 0 400 _ hb
  have hc0 := cnt_nn (lo := 0) (hi := 400) (s := (b, 0)) (by omega)
  have hc1 := cnt_le (lo := 0) (hi := 400) (s := (b, 0)) (by omega) (by omega)
  obtain ⟨c, hc⟩ := Int.eq_ofNat_of_zero_le hc0
  have hA : rA sm 400 (b, 0) = rMany (rE sm) c [] (rd 0 400 (b, 0)).2 := by unfold rA; rw [hc]; rfl
  refine join_g fun k4 hk4 => ?_
  show stdW.loop (fun (z5 : Int × List Int × Int × List En × Unit) again6 => stdW.cnd (decide (z5.1 < (rd 0 400 (b, (0 : Int))).1)) _ _) _ = _
  rw [hc] at hc1 ⊢
  refine (loop_dn (R := rE') (st := fun n a s => ((a.length : Int), (s.1, (s.2, (a, ()))))) (r := fun a s => k4 (s.1, (s.2, (a, ())))) (fun s hs => rE'_ok hs) c (by omega) (fun a s again hs ha => ?_) (fun n a s again hs ha he => ?_) (fun n a s again hs ha he => ?_) (rd 0 400 (b, 0)).2 b1).trans ?_
  · rw [cnd_n (decide_eq_false (by show ¬ (a.length : Int) < (c : Int); omega))]
  · rw [cnd_y (decide_eq_true (by show (a.length : Int) < (c : Int); omega))]
    show stdW.cnd (s.2 == 0) _ _ = _
    rw [cnd_n (by simp [he])]
  · rw [cnd_y (decide_eq_true (by show (a.length : Int) < (c : Int); omega))]
    show stdW.cnd (s.2 == 0) (stdW.call (ref04_Reader_GetW stdW s.1 s.2 1 4) _) _ = _
    rw [cnd_y (by simp [he]), call_w (r_get hs)]
    have s1 := rd_ok 1 4 s hs
    have hfin : ∀ (x : En) (t : Rs), rE' s = (x, t) → again (IntKind.i64.wrap ((a.length : Int) + 1), (t.1, (t.2, (a ++ [x], ())))) = again (((a ++ [(rE' s).1]).length : Int), ((rE' s).2.1, ((rE' s).2.2, (a ++ [(rE' s).1], ())))) := by
      intro x t h
      rw [h, i64_s a.length (by omega)]
      simp
    have hr : ∀ y : En, (a ++ [y]).length ≤ 1000 := fun y => by simp only [List.length_append, List.length_singleton]; omega
    refine join_g fun k19 hk19 => ?_
    show stdW.cnd ((rd 1 4 s).1 == 1) _ _ = _
    by_cases h1 : (rd 1 4 s).1 = 1
    · rw [cnd_y (by simp [h1])]
      have q := rT_len (most := 400) s1
      have e : rE' s = ((1, (rT 400 (rd 1 4 s).2).1, 0, [], ()), (rT 400 (rd 1 4 s).2).2) := by unfold rE'; rw [if_pos h1]
      have key : ∀ y : List Int, y = (rT 400 (rd 1 4 s).2).1 → k19 ((rT 400 (rd 1 4 s).2).2.1, ((rT 400 (rd 1 4 s).2).2.2, ((rd 1 4 s).1, (0, (a, (y, ())))))) = again (((a ++ [(rE' s).1]).length : Int), ((rE' s).2.1, ((rE' s).2.2, (a ++ [(rE' s).1], ())))) := by
        rintro _ rfl
        rw [hk19]
        refine join_g fun k10 hk10 => ?_
        show stdW.cnd ((rd 1 4 s).1 == 2) _ _ = _
        rw [cnd_n (by simp [h1]), hk10]
        show stdW.room (a.length + 1) 64 (again _) = _
        rw [room_w (by omega) (by omega)]
        refine Eq.trans ?_ (hfin _ _ e)
        rw [h1]
      refine both_of ?_ ?_
      · show stdW.call (ref04_Reader_TextW stdW (rd 1 4 s).2.1 (rd 1 4 s).2.2 400) _ = _
        rw [call_w (r_txt s1), room_w (by rw [strOf_size]; omega) (by rw [strOf_size]; omega)]
        exact key _ (bytesI_strOf q.2)
      · show stdW.call (ref04_Reader_TextW stdW (rd 1 4 s).2.1 (rd 1 4 s).2.2 400) _ = _
        rw [call_w (r_txt s1), room_w (by rw [strOf_size]; omega) (by rw [strOf_size]; omega)]
        exact key _ (bytesI_strOf q.2)
    · rw [cnd_n (by simp [h1]), hk19]
      refine join_g fun k10 hk10 => ?_
      show stdW.cnd ((rd 1 4 s).1 == 2) _ _ = _
      by_cases h2 : (rd 1 4 s).1 = 2
      · rw [cnd_y (by simp [h2])]
        have s2 := rd_ok 0 1048576 _ s1
        have s3 := rd_ok 0 255 _ s2
        have e : rE' s = ((2, [], (rd 0 1048576 (rd 1 4 s).2).1, (rAll (rd 0 254) (rd 0 255 (rd 0 1048576 (rd 1 4 s).2).2).1.toNat [] (rd 0 255 (rd 0 1048576 (rd 1 4 s).2).2).2).1, ()),
            (rAll (rd 0 254) (rd 0 255 (rd 0 1048576 (rd 1 4 s).2).2).1.toNat [] (rd 0 255 (rd 0 1048576 (rd 1 4 s).2).2).2).2) := by unfold rE'; rw [if_neg h1, if_pos h2]
        have hm0 := cnt_nn (lo := 0) (hi := 255) (s := (rd 0 1048576 (rd 1 4 s).2).2) (by omega)
        have hm1 := cnt_le (lo := 0) (hi := 255) (s := (rd 0 1048576 (rd 1 4 s).2).2) (by omega) (by omega)
        obtain ⟨m, hm⟩ := Int.eq_ofNat_of_zero_le hm0
        show stdW.call (ref04_Reader_GetW stdW (rd 1 4 s).2.1 (rd 1 4 s).2.2 0 1048576) _ = _
        rw [call_w (r_get s1)]
        show stdW.call (ref04_Reader_GetW stdW (rd 0 1048576 (rd 1 4 s).2).2.1 (rd 0 1048576 (rd 1 4 s).2).2.2 0 255) _ = _
        rw [call_w (r_get s2)]
        show stdW.loop (fun (z13 : Int × List Int × Int × Int × Int × List En × List Int × List Int × Unit) again14 => stdW.cnd (decide (z13.1 < (rd 0 255 (rd 0 1048576 (rd 1 4 s).2).2).1)) _ _) _ = _
        rw [hm] at hm1 e ⊢
        generalize (rd 0 1048576 (rd 1 4 s).2).1 = N at e
        generalize (rd 0 255 (rd 0 1048576 (rd 1 4 s).2).2).2 = s4 at s3 e ⊢
        refine (loop_all (R := rd 0 254) (st := fun n d t => ((d.length : Int), (t.1, (t.2, ((rd 1 4 s).1, (N, (a, ([], (d, ()))))))))) (r := fun d t => k10 (t.1, (t.2, ((rd 1 4 s).1, (N, (a, ([], (d, ())))))))) (fun t ht => rd_ok 0 254 t ht) m (by omega) (fun d t again' ht hd => ?_) (fun n d t again' ht hd => ?_) s4 s3).trans ?_
        · rw [cnd_n (decide_eq_false (by show ¬ (d.length : Int) < (m : Int); omega))]
        · rw [cnd_y (decide_eq_true (by show (d.length : Int) < (m : Int); omega))]
          refine join_g fun k16 hk16 => ?_
          have key : stdW.room (d.length + 1) 8 (k16 ((rd 0 254 t).2.1, ((rd 0 254 t).2.2, ((rd 1 4 s).1, (N, (a, ([], (d ++ [(rd 0 254 t).1], ())))))))) = again' (((d ++ [(rd 0 254 t).1]).length : Int), ((rd 0 254 t).2.1, ((rd 0 254 t).2.2, ((rd 1 4 s).1, (N, (a, ([], (d ++ [(rd 0 254 t).1], ())))))))) := by
            rw [room_w (by omega) (by omega), hk16]
            show again' (IntKind.i64.wrap ((d.length : Int) + 1), _) = _
            rw [i64_s d.length (by omega)]
            simp
          refine both_of ?_ ?_
          · show stdW.call (ref04_Reader_GetW stdW t.1 t.2 0 254) _ = _
            rw [call_w (r_get ht)]
            exact key
          · show stdW.call (ref04_Reader_GetW stdW t.1 t.2 0 254) _ = _
            rw [call_w (r_get ht)]
            exact both_of key key
        · rw [hk10]
          show stdW.room (a.length + 1) 64 (again _) = _
          rw [room_w (by omega) (by omega)]
          refine Eq.trans ?_ (hfin _ _ e)
          rw [h2]; rfl
      · rw [cnd_n (by simp [h2]), hk10]
        have e : rE' s = (((rd 1 4 s).1, [], 0, [], ()), (rd 1 4 s).2) := by unfold rE'; rw [if_neg h1, if_neg h2]
        show stdW.room (a.length + 1) 64 (again _) = _
        rw [room_w (by omega) (by omega)]
        exact hfin _ _ e
  · rw [hk4]
    show stdW.call (ref04_Reader_EndW stdW (rMany rE' c [] (rd 0 400 (b, 0)).2).2.1 (rMany rE' c [] (rd 0 400 (b, 0)).2).2.2) _ = _
    rw [call_w (r_gEnd _)]
    have m := many_eq c [] (rd 0 400 (b, 0)).2
    rw [← hA] at m
    show stdW.cnd (endE (rMany rE' c [] (rd 0 400 (b, 0)).2).2 != 0) _ (some ((rMany rE' c [] (rd 0 400 (b, 0)).2).1, (0, ()))) = _
    rw [m.1]
    by_cases he : endE (rA sm 400 (b, 0)).2 = 0
    · rw [cnd_n (by simp [he]), m.2 (end0 he).1]
      unfold dA; rw [if_pos he]; rfl
    · rw [cnd_y (by simp [he])]
      unfold dA; rw [if_neg he]; rfl
end Go.Proofs.YtclleaffonkegaaGreat

namespace Go.Proofs.YtclleaffonkegaaGreat
open Go Go.Vc Go.RowKit
set_option synthInstance.maxSize 100000
set_option synthInstance.maxHeartbeats 0
/-! ### which entries are a script: both agree -/
def wd : Bd := ⟨-9223372036854775808, 9223372036854775807, 1000, -9223372036854775808, 9223372036854775807, 1000, -9223372036854775808, 9223372036854775807⟩
theorem pn_wd {n : Int} (h : Is64 n) : PN (-9223372036854775808) 9223372036854775807 n := ⟨h, h.1, h.2⟩
theorem bare_wd {x : En} (h : WE x) (hb : bareB x = true) : PE wd x := by
  unfold bareB at hb
  simp only [Bool.and_eq_true, Bool.or_eq_true, decide_eq_true_eq] at hb
  obtain ⟨b1, b2⟩ := hb
  refine ⟨pn_wd h.k, fun _ => ⟨h.b, ?_, ?_⟩, fun h1 => ?_, fun _ => ⟨pn_wd h.n, ⟨⟨?_, ?_⟩, ?_, ?_⟩, fun p hp => pn_wd (h.p p hp)⟩, fun h2 => ?_⟩
  · have := h.bl; show (x.2.1.length : Int) ≤ 1000; omega
  · have := h.bl; omega
  · rcases b1 with b1 | b1
    · exact absurd b1 h1
    · exact b1
  · omega
  · have := h.pl; omega
  · omega
  · have := h.pl; show (x.2.2.2.1.length : Int) ≤ 1000; omega
  · rcases b2 with b2 | b2
    · exact absurd b2 h2
    · exact b2
theorem sm_bare {x : En} (h : PE sm x) : bareB x = true := by
  unfold bareB
  simp only [Bool.and_eq_true, Bool.or_eq_true, decide_eq_true_eq]
  constructor
  · by_cases h1 : x.1 = 1
    · exact .inl h1
    · exact .inr (h.t0 h1)
  · by_cases h2 : x.1 = 2
    · exact .inl h2
    · exact .inr (h.n0 h2)
theorem gA_inj {l l' : List En} (h : PA wd 1000 l) (h' : PA wd 1000 l') (e : gA l = gA l') : l = l' := by
  have q := (gb_A wd 1000).enc l [] h
  have q' := (gb_A wd 1000).enc l' [] h'
  rw [e, q'] at q
  exact (congrArg Prod.fst q).symm
theorem wn_sm {x : En} (h : WE x) (w : Wn x) : PE sm x := by
  obtain ⟨⟨a1, a2, a3, a4⟩, ⟨c1, c2, c3, c4⟩, k⟩ := w
  refine ⟨⟨h.k, a1, a2⟩, fun _ => ⟨h.b, a3, by omega⟩, fun h1 => ?_, fun _ => ⟨⟨h.n, c1, c2⟩, ⟨⟨by omega, by omega⟩, by omega, c3⟩, fun p hp => ⟨h.p p hp, (k p hp).1, (k p hp).2⟩⟩, fun h2 => ?_⟩
  · have := a4 h1; exact List.eq_nil_of_length_eq_zero (by omega)
  · obtain ⟨e1, e2⟩ := c4 h2
    exact ⟨e1, List.eq_nil_of_length_eq_zero (by omega)⟩
theorem sm_wn {x : En} (h : PE sm x) : Wn x := by
  refine ⟨⟨h.k.2.1, h.k.2.2, ?_, fun h1 => by rw [h.t0 h1]; simp⟩, ⟨?_, ?_, ?_, fun h2 => by rw [(h.n0 h2).1, (h.n0 h2).2]; simp⟩, ?_⟩
  · by_cases h1 : x.1 = 1
    · exact (h.t h1).2.1
    · rw [h.t0 h1]; simp
  · by_cases h2 : x.1 = 2
    · exact (h.n h2).1.2.1
    · rw [(h.n0 h2).1]; simp
  · by_cases h2 : x.1 = 2
    · exact (h.n h2).1.2.2
    · rw [(h.n0 h2).1]; simp
  · by_cases h2 : x.1 = 2
    · exact (h.n h2).2.1.2.2
    · rw [(h.n0 h2).2]; simp
  · intro p hp
    by_cases h2 : x.1 = 2
    · exact ((h.n h2).2.2 p hp).2
    · rw [(h.n0 h2).2] at hp; simp at hp
theorem isS_pa {l : List En} (h : ∀ x ∈ l, WE x) (hs : IsS l) : PA sm 400 l := ⟨⟨⟨by omega, by have := hs.2; omega⟩, by omega, hs.2⟩, fun x hx => wn_sm (h x hx) (hs.1 x hx)⟩
theorem pa_isS {l : List En} (h : PA sm 400 l) : IsS l := ⟨fun x hx => sm_wn (h.2 x hx), h.1.2.2⟩
theorem pa_wd {l : List En} (h : ∀ x ∈ l, WE x) (hl : l.length ≤ 1000) (hb : ∀ x ∈ l, bareB x = true) : PA wd 1000 l :=
  ⟨⟨⟨by omega, by omega⟩, by omega, by omega⟩, fun x hx => bare_wd (h x hx) (hb x hx)⟩
theorem enc_same {l : List En} (h : ∀ x ∈ l, WE x) (hl : l.length ≤ 1000) : encO l = if IsS l then (gA l, (0, ())) else ([], (3, ())) := by
  unfold encO
  by_cases hs : IsS l
  · have hp := isS_pa h hs
    rw [if_pos hs, if_pos ⟨List.all_eq_true.2 fun x hx => sm_bare (hp.2 x hx), by rw [dA_e hp]; rfl⟩]
  · rw [if_neg hs, if_neg]
    rintro ⟨hb, hd⟩
    obtain ⟨l', hl'⟩ := Option.isSome_iff_exists.1 hd
    obtain ⟨e, hp⟩ := dA_s (gA_ok h hl) hl'
    have h' : ∀ x ∈ l', WE x := fun x hx => (hp.2 x hx).we
    have hlen := hp.len
    have := gA_inj (pa_wd h hl fun x hx => List.all_eq_true.1 hb x hx) (pa_wd h' (by omega) fun x hx => sm_bare (hp.2 x hx)) e
    rw [this] at hs
    exact hs (pa_isS hp)
/-! ### few entries -/
def cutX (x : En) : En := (x.1, x.2.1.take 410, x.2.2.1, x.2.2.2.1.take 260, ())
theorem r_few (l : List En) (hl : l.length ≤ 9223372036854775807) : law38_FewW stdW l = some ((l.take 90).map cutX) := by
  unfold law38_FewW
  refine join_g fun k2 hk2 => ?_
  refine loop_list (l := l) (by omega) (fun i s => i ≤ 90 ∧ s = ((l.take i).map cutX, ())) (fun _ _ => some ((l.take 90).map cutX)) ⟨by omega, by simp⟩ ?_ ?_
  · rintro _ again ⟨hi, rfl⟩
    rw [cnd_end, hk2, List.take_length, List.take_of_length_le (by omega)]
  · rintro i hi _ ⟨hi9, rfl⟩ again ha
    rw [cnd_lt hi]
    by_cases h9 : i < 90
    · rw [cnd_y (decide_eq_true (by show (i : Int) < 90; omega)), idx_w hi, call_w (show ref01_CutW stdW _ 410 = _ from r_cutB (n := 410) (by omega))]
      refine join_g fun k8 hk8 => ?_
      have key : k8 (l[i].1, (l[i].2.1.take 410, (l[i].2.2.1, (l[i].2.2.2.1.take 260, ((l.take i).map cutX, ()))))) = some ((l.take 90).map cutX) := by
        rw [hk8]
        show stdW.room (((l.take i).map cutX).length + 1) 64 (again (IntKind.i64.wrap ((i : Int) + 1), ((l.take i).map cutX ++ [cutX l[i]], ()))) = _
        have hle : ((l.take i).map cutX).length ≤ 90 := by simp; omega
        rw [room_w (by omega) (by omega), i64_s i (by omega)]
        refine ha _ ⟨by omega, ?_⟩
        have e1 : l.take (i + 1) = l.take i ++ [l[i]] := by simp
        rw [e1, List.map_append]; rfl
      by_cases hk : 260 < l[i].2.2.2.1.length
      · rw [cnd_y (decide_eq_true (by omega)), bnd_w (by omega) (by omega)]
        exact key
      · rw [cnd_n (decide_eq_false (by omega))]
        rw [List.take_of_length_le (l := l[i].2.2.2.1) (by omega)] at key
        exact key
    · rw [cnd_n (decide_eq_false (by show ¬ (i : Int) < 90; omega)), hk2]
      have : i = 90 := by omega
      subst this
      rfl
end Go.Proofs.YtclleaffonkegaaGreat

namespace Go.Vc
open Go Go.RowKit Go.ChangeShapes Go.WideShapes
/-! ### Arguments, opened by their types' shapes -/
def noU : Nat → Prop := fun _ => False
/-! what a well formed argument is known to be -/
def DT.okD : (t : DT) → t.den → Prop
  | .int k, n => (Lit.int k n).wf = true
  | .bool, _ => True
  | .str, s => s.size ≤ maxLen
  | .slc t, l => (∀ x ∈ l, t.okD x) ∧ l.length ≤ maxLen
  | .unit, _ => True
  | .pair a b, x => a.okD x.1 ∧ b.okD x.2
  | .set, _ => False
theorem wf_i64 {n : Int} (h : (Lit.int .i64 n).wf = true) : -9223372036854775808 ≤ n ∧ n ≤ 9223372036854775807 := by
  simp [Lit.wf, IntKind.min, IntKind.max, IntKind.signed, IntKind.bits] at h; omega
theorem wf_u8 {n : Int} (h : (Lit.int .u8 n).wf = true) : 0 ≤ n ∧ n ≤ 255 := by
  simp [Lit.wf, IntKind.min, IntKind.max, IntKind.signed, IntKind.bits] at h; omega
/-- a type that is laid out as these data (a struct; its fields from a cell on) -/
def lay (P : Program) : DT → (TypeId → Bool) × (List Field → Nat → Bool)
  | .int k => (fun t => match P.underlying t with | some (.int k') => eqk k' k | _ => false, fun _ _ => false)
  | .bool => (fun t => match P.underlying t with | some .bool => true | _ => false, fun _ _ => false)
  | .set => (fun _ => false, fun _ _ => false)
  | .str => (fun t => match P.underlying t with | some .string => true | _ => false, fun _ _ => false)
  | .slc d => (fun t => match P.underlying t with | some (.slice e) => (lay P d).1 e && Nat.beq (P.cellsOf e) d.size | _ => false, fun _ _ => false)
  | .unit => (fun t => match P.underlying t with | some (.struct fs) => fs.toList.isEmpty && Nat.beq (P.cellsOf t) 0 | _ => false, fun fl _ => fl.isEmpty)
  | .pair a b =>
    (fun t => match P.underlying t with
      | some (.struct fs) => (match fs.toList with
        | f :: fl => Nat.beq f.offset 0 && Nat.beq (P.cellsOf f.type) a.size && (lay P a).1 f.type && (lay P b).2 fl a.size
        | [] => false) && Nat.beq (fs.toList.foldl (fun s f => s + P.cellsOf f.type) 0) (P.cellsOf t)
      | _ => false,
    fun fl off => match fl with
      | f :: fl => Nat.beq f.offset off && Nat.beq (P.cellsOf f.type) a.size && (lay P a).1 f.type && (lay P b).2 fl (off + a.size)
      | [] => false)
def OpnD (P : Program) (t : TypeId) (d : DT) : Prop :=
  ∀ (H : Type) (enc : TypeId × Value → H) (w : World) (base : Nat) (spare : Nat → Bool) (held : Bool) (fuel : Nat) (cs : List Value) (x : DataW H × List MemPlace),
    DataW.trod enc P w base spare held fuel t cs = some x → ∃ a, d.okD a ∧ d.h noU w a cs
def OpnF (P : Program) (fl : List Field) (off : Nat) (d : DT) : Prop :=
  ∀ (H : Type) (enc : TypeId × Value → H) (w : World) (base : Nat) (spare : Nat → Bool) (held : Bool) (fuel : Nat) (cs : List Value) (n : Nat), cs.length = n → fl.foldl (fun s f => s + P.cellsOf f.type) off = n →
    (∀ f ∈ fl, ∃ x, DataW.trod enc P w base spare held fuel f.type ((cs.drop f.offset).take (P.cellsOf f.type)) = some x) → ∃ a, d.okD a ∧ d.h noU w a (cs.drop off)
theorem choose_list {α : Type} {Q : Nat → α → Prop} : ∀ (n : Nat), (∀ i, i < n → ∃ a, Q i a) → ∃ l : List α, l.length = n ∧ ∀ i a, l[i]? = some a → Q i a
  | 0, _ => ⟨[], rfl, by simp⟩
  | n + 1, h => by
    obtain ⟨l, hl, hq⟩ := choose_list n fun i hi => h i (by omega)
    obtain ⟨a, ha⟩ := h n (by omega)
    refine ⟨l ++ [a], by simp [hl], fun i b hb => ?_⟩
    rcases Nat.lt_or_ge i n with hi | hi
    · rw [List.getElem?_append_left (by omega)] at hb; exact hq i b hb
    · rw [List.getElem?_append_right (by omega), hl] at hb
      rcases Nat.eq_or_lt_of_le hi with e | e
      · subst e; simp at hb; subst hb; exact ha
      · rw [List.getElem?_eq_none (by simp; omega)] at hb; cases hb
theorem cells_get {w : World} {base : Nat} {a : Addr} {n : Nat} {cs : List Value} (h : w.cells? base a n = some cs) : cs.length = n ∧ ∀ j u, cs[j]? = some u → w.cell? (a.add j) = some u := by
  unfold World.cells? at h
  split at h
  · have hl := mapM_some_length h
    refine ⟨by simpa using hl, fun j u hj => ?_⟩
    have hlt : j < n := by have := (List.getElem?_eq_some_iff.1 hj).1; simp at hl; omega
    have := mapM_some_get h j j (by simp [hlt])
    rw [this, hj]
  · cases h
theorem opn_slice {P : Program} {t e : TypeId} {d : DT} (ht : P.underlying t = some (.slice e)) (hk : P.cellsOf e = d.size) (he : OpnD P e d) : OpnD P t (.slc d) := by
  intro H enc w base spare held fuel cs x h
  rcases DataW.trod_slice ht h with ⟨rfl, _⟩ | ⟨a, len, cap, elems, rest, n, _, rfl, _, hb, hl, hm, hlen, hel, _, _⟩
  · exact ⟨[], ⟨by simp, Nat.zero_le _⟩, none, 0, rfl, Nat.le_refl _, Nat.zero_le _, by simp⟩
  · have hq : ∀ i, i < len → ∃ b : d.den, d.okD b ∧ ∃ us, d.h noU w b us ∧ ∀ j u, us[j]? = some u → w.cell? (a.add (i * d.size + j)) = some u := by
      intro i hi
      have h1 := hel i hi
      have h2 : elems[i]? = some elems[i] := List.getElem?_eq_getElem (by omega)
      rw [h2, Option.bind_eq_some_iff] at h1
      obtain ⟨us, h3, h4⟩ := h1
      obtain ⟨b, hb1, hb2⟩ := he H enc w base spare held n us _ h4
      obtain ⟨_, g2⟩ := cells_get h3
      refine ⟨b, hb1, us, hb2, fun j u hj => ?_⟩
      have := g2 j u hj
      rwa [Addr.add_add, hk] at this
    obtain ⟨l, hll, hl2⟩ := choose_list len hq
    refine ⟨l, ⟨fun b hb => ?_, by omega⟩, some a, cap, by rw [hll], by omega, hm, fun i x hi => ?_⟩
    · obtain ⟨i, hi⟩ := List.mem_iff_getElem?.1 hb
      exact (hl2 i b hi).1
    · obtain ⟨_, us, g2, g3⟩ := hl2 i x hi
      refine ⟨us, g2, fun j u hj => ⟨a, rfl, fun h => h, ?_, g3 j u hj⟩⟩
      have := World.block_lt_of_cell? w _ (g3 j u hj)
      rwa [add_block] at this
theorem opn_struct {P : Program} {t : TypeId} {fs : Array Field} {d : DT} (ht : P.underlying t = some (.struct fs)) (hs : fs.toList.foldl (fun s f => s + P.cellsOf f.type) 0 = P.cellsOf t) (h : OpnF P fs.toList 0 d) : OpnD P t d := by
  intro H enc w base spare held fuel cs x hx
  obtain ⟨xs, n, _, _, hl, hxl, hf⟩ := DataW.trod_struct ht hx
  have := h H enc w base spare held n cs _ hl hs fun f hf' => by
    obtain ⟨i, hi⟩ := List.mem_iff_getElem?.1 hf'
    have h1 := hf i f (by simpa using hi)
    have hlt := (List.getElem?_eq_some_iff.1 hi).1
    rw [List.getElem?_eq_getElem (by rw [hxl]; simpa using hlt)] at h1
    exact ⟨_, h1⟩
  simpa using this
theorem opn_nil {P : Program} {off : Nat} : OpnF P [] off .unit := by
  intro H enc w base spare held fuel cs n hl hn _
  simp at hn
  exact ⟨(), trivial, by simp only [DT.h]; simp; omega⟩
theorem opn_cons {P : Program} {f : Field} {fl : List Field} {off : Nat} {a b : DT} (ho : f.offset = off) (hk : P.cellsOf f.type = a.size) (h1 : OpnD P f.type a) (h2 : OpnF P fl (off + a.size) b) : OpnF P (f :: fl) off (.pair a b) := by
  intro H enc w base spare held fuel cs n hl hn hf
  subst ho
  obtain ⟨x, hx⟩ := hf f (by simp)
  obtain ⟨y, a1, a2⟩ := h1 H enc w base spare held fuel _ x hx
  obtain ⟨z, b1, b2⟩ := h2 H enc w base spare held fuel cs n hl (by rw [← hk]; simpa using hn) fun g hg => hf g (by simp [hg])
  refine ⟨(y, z), ⟨a1, b1⟩, _, _, ?_, a2, b2⟩
  rw [← List.drop_drop, hk, List.take_append_drop]
theorem lay_ok (P : Program) : ∀ d : DT, (∀ t, (lay P d).1 t = true → OpnD P t d) ∧ ∀ fl off, (lay P d).2 fl off = true → OpnF P fl off d
  | .set => ⟨fun _ h => by simp [lay] at h, fun _ _ h => by simp [lay] at h⟩
  | .int k => by
      refine ⟨fun t h => ?_, fun fl off h => ?_⟩
      case refine_2 => simp [lay] at h
      simp only [lay] at h
      split at h
      · rename_i k' ht
        have := eqk_eq h
        subst this
        intro H enc w base spare held fuel cs x hx
        obtain ⟨n, rfl, _, hw⟩ := DataW.trod_int ht hx
        exact ⟨n, hw, rfl⟩
      · cases h
  | .bool => by
      refine ⟨fun t h => ?_, fun fl off h => ?_⟩
      case refine_2 => simp [lay] at h
      simp only [lay] at h
      split at h
      · rename_i ht
        intro H enc w base spare held fuel cs x hx
        obtain ⟨n, rfl, _⟩ := DataW.trod_bool ht hx
        exact ⟨n, trivial, rfl⟩
      · cases h
  | .str => by
      refine ⟨fun t h => ?_, fun fl off h => ?_⟩
      case refine_2 => simp [lay] at h
      simp only [lay] at h
      split at h
      · rename_i ht
        intro H enc w base spare held fuel cs x hx
        obtain ⟨n, rfl, _, hl⟩ := DataW.trod_string ht hx
        exact ⟨n, hl, rfl⟩
      · cases h
  | .slc d => by
      refine ⟨fun t h => ?_, fun fl off h => ?_⟩
      case refine_2 => simp [lay] at h
      simp only [lay] at h
      split at h
      · rename_i e ht
        simp only [Bool.and_eq_true] at h
        exact opn_slice ht (Nat.eq_of_beq_eq_true h.2) ((lay_ok P d).1 _ h.1)
      · cases h
  | .unit => by
      refine ⟨fun t h => ?_, fun fl off h => ?_⟩
      case refine_2 => simp only [lay, List.isEmpty_iff] at h; subst h; exact opn_nil
      simp only [lay] at h
      split at h
      · rename_i fs ht
        simp only [Bool.and_eq_true, List.isEmpty_iff] at h
        refine opn_struct ht (by rw [h.1, Nat.eq_of_beq_eq_true h.2]; rfl) ?_
        rw [h.1]; exact opn_nil
      · cases h
  | .pair a b => by
    have hF : ∀ fl off, (lay P (.pair a b)).2 fl off = true → OpnF P fl off (.pair a b) := fun fl off h => by
      simp only [lay] at h
      split at h
      · simp only [Bool.and_eq_true] at h
        obtain ⟨⟨⟨h1, h2⟩, h3⟩, h4⟩ := h
        exact opn_cons (Nat.eq_of_beq_eq_true h1) (Nat.eq_of_beq_eq_true h2) ((lay_ok P a).1 _ h3) ((lay_ok P b).2 _ _ h4)
      · cases h
    refine ⟨fun t h => ?_, hF⟩
    simp only [lay] at h
    split at h
    · rename_i fs ht
      simp only [Bool.and_eq_true] at h
      refine opn_struct ht (Nat.eq_of_beq_eq_true h.2) (hF _ _ ?_)
      have h1 := h.1
      simp only [lay]
      split at h1
      · rename_i f fl hfs
        rw [Nat.zero_add]; exact h1
      · cases h1
    · cases h
/-- an argument -/
theorem openD {P : Program} {t : TypeId} {d : DT} (hl : (lay P d).1 t = true) {H : Type} {enc : TypeId × Value → H} {w : World} {re : Reach} {b0 base : Nat} {spare : Nat → Bool} {held : Bool} {v : Value} {D : DataW H} {p : List MemPlace}
    (hv : Value.okWide P w re b0 t v) (h : DataW.Trod enc P w base spare held t v D p) : ∃ a, d.okD a ∧ d.hv noU w a v := by
  have ho := (lay_ok P d).1 t hl
  obtain ⟨fuel, h⟩ := h
  obtain ⟨a, h1, h2⟩ := ho H enc w base spare held fuel _ _ h
  refine ⟨a, h1, _, h2, ?_⟩
  cases d with
  | set => simp [lay] at hl
  | int k =>
    simp only [lay] at hl
    split at hl
    · rename_i ht; obtain ⟨s, rfl⟩ := okWide_int ht hv; rfl
    · cases hl
  | bool =>
    simp only [lay] at hl
    split at hl
    · rename_i ht; obtain ⟨s, rfl⟩ := okWide_bool ht hv; rfl
    · cases hl
  | str =>
    simp only [lay] at hl
    split at hl
    · rename_i ht; obtain ⟨s, rfl⟩ := okWide_string ht hv; rfl
    · cases hl
  | slc d =>
    simp only [lay] at hl
    split at hl
    · rename_i ht; obtain ⟨x, n, c, rfl⟩ := okWide_slice ht hv; rfl
    · cases hl
  | unit =>
    simp only [lay] at hl
    split at hl
    · rename_i ht; obtain ⟨cs, rfl, _⟩ := okWide_struct ht hv; simp [DT.agg, Value.cells]
    · cases hl
  | pair a b =>
    simp only [lay] at hl
    split at hl
    · rename_i ht; obtain ⟨cs, rfl, _⟩ := okWide_struct ht hv; simp [DT.agg, Value.cells]
    · cases hl
/-- arguments, one behind the other -/
def envS (w : World) : Env := ⟨noU, w, fun _ => 0, fun _ => (none, 0), [], []⟩
theorem argNil {w : World} : hL (envS w) (argVs .unit ()) [] := by simp only [argVs, hL]
theorem argCons {w : World} {a b : DT} {x : a.den} {y : b.den} {v : Value} {vs : List Value} (h : a.hv noU w x v) (k : hL (envS w) (argVs b y) vs) : hL (envS w) (argVs (.pair a b) (x, y)) (v :: vs) := by
  simp only [argVs, hL]
  exact ⟨v, vs, rfl, a.val_h (E := envS w) h, k⟩
/-- A LAW: called with what its arguments stand for it answers true, and of what was there nothing has turned -/
theorem esays {P : Program} {f : FuncId} {A : DT} {F : A.den → Option Bool} (h : ESok P f ⟨A, .v .bool, F⟩) {x : A.den} (hx : F x = some true) {vs : List Value} {w : World} (hv : hL (envS w) (argVs A x) vs) (hb : HasBody P f) :
    Calls P f vs.toArray w fun e w' => e = .returned (.bool true) ∧ Below w.heap.size w w' := by
  have hno : ∀ b, ¬ Ow (fun _ => 0) (fun _ => (none, 0)) [] [] b := by
    rintro b ⟨k, i, h⟩
    cases k with
    | false => obtain ⟨⟨_, h⟩, _⟩ := h; simp at h
    | true => obtain ⟨r, ad, h, _⟩ := h; simp at h
  have m : Mem w noU (Ow (fun _ => 0) (fun _ => (none, 0)) [] []) (fun _ => 0) (fun _ => (none, 0)) [] [] w :=
    ⟨rfl, rfl, rfl, Nat.le_refl _, fun _ _ _ => rfl, fun b h => h.elim, fun k i b h => (hno b ⟨k, i, h⟩).elim, fun k i k' i' b h => (hno b ⟨k, i, h⟩).elim, fun i b h => by simp at h, fun j e t l h => by simp at h, fun j d h => by simp at h⟩
  have hU : ∀ b, Us noU (fun _ => 0) (fun _ => (none, 0)) [] [] b → noU b := fun b h => h.elim id fun h => (hno b h).elim
  have s : Sub noF (envS w) (env noU (fun _ => 0) (fun _ => (none, 0)) [] [] w) := ⟨⟨fun _ _ _ => rfl, Nat.le_refl _, fun b _ h => hU b h⟩, fun i h => ⟨h, rfl⟩, fun j e t l _ h => ⟨l, h, rfl, rfl⟩, fun j d _ h => ⟨⟨d, h, rfl⟩, rfl⟩, fun j q e t l h => (by cases h), fun j p d ad h => (by cases h)⟩
  refine ((h x true hx noU _ _ vs w m (noSub s hv)).calls hb).mono ?_
  rintro e w' ⟨v, rfl, B', A', r, pb', rw', m', hr, _, _, hq⟩
  simp only [QT.mk, Prod.mk.injEq] at hq
  obtain ⟨rfl, _⟩ := hq
  simp only [DT.val, DV.h] at hr
  subst hr
  exact ⟨rfl, m'.os, m'.tape, m'.output, m'.size, fun b hb => m'.same b hb (hno b)⟩
end Go.Vc