import Derived.Test.YtbpbkmngbhgpfaaB6
import Derived.Test.YtbpbkmngbhgpfaaRows
import Derived.JoinedOf
namespace Go.Proofs.Ytbpbkmngbhgpfaa
open Go Go.Vc Go.RowKit
/-! ### numbers of 128 bits, by their values -/
def wv (w : WideWide') : Int := w.1 * 18446744073709551616 + w.2.1
def wOk (w : WideWide') : Prop := (-9223372036854775808 ≤ w.1 ∧ w.1 ≤ 9223372036854775807) ∧ (0 ≤ w.2.1 ∧ w.2.1 < 18446744073709551616)
def wide (z : Int) : WideWide' := (z / 18446744073709551616, z % 18446744073709551616, ())
def In128 (z : Int) : Prop := -170141183460469231731687303715884105728 ≤ z ∧ z < 170141183460469231731687303715884105728
instance (z : Int) : Decidable (In128 z) := by unfold In128; infer_instance
theorem wv_wide (z : Int) : wv (wide z) = z := by unfold wide wv; simp only; omega
theorem wv_in (w : WideWide') (h : wOk w) : In128 (wv w) := by unfold wOk at h; unfold In128 wv; omega
theorem wide_ok (z : Int) (h : In128 z) : wOk (wide z) := by unfold In128 at h; unfold wOk wide; simp only; omega
theorem wide_inj {a b : Int} (h : wide a = wide b) : a = b := by rw [← wv_wide a, h, wv_wide]
theorem shr63 (n : Int) (h : -9223372036854775808 ≤ n ∧ n ≤ 9223372036854775807) : n.fdiv (2 ^ min (Int.toNat 63) IntKind.i64.bits) = n / 18446744073709551616 := by
  have e : (2 : Int) ^ min (Int.toNat 63) IntKind.i64.bits = 9223372036854775808 := by decide +kernel
  rw [e, Int.fdiv_eq_ediv_of_nonneg _ (by omega)]; omega
def fit (z : Int) : WideWide' × Int × Unit := if In128 z then (wide z, 0, ()) else ((0, 0, ()), 7, ())
def I64 (n : Int) : Prop := -9223372036854775808 ≤ n ∧ n ≤ 9223372036854775807
theorem i64_128 {n : Int} (h : I64 n) : In128 n := by unfold I64 at h; unfold In128; omega
theorem r_wOf (n : Int) (h : I64 n) : wide_Of n = some (wide n) := by
  show wide_OfW stdW n = _
  unfold wide_OfW
  rw [nn_w (by omega), shr63 n h, IntKind.wrap_u64]; rfl
/-! a running sum -/
def totT (V : Int) : Int × Int × Int × Unit := (V / 340282366920938463463374607431768211456, IntKind.i64.wrap (V / 18446744073709551616), V % 18446744073709551616, ())
def InTot (V : Int) : Prop := -1569275433846670190958947355801916604025588861116008628224 ≤ V ∧ V < 1569275433846670190958947355801916604025588861116008628224
theorem wrap_wrap_u (z : Int) : IntKind.u64.wrap (IntKind.i64.wrap z) = z % 18446744073709551616 := by
  rw [IntKind.wrap_u64, IntKind.wrap_i64]; omega
theorem wrap_mod_i (z : Int) : IntKind.i64.wrap (z % 18446744073709551616) = IntKind.i64.wrap z := by
  rw [IntKind.wrap_i64, IntKind.wrap_i64]; omega
theorem tot_next (V x y : Int) (hV : InTot V) (hx : -9223372036854775808 ≤ x ∧ x ≤ 9223372036854775807) (hy : 0 ≤ y ∧ y < 18446744073709551616) :
    ((IntKind.i64.wrap (V / 340282366920938463463374607431768211456 + IntKind.i64.wrap (x.fdiv (2 ^ min (Int.toNat 63) IntKind.i64.bits) + IntKind.i64.wrap ((IntKind.u64.wrap (IntKind.i64.wrap (V / 18446744073709551616)) + IntKind.u64.wrap x + (V % 18446744073709551616 + y + 0) / 18446744073709551616) / 18446744073709551616))),
      IntKind.i64.wrap ((IntKind.u64.wrap (IntKind.i64.wrap (V / 18446744073709551616)) + IntKind.u64.wrap x + (V % 18446744073709551616 + y + 0) / 18446744073709551616) % 18446744073709551616),
      (V % 18446744073709551616 + y + 0) % 18446744073709551616, ()) : Int × Int × Int × Unit) = totT (V + (x * 18446744073709551616 + y)) := by
  unfold InTot at hV
  rw [wrap_wrap_u, wrap_mod_i, shr63 x hx, IntKind.wrap_u64]
  have e1 : (V + (x * 18446744073709551616 + y)) / 18446744073709551616 = V / 18446744073709551616 + x + (V % 18446744073709551616 + y + 0) / 18446744073709551616 := by omega
  have e0 : (V + (x * 18446744073709551616 + y)) / 340282366920938463463374607431768211456 = (V / 18446744073709551616 + x + (V % 18446744073709551616 + y + 0) / 18446744073709551616) / 18446744073709551616 := by omega
  have e3 : V / 340282366920938463463374607431768211456 = V / 18446744073709551616 / 18446744073709551616 := by omega
  unfold totT
  rw [e1, e0, e3]
  have hc : 0 ≤ (V % 18446744073709551616 + y + 0) / 18446744073709551616 ∧ (V % 18446744073709551616 + y + 0) / 18446744073709551616 ≤ 1 := by omega
  generalize (V % 18446744073709551616 + y + 0) / 18446744073709551616 = c at *
  have hu : -92233720368547758080000000000000000000 ≤ V / 18446744073709551616 ∧ V / 18446744073709551616 < 92233720368547758080000000000000000000 := by omega
  generalize V / 18446744073709551616 = u at *
  have f1 : (V + (x * 18446744073709551616 + y)) % 18446744073709551616 = (V % 18446744073709551616 + y + 0) % 18446744073709551616 := by omega
  rw [f1]
  have g2 : (u % 18446744073709551616 + x % 18446744073709551616 + c) / 18446744073709551616 ≤ 2 ∧ 0 ≤ (u % 18446744073709551616 + x % 18446744073709551616 + c) / 18446744073709551616 := by omega
  have g1 : IntKind.i64.wrap ((u % 18446744073709551616 + x % 18446744073709551616 + c) / 18446744073709551616) = (u % 18446744073709551616 + x % 18446744073709551616 + c) / 18446744073709551616 := IntWalk.i64_in _ (by omega)
  rw [g1]
  have g3 : IntKind.i64.wrap (x / 18446744073709551616 + (u % 18446744073709551616 + x % 18446744073709551616 + c) / 18446744073709551616) = x / 18446744073709551616 + (u % 18446744073709551616 + x % 18446744073709551616 + c) / 18446744073709551616 := IntWalk.i64_in _ (by omega)
  rw [g3]
  have g4 : u / 18446744073709551616 + (x / 18446744073709551616 + (u % 18446744073709551616 + x % 18446744073709551616 + c) / 18446744073709551616) = (u + x + c) / 18446744073709551616 := by omega
  rw [g4]
  have g5 : IntKind.i64.wrap ((u + x + c) / 18446744073709551616) = (u + x + c) / 18446744073709551616 := IntWalk.i64_in _ (by omega)
  rw [g5]
  have g6 : IntKind.i64.wrap (u % 18446744073709551616 + x % 18446744073709551616 + c) = IntKind.i64.wrap (u + x + c) := by rw [IntKind.wrap_i64, IntKind.wrap_i64]; omega
  rw [g6]
theorem add64_is {x y c : Int} (hx : 0 ≤ x) (hy : 0 ≤ y) (hc0 : 0 ≤ c) (hc : c ≤ 1) : add64 x y c = some ((x + y + c) % 18446744073709551616, (x + y + c) / 18446744073709551616, ()) := by unfold add64; rw [if_pos ⟨hx, hy, hc0, hc⟩]
theorem sub64_is {x y b : Int} (hx : 0 ≤ x) (hy : 0 ≤ y) (hy2 : y < 18446744073709551616) (hb0 : 0 ≤ b) (hb : b ≤ 1) : sub64 x y b = some ((x - y - b) % 18446744073709551616, if x < y + b then 1 else 0, ()) := by unfold sub64; rw [if_pos ⟨hx, hy, hy2, hb0, hb⟩]
theorem r_tadd (V : Int) (x : WideWide') (hV : InTot V) (hx : wOk x) : wide_total_add x (totT V).1 (totT V).2.1 (totT V).2.2.1 = some ((), totT (V + wv x)) := by
  unfold wOk at hx
  show wide_total_addW stdW x (V / 340282366920938463463374607431768211456) (IntKind.i64.wrap (V / 18446744073709551616)) (V % 18446744073709551616) = _
  unfold wide_total_addW wv
  rw [← tot_next V x.1 x.2.1 hV hx.1 hx.2]
  have hV' := hV
  unfold InTot at hV'
  rw [call_eq (add64_is (by omega) (by omega) (by omega) (by omega)), call_eq (add64_is (by rw [IntKind.wrap_u64]; omega) (by rw [IntKind.wrap_u64]; omega) (by show 0 ≤ (V % 18446744073709551616 + x.2.1 + 0) / 18446744073709551616; omega) (by show (V % 18446744073709551616 + x.2.1 + 0) / 18446744073709551616 ≤ 1; omega)), nn_w (by omega)]
theorem tot_fits (V : Int) (hV : InTot V) : (V / 340282366920938463463374607431768211456 == (IntKind.i64.wrap (V / 18446744073709551616)).fdiv (2 ^ min (Int.toNat 63) IntKind.i64.bits)) = decide (In128 V) := by
  have hr : -9223372036854775808 ≤ IntKind.i64.wrap (V / 18446744073709551616) ∧ IntKind.i64.wrap (V / 18446744073709551616) ≤ 9223372036854775807 := by
    rw [IntKind.wrap_i64]; omega
  rw [shr63 _ hr]
  unfold InTot at hV
  by_cases h : In128 V
  · rw [decide_eq_true h]
    unfold In128 at h
    rw [IntWalk.i64_in _ (by omega)]
    first | (simp; done) | (simp; omega) | skip
  · rw [decide_eq_false h]
    unfold In128 at h
    rw [IntKind.wrap_i64]
    simp; omega
theorem r_ranged (w : WideWide') (ok : Bool) : wide_ranged w ok = some (if ok = true then (w, 0, ()) else ((0, 0, ()), 7, ())) := by
  show wide_rangedW stdW w ok = _
  unfold wide_rangedW
  cases ok <;> rfl
theorem r_tdone (V : Int) (hV : InTot V) : wide_total_done (totT V).1 (totT V).2.1 (totT V).2.2.1 = some (fit V, totT V) := by
  show wide_total_doneW stdW _ _ _ = _
  unfold wide_total_doneW
  rw [nn_w (by omega), call_eq (r_ranged _ _)]
  have := tot_fits V hV
  show some ((if (V / 340282366920938463463374607431768211456 == (IntKind.i64.wrap (V / 18446744073709551616)).fdiv (2 ^ min (Int.toNat 63) IntKind.i64.bits)) = true then _ else _), _) = _
  rw [this]
  unfold fit
  by_cases h : In128 V
  · rw [if_pos (decide_eq_true h), if_pos h]
    have e : IntKind.i64.wrap (V / 18446744073709551616) = V / 18446744073709551616 := by unfold In128 at h; exact IntWalk.i64_in _ (by omega)
    show some (((IntKind.i64.wrap (V / 18446744073709551616), V % 18446744073709551616, ()), 0, ()), _) = _
    rw [e]; rfl
  · rw [decide_eq_false h, if_neg (by simp), if_neg h]
def sumW (l : List WideWide') : Int := (l.map wv).sum
theorem sumW_in : ∀ (l : List WideWide'), (∀ w ∈ l, wOk w) → -(170141183460469231731687303715884105728 * (l.length : Int)) ≤ sumW l ∧ sumW l ≤ 170141183460469231731687303715884105728 * (l.length : Int)
  | [], _ => by simp [sumW]
  | x :: l, h => by
    have h1 := wv_in x (h x (by simp))
    have h2 := sumW_in l fun w hw => h w (by simp [hw])
    unfold In128 at h1
    simp only [sumW, List.map_cons, List.sum_cons, List.length_cons] at h2 ⊢
    omega
theorem sumW_tot (l : List WideWide') (h : ∀ w ∈ l, wOk w) (hl : l.length < 9223372036854775807) : InTot (sumW l) := by
  have := sumW_in l h
  unfold InTot; omega
theorem sumW_app (a b : List WideWide') : sumW (a ++ b) = sumW a + sumW b := by unfold sumW; simp
theorem sumW_one (a : WideWide') : sumW [a] = wv a := by unfold sumW; simp
theorem sumW_take (l : List WideWide') (i : Nat) (h : i < l.length) : sumW (l.take (i + 1)) = sumW (l.take i) + wv l[i] := by
  rw [show l.take (i + 1) = l.take i ++ [l[i]] by simp, sumW_app, sumW_one]
theorem r_wAdd (l : List WideWide') (h : ∀ w ∈ l, wOk w) (hl : l.length < 9223372036854775807) : wide_Add l = some (fit (sumW l)) := by
  show wide_AddW stdW l = _
  unfold wide_AddW
  refine loop_list (l := l) (by omega) (fun i s => s = totT (sumW (l.take i))) (fun _ _ => some (fit (sumW l))) (by simp [sumW]; rfl) ?_ ?_
  · rintro _ again rfl
    rw [List.take_length, cnd_end, call_eq (r_tdone _ (sumW_tot l h hl))]
  · rintro i hi _ rfl again ha
    rw [cnd_lt hi, idx_w hi, call_eq (r_tadd _ _ (sumW_tot _ (fun w hw => h w (List.mem_of_mem_take hw)) (by rw [List.length_take]; omega)) (h _ (List.getElem_mem hi)))]
    dsimp only
    rw [i64_s i (by omega)]
    exact ha _ (by rw [sumW_take l i hi])
end Go.Proofs.Ytbpbkmngbhgpfaa

namespace Go.Proofs.Ytbpbkmngbhgpfaa
open Go Go.Vc Go.RowKit
/-! ### numbers without bounds: the reference's -/
end Go.Proofs.Ytbpbkmngbhgpfaa

namespace Go.Proofs.Ytbpbkmngbhgpfaa
open Go Go.Vc Go.RowKit
/-! ### numbers: what fits, what it is -/
instance (z : Int) : Decidable (I64 z) := by unfold I64; infer_instance
/-! 64 bits of 128 -/
def fits64 (z : Int) : Int × Int × Unit := if I64 z then (z, 0, ()) else (0, 7, ())
theorem nif_t (c : Bool) : notIf true c = !c := by cases c <;> rfl
theorem nif_f (c : Bool) : notIf false c = c := by cases c <;> rfl
theorem r_wInt {z : Int} (h : In128 z) : wide_Int (wide z) = some (fits64 z) := by
  show wide_IntW stdW (wide z) = _
  unfold wide_IntW
  have hw : IntKind.i64.wrap (wide z).2.1 = IntKind.i64.wrap z := wrap_mod_i z
  have hI : I64 (IntKind.i64.wrap z) := by unfold I64; rw [IntKind.wrap_i64]; omega
  rw [hw, call_eq (r_wOf _ hI), nif_t]
  unfold fits64
  by_cases hz : I64 z
  · have e : IntKind.i64.wrap z = z := by unfold I64 at hz; exact IntWalk.i64_in _ (by omega)
    rw [if_pos hz, e, cnd_n (by simp)]
  · rw [if_neg hz, cnd_y ?_]
    rw [Bool.not_eq_true']
    cases hc : ((wide (IntKind.i64.wrap z)).1 == (wide z).1 && (wide (IntKind.i64.wrap z)).2.1 == (wide z).2.1) with
    | false => rfl
    | true =>
      simp only [Bool.and_eq_true, beq_iff_eq] at hc
      have : wide (IntKind.i64.wrap z) = wide z := Prod.ext hc.1 (Prod.ext hc.2 rfl)
      exact absurd (wide_inj this ▸ hI) hz
theorem r_narrow0 {z : Int} (h : In128 z) : fix_narrow (wide z) 0 = some (fits64 z) := by
  show fix_narrowW stdW (wide z) 0 = _
  unfold fix_narrowW
  rw [cnd_n (by decide), call_eq (r_wInt h)]
theorem sum_in {l : List Int} (h : ∀ x ∈ l, I64 x) : -(9223372036854775808 * (l.length : Int)) ≤ l.sum ∧ l.sum ≤ 9223372036854775808 * (l.length : Int) := by
  have := sumBy_in (f := fun x : Int => x) (B := 9223372036854775808) (l := l) (fun x hx => by have := h x hx; unfold I64 at this; omega)
  simpa [sumBy] using this
theorem sumW_wide (l : List Int) : sumW (l.map wide) = l.sum := by
  unfold sumW
  rw [List.map_map]
  have : (wv ∘ wide) = id := funext wv_wide
  rw [this, List.map_id]
theorem wides_ok {l : List Int} (h : ∀ x ∈ l, I64 x) : ∀ w ∈ l.map wide, wOk w := by
  intro w hw
  obtain ⟨x, hx, rfl⟩ := List.mem_map.1 hw
  exact wide_ok _ (i64_128 (h x hx))
theorem sum128 {l : List Int} (h : ∀ x ∈ l, I64 x) (hl : l.length ≤ 1000000) : In128 l.sum := by
  have := sum_in h; unfold In128; omega
theorem r_wSum {l : List Int} (h : ∀ x ∈ l, I64 x) (hl : l.length ≤ 1000000) : wide_Add (l.map wide) = some (wide l.sum, 0, ()) := by
  rw [r_wAdd _ (wides_ok h) (by rw [List.length_map]; omega), sumW_wide]
  unfold fit; rw [if_pos (sum128 h hl)]
theorem r_fSum {l : List Int} (h : ∀ x ∈ l, I64 x) (hl : l.length ≤ 1000000) : fix_Sum l = some (fits64 l.sum) := by
  show fix_SumW stdW l = _
  unfold fix_SumW
  rw [nn_w (by omega), room_w (by simp; omega) (by simp; omega)]
  refine loop_n (N := l.length) (by omega) (fun i s => s = ((l.take i).map wide, ())) (some (fits64 l.sum)) rfl ?_ ?_
  · rintro _ again rfl
    rw [cnd_end, List.take_length, call_eq (r_wSum h hl), call_eq (r_narrow0 (sum128 h hl))]
  · rintro i hi _ rfl again ha
    rw [cnd_lt hi, idx_w hi, call_eq (r_wOf _ (h _ (List.getElem_mem hi))), i64_s i (by omega), room_w (by simp; omega) (by simp; omega)]
    refine ha _ ?_
    rw [List.take_succ_eq_append_getElem hi, List.map_append]; rfl
end Go.Proofs.Ytbpbkmngbhgpfaa

namespace Go.Proofs.Ytbpbkmngbhgpfaa
open Go Go.Vc Go.RowKit
theorem join_g {X β : Type} {k0 : X → Option β} {f : (X → Option β) → Option β} {r : Option β} (h : ∀ k, k = k0 → f k = r) : stdW.join k0 f = r := h k0 rfl
/-! ### purses: which are, what each unit has, what there is in all -/
theorem r_lessA (a b : AUnit') : acct_Less a b = some (decide (ltA a b)) := by
  show acct_LessW stdW a b = _
  unfold acct_LessW
  by_cases h : a.1 = b.1
  · rw [cnd_n (by simp [h])]
    congr 1; refine decide_eq_decide.2 ?_; unfold ltA; omega
  · rw [cnd_y (by simp [h])]
    congr 1; refine decide_eq_decide.2 ?_; unfold ltA; omega
def PInv (l : List AFlow') : Prop := (∀ x ∈ l, x.2.1 ≠ 0) ∧ SrtA (l.map (·.1))
instance (l : List AFlow') : Decidable (PInv l) := by unfold PInv SrtA; infer_instance
def isP (l : List AFlow') : Bool := decide (PInv l)
theorem isP_bad0 {l : List AFlow'} {i : Nat} (hi : i < l.length) (h : l[i].2.1 = 0) : isP l = false :=
  decide_eq_false fun hp => hp.1 _ (List.getElem_mem hi) h
theorem isP_bad1 {l : List AFlow'} {i : Nat} (hi : i < l.length) (h0 : 0 < i) (h : ¬ ltA (l[i - 1]'(by omega)).1 l[i].1) : isP l = false :=
  decide_eq_false fun hp => h (by
    have := List.pairwise_iff_getElem.1 hp.2 (i - 1) i (by simp; omega) (by simpa using hi) (by omega)
    simpa using this)
theorem isP_next {l : List AFlow'} {i : Nat} (hi : i < l.length) (inv : PInv (l.take i)) (h1 : l[i].2.1 ≠ 0) (h2 : ∀ h0 : 0 < i, ltA (l[i - 1]'(by omega)).1 l[i].1) : PInv (l.take (i + 1)) := by
  rw [List.take_succ_eq_append_getElem hi]
  refine ⟨fun x hx => ?_, ?_⟩
  · rcases List.mem_append.1 hx with hx | hx
    · exact inv.1 x hx
    · simp at hx; rw [hx]; exact h1
  · show SrtA ((l.take i ++ [l[i]]).map (·.1))
    rw [List.map_append]
    refine List.pairwise_append.2 ⟨inv.2, by simp, fun a ha b hb => ?_⟩
    simp only [List.map_cons, List.map_nil, List.mem_singleton] at hb
    subst hb
    obtain ⟨k, hk, hka⟩ := List.mem_iff_getElem.1 ha
    have hk' : k < i := by simp at hk; omega
    have h3 := h2 (by omega)
    by_cases hki : k = i - 1
    · subst hki; rw [← hka]; simpa using h3
    · have h4 := List.pairwise_iff_getElem.1 inv.2 k (i - 1) (by simpa using hk) (by simp; omega) (by omega)
      rw [hka] at h4
      refine ltA_tr h4 ?_
      simpa using h3
theorem isP_end {l : List AFlow'} (h : PInv (l.take l.length)) : isP l = true := by rw [List.take_length] at h; exact decide_eq_true h
theorem r_is {l : List AFlow'} (hl : l.length ≤ 1000000) : purse_Is l = some (isP l) := by
  show purse_IsW stdW l = _
  unfold purse_IsW
  refine loop_n (N := l.length) (by omega) (fun i _ => PInv (l.take i)) (some (isP l)) (by simp [PInv]) ?_ ?_
  · rintro _ again h
    rw [cnd_end, isP_end h]
  · rintro i hi _ inv again ha
    rw [cnd_lt hi, idx_w hi]
    refine join_g fun k hk => ?_
    have kt : k (true, ()) = some false := by subst hk; rfl
    have kf : k (false, ()) = again (((i + 1 : Nat) : Int), ()) := by rw [← i64_s i (by omega)]; subst hk; rfl
    clear hk
    by_cases h1 : l[i].2.1 = 0
    · rw [cnd_y (by simpa using h1), kt, isP_bad0 hi h1]
    · rw [cnd_n (by simpa using h1)]
      by_cases h0 : 0 < i
      · rw [cnd_y (decide_eq_true (by omega)), i64_pred i h0 (by rw [maxLen_eq]; omega), idx_w (by omega), call_eq (r_lessA _ _)]
        by_cases h2 : ltA (l[i - 1]'(by omega)).1 l[i].1
        · rw [decide_eq_true h2]
          exact kf.trans (ha _ (isP_next hi inv h1 fun _ => h2))
        · rw [decide_eq_false h2, isP_bad1 hi h0 h2]; exact kt
      · rw [cnd_n (decide_eq_false (by omega))]
        exact kf.trans (ha _ (isP_next hi inv h1 fun h => absurd h h0))
theorem eqA (a b : AUnit') : (a.1 == b.1 && a.2.1 == b.2.1) = decide (a = b) := by
  by_cases h : a = b
  · subst h; simp
  · rw [decide_eq_false h]
    cases hc : (a.1 == b.1 && a.2.1 == b.2.1) with
    | false => rfl
    | true => simp only [Bool.and_eq_true, beq_iff_eq] at hc; exact absurd (extA hc.1 hc.2) h
def getP : List AFlow' → AUnit' → Int
  | [], _ => 0
  | x :: l, u => if x.1 = u then x.2.1 else getP l u
theorem r_get {l : List AFlow'} {u : AUnit'} (hl : l.length ≤ 1000000) : purse_Get l u = some (getP l u) := by
  show purse_GetW stdW l u = _
  unfold purse_GetW
  refine loop_list (l := l) (by omega) (fun _ _ => True) (fun l _ => some (getP l u)) trivial ?_ ?_
  · rintro _ again _
    rw [cnd_end]; rfl
  · rintro i hi _ _ again ha
    rw [cnd_lt hi, idx_w hi, nif_f, eqA]
    unfold getP
    by_cases h : l[i].1 = u
    · rw [cnd_y (decide_eq_true h), if_pos h]
    · rw [cnd_n (decide_eq_false h), if_neg h, i64_s i (by omega)]
      exact ha _ trivial
def amt (x : AFlow') : Int := x.2.1
def okF (l : List AFlow') : Prop := ∀ x ∈ l, I64 (amt x)
theorem okF.amts {l : List AFlow'} (h : okF l) : ∀ x ∈ l.map amt, I64 x := by
  intro x hx; obtain ⟨y, hy, rfl⟩ := List.mem_map.1 hx; exact h y hy
theorem r_total {l : List AFlow'} (h : okF l) (hl : l.length ≤ 1000000) : purse_Total l = some (wide (sumBy amt l)) := by
  show purse_TotalW stdW l = _
  unfold purse_TotalW
  refine loop_n (N := l.length) (by omega) (fun i s => s = (((l.take i).map amt).map wide, ())) (some (wide (sumBy amt l))) rfl ?_ ?_
  · rintro _ again rfl
    rw [cnd_end, List.take_length, call_eq (r_wSum h.amts (by simpa using hl))]; rfl
  · rintro i hi _ rfl again ha
    rw [cnd_lt hi, idx_w hi, call_eq (r_wOf l[i].2.1 (h _ (List.getElem_mem hi))), i64_s i (by omega), room_w (by simp; omega) (by simp; omega)]
    refine ha _ ?_
    rw [List.take_succ_eq_append_getElem hi, List.map_append, List.map_append]; rfl
theorem okF.take {l : List AFlow'} (h : okF l) (i : Nat) : okF (l.take i) := fun x hx => h x (List.mem_of_mem_take hx)
end Go.Proofs.Ytbpbkmngbhgpfaa

namespace Go.Proofs.Ytbpbkmngbhgpfaa
open Go Go.Vc Go.RowKit
/-! ### a purse behind some flows -/
def ofFlow (u : AUnit') (x : AFlow') : Bool := decide (x.1 = u)
def amts (l : List AFlow') (u : AUnit') : List Int := (l.filter (ofFlow u)).map amt
def sumU (l : List AFlow') (u : AUnit') : Int := (amts l u).sum
theorem amts_len (l : List AFlow') (u : AUnit') : (amts l u).length ≤ l.length := by
  unfold amts; rw [List.length_map]; exact List.length_filter_le _ _
theorem amts_ok {l : List AFlow'} (h : okF l) (u : AUnit') : ∀ x ∈ amts l u, I64 x := by
  intro x hx
  obtain ⟨y, hy, rfl⟩ := List.mem_map.1 hx
  exact h y (List.mem_filter.1 hy).1
theorem amts_take (l : List AFlow') (u : AUnit') (i : Nat) (h : i < l.length) : amts (l.take (i + 1)) u = amts (l.take i) u ++ (if l[i].1 = u then [l[i].2.1] else []) := by
  unfold amts
  rw [filter_take _ _ _ h, List.map_append]
  unfold ofFlow
  by_cases hu : l[i].1 = u <;> simp [hu, amt]
theorem r_amounts {l : List AFlow'} {u : AUnit'} (hl : l.length ≤ 1000000) : purse_amounts l u = some (amts l u) := by
  show purse_amountsW stdW l u = _
  unfold purse_amountsW
  refine loop_n (N := l.length) (by omega) (fun i s => s = (amts (l.take i) u, ())) (some (amts l u)) rfl ?_ ?_
  · rintro _ again rfl
    rw [cnd_end, List.take_length]
  · rintro i hi _ rfl again ha
    rw [cnd_lt hi]
    refine join_g fun k hk => ?_
    have kk : ∀ v : List Int, k (v, ()) = again (((i + 1 : Nat) : Int), (v, ())) := by intro v; rw [← i64_s i (by omega)]; subst hk; rfl
    clear hk
    have hlen := amts_len (l.take i) u
    rw [List.length_take] at hlen
    rw [idx_w hi, nif_f, eqA]
    by_cases h : l[i].1 = u
    · rw [cnd_y (decide_eq_true h), room_w (by simp; omega) (by simp; omega), kk]
      refine ha _ ?_
      rw [amts_take _ _ _ hi, if_pos h]
    · rw [cnd_n (decide_eq_false h), kk]
      refine ha _ ?_
      rw [amts_take _ _ _ hi, if_neg h, List.append_nil]
def payGo (all : List AFlow') : List AUnit' → List AFlow' → List AFlow' × Int × Unit
  | [], acc => (acc, 0, ())
  | u :: us, acc => if I64 (sumU all u) then (if sumU all u ≠ 0 then payGo all us (acc ++ [(u, sumU all u, ())]) else payGo all us acc) else ([], 7, ())
def payP (l fl : List AFlow') : List AFlow' × Int × Unit := if isP l = true then payGo (l ++ fl) (unitsOf (l ++ fl)) [] else ([], 3, ())
theorem units_len (l : List AFlow') : (unitsOf l).length ≤ l.length := by
  unfold unitsOf
  rw [List.length_map, srt_len]
  exact Nat.le_trans (uniq_len _) (by simp)
theorem r_pay {l fl : List AFlow'} (h : okF l) (hf : okF fl) (hl : l.length + fl.length ≤ 1000000) : purse_Pay l fl = some (payP l fl) := by
  show purse_PayW stdW l fl = _
  unfold purse_PayW payP
  rw [call_eq (r_is (by omega))]
  by_cases hp : isP l = true
  · rw [hp, cnd_n (by decide), if_pos rfl]
    have hall : okF (l ++ fl) := fun x hx => (List.mem_append.1 hx).elim (h x) (hf x)
    have e1 : concatO (l :: (fl :: [])) = some (l ++ fl) := by
      unfold concatO
      rw [show (l :: (fl :: [])).flatten = l ++ fl by simp, if_pos (by rw [List.length_append]; omega)]
    have hlen : (l ++ fl).length ≤ 1000000 := by rw [List.length_append]; exact hl
    have e2 : namedO (l ++ fl) = some (unitsOf (l ++ fl)) := by unfold namedO; rw [if_pos (by omega)]
    rw [call_eq e1, call_eq e2]
    have hul := units_len (l ++ fl)
    generalize l ++ fl = all at *
    generalize unitsOf all = us at *
    refine loop_list (l := us) (by omega) (fun i (s : List AUnit' × List AFlow' × Unit) => s.1 = us ∧ s.2.1.length ≤ i) (fun us' (s : List AUnit' × List AFlow' × Unit) => some (payGo all us' s.2.1)) ⟨rfl, Nat.le_refl _⟩ ?_ ?_
    · rintro ⟨_, acc, ⟨⟩⟩ again ⟨rfl, _⟩
      rw [cnd_end]; rfl
    · rintro i hi ⟨us', acc, ⟨⟩⟩ ⟨hus, hacc⟩ again ha
      have hus : us = us' := hus.symm
      subst hus
      simp only at hacc
      rw [cnd_lt hi]
      refine join_g fun k hk => ?_
      have kk : ∀ v : List AFlow', k (us, (v, ())) = again (((i + 1 : Nat) : Int), (us, (v, ()))) := by intro v; rw [← i64_s i (by omega)]; subst hk; rfl
      clear hk
      show stdW.idx us (i : Int) _ = _
      rw [idx_w hi]
      show stdW.nth us (Int.toNat (i : Int)) _ = _
      rw [nth_w hi, call_eq (r_amounts hlen)]
      show _ = some (payGo all (us[i] :: us.drop (i + 1)) acc)
      rw [payGo]
      have e3 := r_fSum (amts_ok hall us[i]) (Nat.le_trans (amts_len _ _) hlen)
      change fix_Sum (amts all us[i]) = some (if I64 (sumU all us[i]) then (sumU all us[i], 0, ()) else (0, 7, ())) at e3
      by_cases hI : I64 (sumU all us[i])
      · rw [if_pos hI] at e3
        rw [if_pos hI, call_eq e3]
        show stdW.cnd ((0 : Int) != 0) _ (stdW.cnd (sumU all us[i] != 0) (stdW.room (acc.length + 1) 24 (k (us, (acc ++ [(us[i], sumU all us[i], ())], ())))) (k (us, (acc, ())))) = _
        rw [cnd_n (by decide)]
        by_cases h0 : sumU all us[i] = 0
        · rw [if_neg (by simp [h0]), cnd_n (by simp [h0])]
          exact (kk acc).trans (ha _ ⟨rfl, by simp only; omega⟩)
        · rw [if_pos h0, cnd_y (by simp [h0]), room_w (by omega) (by omega)]
          exact (kk (acc ++ [(us[i], sumU all us[i], ())])).trans (ha _ ⟨rfl, by simp; omega⟩)
      · rw [if_neg hI] at e3
        rw [if_neg hI, call_eq e3]
        show stdW.cnd ((7 : Int) != 0) (some ([], (7, ()))) _ = _
        rw [cnd_y (by decide)]
  · have hp : isP l = false := by simpa using hp
    rw [hp, cnd_y (by decide), if_neg (by simp)]
end Go.Proofs.Ytbpbkmngbhgpfaa

namespace Go.Proofs.Ytbpbkmngbhgpfaa
open Go Go.Vc Go.RowKit
/-! ### flows may come in any order -/
theorem eqF (a b : AFlow') : (a.1.1 == b.1.1 && (a.1.2.1 == b.1.2.1 && a.2.1 == b.2.1)) = decide (a = b) := by
  by_cases h : a = b
  · subst h; simp
  · rw [decide_eq_false h]
    cases hc : (a.1.1 == b.1.1 && (a.1.2.1 == b.1.2.1 && a.2.1 == b.2.1)) with
    | false => rfl
    | true =>
      simp only [Bool.and_eq_true, beq_iff_eq] at hc
      exact absurd (Prod.ext (extA hc.1 hc.2.1) (Prod.ext hc.2.2 rfl)) h
theorem r_same {a : List AFlow'} (hl : a.length ≤ 1000000) : ref17_Same a a = some true := by
  show ref17_SameW stdW a a = _
  unfold ref17_SameW
  rw [cnd_n (by simp)]
  refine loop_n (N := a.length) (by omega) (fun _ _ => True) (some true) trivial ?_ ?_
  · rintro _ again _
    rw [cnd_end]
  · rintro i hi _ _ again ha
    rw [cnd_lt hi, idx_w hi, idx_w hi, nif_t, eqF, cnd_n (by simp), i64_s i (by omega)]
    exact ha _ trivial
theorem payGo_len (all : List AFlow') : ∀ (us : List AUnit') (acc : List AFlow'), (payGo all us acc).1.length ≤ acc.length + us.length
  | [], acc => by simp [payGo]
  | u :: us, acc => by
    unfold payGo
    split
    · split
      · have := payGo_len all us (acc ++ [(u, sumU all u, ())]); simp at this ⊢; omega
      · have := payGo_len all us acc; simp at this ⊢; omega
    · simp
theorem payP_len (l f : List AFlow') : (payP l f).1.length ≤ l.length + f.length := by
  unfold payP
  split
  · have := payGo_len (l ++ f) (unitsOf (l ++ f)) []
    have h2 := units_len (l ++ f)
    simp at this h2 ⊢; omega
  · simp
theorem r_few17 (l : List AFlow') (hl : l.length ≤ 9223372036854775807) : law17_Few l = some (l.take 20) := by
  show law17_FewW stdW l = _
  unfold law17_FewW
  by_cases h : 20 < l.length
  · rw [cnd_y (decide_eq_true (by omega)), bnd_w (by omega) (by omega)]; rfl
  · rw [cnd_n (decide_eq_false (by omega)), List.take_of_length_le (by omega)]
end Go.Proofs.Ytbpbkmngbhgpfaa

namespace Go.Proofs.Ytbpbkmngbhgpfaa
open Go Go.Vc Go.RowKit
/-- a loop whose state is known round by round -/
theorem loop_at {X β : Type} {N : Nat} (hN : N < 9223372036854775808) {f : X → (X → Option β) → Option β} (st : Nat → X) (r : Option β)
    (hend : ∀ again : X → Option β, f (st N) again = r) (hstep : ∀ i, i < N → ∀ again : X → Option β, again (st (i + 1)) = r → f (st i) again = r) : stdW.loop f (st 0) = r := by
  have key : ∀ n i, i ≤ N → N - i < n → loopF n f (st i) = r := by
    intro n
    induction n with
    | zero => intro i _ h; omega
    | succ n ih =>
      intro i hi hn
      show f (st i) (loopF n f) = r
      by_cases h : i < N
      · exact hstep i h _ (ih (i + 1) (by omega) (by omega))
      · have : i = N := by omega
        subst this; exact hend _
  show loopF FU f (st 0) = r
  exact key FU 0 (Nat.zero_le _) (by rw [FU_eq]; omega)
/-! ### the reference's units -/
end Go.Proofs.Ytbpbkmngbhgpfaa

namespace Go.Proofs.Ytbpbkmngbhgpfaa
open Go Go.Vc Go.RowKit
theorem loop_az {X β : Type} {N : Nat} (hN : N < 9223372036854775808) {f : X → (X → Option β) → Option β} (st : Nat → X) (r : Option β) {z0 : X} (hz : z0 = st 0)
    (hend : ∀ again : X → Option β, f (st N) again = r) (hstep : ∀ i, i < N → ∀ again : X → Option β, again (st (i + 1)) = r → f (st i) again = r) : stdW.loop f z0 = r := by
  subst hz; exact loop_at hN st r hend hstep
/-! ### the reference's purse behind some flows -/
end Go.Proofs.Ytbpbkmngbhgpfaa

namespace Go.Proofs.Ytbpbkmngbhgpfaa
open Go Go.Vc Go.RowKit
/-! ### what a payment leaves -/
theorem payGo_ok (all : List AFlow') : ∀ (us : List AUnit') (acc : List AFlow'), (payGo all us acc).2.1 = 0 →
    (payGo all us acc).1 = acc ++ (us.filter fun u => decide (sumU all u ≠ 0)).map (fun u => (u, sumU all u, ())) ∧ ∀ u ∈ us, I64 (sumU all u)
  | [], acc, _ => by simp [payGo]
  | u :: us, acc, h => by
    unfold payGo at h ⊢
    by_cases hI : I64 (sumU all u)
    · rw [if_pos hI] at h ⊢
      by_cases h0 : sumU all u ≠ 0
      · rw [if_pos h0] at h ⊢
        obtain ⟨h1, h2⟩ := payGo_ok all us _ h
        refine ⟨?_, fun x hx => ?_⟩
        · rw [h1, List.filter_cons, if_pos (by simpa using h0)]; simp
        · rcases List.mem_cons.1 hx with rfl | hx
          · exact hI
          · exact h2 x hx
      · rw [if_neg h0] at h ⊢
        obtain ⟨h1, h2⟩ := payGo_ok all us _ h
        refine ⟨?_, fun x hx => ?_⟩
        · rw [h1, List.filter_cons, if_neg (by simpa using h0)]
        · rcases List.mem_cons.1 hx with rfl | hx
          · exact hI
          · exact h2 x hx
    · rw [if_neg hI] at h; simp at h
theorem sumU_cons (x : AFlow') (l : List AFlow') (u : AUnit') : sumU (x :: l) u = (if x.1 = u then amt x else 0) + sumU l u := by
  unfold sumU amts ofFlow
  rw [List.filter_cons]
  by_cases h : x.1 = u <;> simp [h]
theorem sumU_app (a b : List AFlow') (u : AUnit') : sumU (a ++ b) u = sumU a u + sumU b u := by
  unfold sumU amts; rw [List.filter_append, List.map_append, List.sum_append]
theorem sumU_none {l : List AFlow'} {u : AUnit'} (h : ∀ x ∈ l, x.1 ≠ u) : sumU l u = 0 := by
  induction l with
  | nil => rfl
  | cons x l ih => rw [sumU_cons, if_neg (h x (by simp)), ih fun y hy => h y (by simp [hy])]; rfl
theorem one_of {us : List AUnit'} (hn : us.Nodup) {v : AUnit'} (z : Int) : sumBy (fun u => if v = u then z else 0) us = if v ∈ us then z else 0 := by
  induction us with
  | nil => rfl
  | cons u us ih =>
    obtain ⟨h1, h2⟩ := List.nodup_cons.1 hn
    rw [sumBy_cons, ih h2]
    by_cases hv : v = u
    · subst hv; rw [if_pos rfl, if_neg h1, if_pos (by simp)]; omega
    · rw [if_neg hv]
      by_cases hm : v ∈ us
      · rw [if_pos hm, if_pos (by simp [hm])]; omega
      · rw [if_neg hm, if_neg (by simp [hm, hv])]; rfl
theorem sumBy_add {α : Type} (f g : α → Int) (l : List α) : sumBy (fun x => f x + g x) l = sumBy f l + sumBy g l := by
  induction l with
  | nil => rfl
  | cons x l ih => rw [sumBy_cons, sumBy_cons, sumBy_cons, ih]; omega
theorem sum_units : ∀ (l : List AFlow') {us : List AUnit'}, us.Nodup → (∀ x ∈ l, x.1 ∈ us) → sumBy (sumU l) us = sumBy amt l
  | [], us, _, _ => by
    have : ∀ us : List AUnit', sumBy (sumU []) us = 0 := by
      intro us; induction us with
      | nil => rfl
      | cons u us ih => rw [sumBy_cons, ih]; rfl
    rw [this]; rfl
  | x :: l, us, hn, h => by
    have e : sumU (x :: l) = fun u => (if x.1 = u then amt x else 0) + sumU l u := funext (sumU_cons x l)
    rw [e, sumBy_add, one_of hn, if_pos (h x (by simp)), sum_units l hn fun y hy => h y (by simp [hy]), sumBy_cons]
def resP (all : List AFlow') (us : List AUnit') : List AFlow' := (us.filter fun u => decide (sumU all u ≠ 0)).map fun u => (u, sumU all u, ())
theorem srt_nd {us : List AUnit'} (h : SrtA us) : us.Nodup := List.Pairwise.imp (fun {a b} (hab : ltA a b) (e : a = b) => by subst e; exact ltA_irr _ hab) h
theorem resP_sum (all : List AFlow') : sumBy amt (resP all (unitsOf all)) = sumBy amt all := by
  have e : ∀ us : List AUnit', sumBy amt (resP all us) = sumBy (sumU all) us := by
    intro us
    induction us with
    | nil => rfl
    | cons u us ih =>
      unfold resP at ih ⊢
      rw [List.filter_cons, sumBy_cons, ← ih]
      by_cases h : sumU all u = 0
      · rw [if_neg (by simp [h]), h]; omega
      · rw [if_pos (by simp [h]), List.map_cons, sumBy_cons]; rfl
  rw [e, sum_units all (srt_nd (units_srt all)) fun x hx => (units_mem all x.1).2 ⟨x, hx, rfl⟩]
theorem resP_is {all : List AFlow'} {us : List AUnit'} (h : SrtA us) : isP (resP all us) = true := by
  refine decide_eq_true ⟨fun x hx => ?_, ?_⟩
  · obtain ⟨u, hu, rfl⟩ := List.mem_map.1 hx
    simpa using (List.mem_filter.1 hu).2
  · unfold resP
    rw [List.map_map]
    have : ((fun x : AFlow' => x.1) ∘ fun u => ((u, sumU all u, ()) : AFlow')) = id := rfl
    rw [this, List.map_id]
    exact h.filter _
theorem getP_none {l : List AFlow'} {u : AUnit'} (h : ∀ x ∈ l, x.1 ≠ u) : getP l u = 0 := by
  induction l with
  | nil => rfl
  | cons x l ih => rw [getP, if_neg (h x (by simp)), ih fun y hy => h y (by simp [hy])]
theorem getP_sum : ∀ {l : List AFlow'}, (l.map (·.1)).Nodup → ∀ u, getP l u = sumU l u
  | [], _, u => rfl
  | x :: l, h, u => by
    obtain ⟨h1, h2⟩ := List.nodup_cons.1 h
    rw [getP, sumU_cons]
    by_cases hu : x.1 = u
    · rw [if_pos hu, if_pos hu, sumU_none fun y hy e => h1 (List.mem_map.2 ⟨y, hy, e.trans hu.symm⟩)]
      show amt x = _; omega
    · rw [if_neg hu, if_neg hu, getP_sum h2]; omega
theorem isP_nd {l : List AFlow'} (h : isP l = true) : (l.map (·.1)).Nodup := srt_nd (of_decide_eq_true h).2
theorem resP_get (all : List AFlow') (u : AUnit') : getP (resP all (unitsOf all)) u = sumU all u := by
  by_cases h0 : sumU all u = 0
  · rw [h0]
    refine getP_none fun x hx e => ?_
    obtain ⟨v, hv, rfl⟩ := List.mem_map.1 hx
    have := (List.mem_filter.1 hv).2
    simp only [decide_eq_true_eq] at this
    exact this (by rw [show v = u from e]; exact h0)
  · rw [getP_sum (isP_nd (resP_is (units_srt all)))]
    have hu : u ∈ unitsOf all := by
      rw [units_mem]
      by_cases hx : ∃ x ∈ all, x.1 = u
      · exact hx
      · exact absurd (sumU_none fun x hx' e => hx ⟨x, hx', e⟩) h0
    have key : ∀ us : List AUnit', us.Nodup → sumU (resP all us) u = if u ∈ us then sumU all u else 0 := by
      intro us
      induction us with
      | nil => intro _; rfl
      | cons v us ih =>
        intro hn
        obtain ⟨h1, h2⟩ := List.nodup_cons.1 hn
        have ih := ih h2
        unfold resP at ih ⊢
        rw [List.filter_cons]
        by_cases hv : v = u
        · subst hv
          rw [if_pos (by simpa using h0), List.map_cons, sumU_cons, ih, if_neg h1, if_pos rfl, if_pos (by simp)]
          show sumU all v + 0 = _; omega
        · have e : (if u ∈ v :: us then sumU all u else 0) = if u ∈ us then sumU all u else 0 := by
            by_cases hm : u ∈ us
            · rw [if_pos hm, if_pos (by simp [hm])]
            · rw [if_neg hm, if_neg (by simp [hm, Ne.symm hv])]
          rw [e, ← ih]
          by_cases hz : sumU all v = 0
          · rw [if_neg (by simp [hz])]
          · rw [if_pos (by simp [hz]), List.map_cons, sumU_cons, if_neg hv]; omega
    rw [key _ (srt_nd (units_srt all)), if_pos hu]
end Go.Proofs.Ytbpbkmngbhgpfaa

namespace Go.Proofs.Ytbpbkmngbhgpfaa
open Go Go.Vc Go.RowKit
theorem payP_ok {l f : List AFlow'} (h : (payP l f).2.1 = 0) : isP l = true ∧ (payP l f).1 = resP (l ++ f) (unitsOf (l ++ f)) ∧ ∀ u ∈ unitsOf (l ++ f), I64 (sumU (l ++ f) u) := by
  unfold payP at h ⊢
  by_cases hp : isP l = true
  · rw [if_pos hp] at h ⊢
    obtain ⟨h1, h2⟩ := payGo_ok _ _ _ h
    exact ⟨hp, by rw [h1, List.nil_append]; rfl, h2⟩
  · rw [if_neg hp] at h; simp at h
theorem resP_ok {all : List AFlow'} {us : List AUnit'} (h : ∀ u ∈ us, I64 (sumU all u)) : okF (resP all us) := by
  intro x hx
  obtain ⟨u, hu, rfl⟩ := List.mem_map.1 hx
  exact h u (List.mem_filter.1 hu).1
end Go.Proofs.Ytbpbkmngbhgpfaa

namespace Go.Proofs.Ytbpbkmngbhgpfaa
open Go Go.Vc Go.RowKit
/-! sign -/
def szOf (z : Int) : WideSize' := (z / 18446744073709551616, z % 18446744073709551616, ())
def w128 (z : Int) : WideWide' := (IntKind.i64.wrap (z / 18446744073709551616), z % 18446744073709551616, ())
theorem w128_in (z : Int) (h : In128 z) : w128 z = wide z := by
  unfold In128 at h; unfold w128 wide; rw [IntWalk.i64_in _ (by omega)]
def absI (z : Int) : Int := if z < 0 then -z else z
theorem r_below (w : WideWide') : wide_Wide_below w = some (decide (w.1 < 0)) := rfl
theorem r_size (x : WideWide') (hx : wOk x) : wide_Wide_size x = some (szOf (absI (wv x))) := by
  unfold wOk at hx
  show wide_Wide_sizeW stdW x = _
  unfold wide_Wide_sizeW
  rw [call_eq (r_below _)]
  by_cases h : x.1 < 0
  · rw [cnd_n (by simp [h]), call_eq (sub64_is (by omega) (by omega) (by omega) (by omega) (by omega)), call_eq (sub64_is (by omega) (by rw [IntKind.wrap_u64]; omega) (by rw [IntKind.wrap_u64]; omega) (by dsimp only; split <;> omega) (by dsimp only; split <;> omega))]
    unfold szOf absI wv
    refine congrArg some (Prod.ext ?_ (Prod.ext ?_ rfl))
    · dsimp only; rw [IntKind.wrap_u64]; split <;> split <;> omega
    · dsimp only; split <;> omega
  · rw [cnd_y (by simp [h])]
    unfold szOf absI wv
    refine congrArg some (Prod.ext ?_ (Prod.ext ?_ rfl))
    · dsimp only; rw [IntKind.wrap_u64]; split <;> omega
    · dsimp only; split <;> omega
theorem lo_fits (z : Int) (hz : 0 ≤ z ∧ z < 340282366920938463463374607431768211456) (h : z / 18446744073709551616 = 9223372036854775808) : ((z % 18446744073709551616) == 0) = decide (In128 (-z)) := by
  by_cases h0 : z % 18446744073709551616 = 0
  · have : In128 (-z) := by unfold In128; omega
    rw [decide_eq_true this]; simp [h0]
  · have : ¬ In128 (-z) := by unfold In128; omega
    rw [decide_eq_false this]; simp [h0]
theorem signed_raw (hi lo : Int) (m : Bool) : wide_size_signed (hi, lo, ()) m = (
    stdW.cnd (!m) (some (((IntKind.i64.wrap hi), lo, ()), ((decide (hi < 9223372036854775808)), ())))
    (stdW.call (sub64 0 lo 0) fun v1 => stdW.call (sub64 0 hi v1.2.1) fun v2 =>
    stdW.cnd (decide (hi < 9223372036854775808)) (some (((IntKind.i64.wrap v2.1), (v1.1, ())), (true, ())))
     (
     stdW.cnd (hi == 9223372036854775808) (some (((IntKind.i64.wrap v2.1), (v1.1, ())), ((lo == 0), ())))
      (some (((IntKind.i64.wrap v2.1), (v1.1, ())), (false, ())))))) := rfl
theorem r_signed (z : Int) (m : Bool) (hz : 0 ≤ z ∧ z < 340282366920938463463374607431768211456) : wide_size_signed (szOf z) m = some (w128 (if m = true then -z else z), decide (In128 (if m = true then -z else z)), ()) := by
  unfold szOf
  rw [signed_raw]
  cases m
  · rw [cnd_y (by rfl)]
    simp only [Bool.false_eq_true, if_false]
    unfold w128
    congr 3
    unfold In128; apply decide_eq_decide.2; omega
  · rw [cnd_n (by rfl), call_eq (sub64_is (by omega) (by omega) (by omega) (by omega) (by omega)), call_eq (sub64_is (by omega) (by omega) (by omega) (by dsimp only; split <;> omega) (by dsimp only; split <;> omega))]
    have e : ((IntKind.i64.wrap ((0 - z / 18446744073709551616 - (if 0 < z % 18446744073709551616 + 0 then 1 else 0)) % 18446744073709551616), ((0 - z % 18446744073709551616 - 0) % 18446744073709551616, ())) : WideWide') = w128 (-z) := by
      rw [wrap_mod_i]; unfold w128
      refine Prod.ext ?_ (Prod.ext ?_ rfl)
      · dsimp only; congr 1; split <;> omega
      · dsimp only; omega
    show _ = some (w128 (-z), decide (In128 (-z)), ())
    rw [← e]
    by_cases h1 : z / 18446744073709551616 < 9223372036854775808
    · rw [cnd_y (decide_eq_true h1)]
      have : In128 (-z) := by unfold In128; omega
      rw [decide_eq_true this]
    · rw [cnd_n (decide_eq_false h1)]
      by_cases h2 : z / 18446744073709551616 = 9223372036854775808
      · rw [cnd_y (by simp [h2]), lo_fits z hz h2]
      · rw [cnd_n (by simp [h2])]
        have : ¬ In128 (-z) := by unfold In128; omega
        rw [decide_eq_false this]

/-! products of 64 bits -/
theorem and32 (a : Int) (h : 0 ≤ a ∧ a < 18446744073709551616) : bits .and .u64 a 4294967295 = a % 4294967296 := by
  obtain ⟨n, rfl⟩ := Int.eq_ofNat_of_zero_le h.1
  show IntKind.u64.wrap (((BitVec.ofInt 64 ((n : Nat) : Int) &&& BitVec.ofInt 64 4294967295).toNat : Nat) : Int) = _
  rw [BitVec.toNat_and, BitVec.toNat_ofInt, BitVec.toNat_ofInt]
  have e1 : (((n : Nat) : Int) % ((2 ^ 64 : Nat) : Int)).toNat = n := by
    have : ((2 ^ 64 : Nat) : Int) = 18446744073709551616 := by decide
    omega
  have e2 : ((4294967295 : Int) % ((2 ^ 64 : Nat) : Int)).toNat = 2 ^ 32 - 1 := by decide
  rw [e1, e2, Nat.and_two_pow_sub_one_eq_mod, IntKind.wrap_u64]
  have : (2 : Nat) ^ 32 = 4294967296 := by decide
  rw [this]; omega
theorem fdiv32 (a : Int) (h : 0 ≤ a) : Int.fdiv a (2 ^ (Min.min (Int.toNat 32) (IntKind.bits .u64))) = a / 4294967296 := by
  have e : (2 : Int) ^ (Min.min (Int.toNat 32) (IntKind.bits .u64)) = 4294967296 := by decide +kernel
  rw [e, Int.fdiv_eq_ediv_of_nonneg _ (by omega)]
theorem mul_bd {a b : Int} (ha : 0 ≤ a ∧ a < 4294967296) (hb : 0 ≤ b ∧ b < 4294967296) : 0 ≤ a * b ∧ a * b ≤ 18446744065119617025 := by
  refine ⟨Int.mul_nonneg ha.1 hb.1, ?_⟩
  have h1 : a * b ≤ 4294967295 * b := Int.mul_le_mul_of_nonneg_right (by omega) hb.1
  omega
theorem r_mul64 {x y : Int} (hx : 0 ≤ x ∧ x < 18446744073709551616) (hy : 0 ≤ y ∧ y < 18446744073709551616) : math_bits_Mul64 x y = some (x * y / 18446744073709551616, x * y % 18446744073709551616, ()) := by
  show math_bits_Mul64W stdW x y = _
  unfold math_bits_Mul64W
  rw [nn_w (by omega), nn_w (by omega), nn_w (by omega), nn_w (by omega), nn_w (by omega)]
  simp only [fdiv32 x hx.1, fdiv32 y hy.1, and32 x hx, and32 y hy]
  have hx1 : 0 ≤ x / 4294967296 ∧ x / 4294967296 < 4294967296 := by omega
  have hx0 : 0 ≤ x % 4294967296 ∧ x % 4294967296 < 4294967296 := by omega
  have hy1 : 0 ≤ y / 4294967296 ∧ y / 4294967296 < 4294967296 := by omega
  have hy0 : 0 ≤ y % 4294967296 ∧ y % 4294967296 < 4294967296 := by omega
  have ex : x = x / 4294967296 * 4294967296 + x % 4294967296 := by omega
  have ey : y = y / 4294967296 * 4294967296 + y % 4294967296 := by omega
  have exy : x * y = (x / 4294967296) * (y / 4294967296) * 18446744073709551616 + ((x / 4294967296) * (y % 4294967296) + (x % 4294967296) * (y / 4294967296)) * 4294967296 + (x % 4294967296) * (y % 4294967296) := by
    generalize x / 4294967296 = x1 at *
    generalize x % 4294967296 = x0 at *
    generalize y / 4294967296 = y1 at *
    generalize y % 4294967296 = y0 at *
    rw [ex, ey, Int.add_mul, Int.mul_add, Int.mul_add]
    have a1 : x1 * 4294967296 * (y1 * 4294967296) = x1 * y1 * 18446744073709551616 := by
      rw [Int.mul_assoc, Int.mul_left_comm 4294967296, ← Int.mul_assoc]; rfl
    have a2 : x1 * 4294967296 * y0 = x1 * y0 * 4294967296 := by rw [Int.mul_assoc, Int.mul_comm 4294967296, ← Int.mul_assoc]
    have a3 : x0 * (y1 * 4294967296) = x0 * y1 * 4294967296 := by rw [← Int.mul_assoc]
    rw [a1, a2, a3, Int.add_mul]; omega
  have hD := mul_bd hx1 hy1
  have hB := mul_bd hx1 hy0
  have hC := mul_bd hx0 hy1
  have hA := mul_bd hx0 hy0
  rw [exy]
  generalize (x / 4294967296) * (y / 4294967296) = D at *
  generalize (x / 4294967296) * (y % 4294967296) = B at *
  generalize (x % 4294967296) * (y / 4294967296) = C at *
  generalize (x % 4294967296) * (y % 4294967296) = A at *
  have w1 : IntKind.u64.wrap A = A := by rw [IntKind.wrap_u64]; omega
  have w2 : IntKind.u64.wrap B = B := by rw [IntKind.wrap_u64]; omega
  have w3 : IntKind.u64.wrap C = C := by rw [IntKind.wrap_u64]; omega
  have w4 : IntKind.u64.wrap D = D := by rw [IntKind.wrap_u64]; omega
  rw [w1, w2, w3, w4, fdiv32 A (by omega)]
  have w5 : IntKind.u64.wrap (B + A / 4294967296) = B + A / 4294967296 := by rw [IntKind.wrap_u64]; omega
  rw [w5, fdiv32 _ (by omega), and32 _ (by omega)]
  have w6 : IntKind.u64.wrap ((B + A / 4294967296) % 4294967296 + C) = (B + A / 4294967296) % 4294967296 + C := by rw [IntKind.wrap_u64]; omega
  rw [w6, fdiv32 _ (by omega)]
  have w7 : IntKind.u64.wrap (D + (B + A / 4294967296) / 4294967296) = D + (B + A / 4294967296) / 4294967296 := by rw [IntKind.wrap_u64]; omega
  rw [w7, IntKind.wrap_u64, IntKind.wrap_u64]
  congr 1
  refine Prod.ext ?_ (Prod.ext ?_ rfl)
  · show (D + (B + A / 4294967296) / 4294967296 + ((B + A / 4294967296) % 4294967296 + C) / 4294967296) % 18446744073709551616 = _; omega
  · first | rfl | (show _ % 18446744073709551616 = _; omega)
end Go.Proofs.Ytbpbkmngbhgpfaa

namespace Go.Proofs.Ytbpbkmngbhgpfaa
open Go Go.Vc Go.RowKit
/-! ### what a move makes of a leg -/
theorem absI_mul (a b : Int) : (if (decide (a < 0) != decide (b < 0)) = true then -(absI a * absI b) else absI a * absI b) = a * b := by
  unfold absI
  by_cases ha : a < 0 <;> by_cases hb : b < 0 <;> simp [ha, hb, Int.neg_mul, Int.mul_neg]
theorem abs_bd {a : Int} (h : I64 a) : 0 ≤ absI a ∧ absI a ≤ 9223372036854775808 := by unfold I64 at h; unfold absI; split <;> omega
theorem prod_bd {a b A B : Int} (ha : 0 ≤ a ∧ a ≤ A) (hb : 0 ≤ b ∧ b ≤ B) : 0 ≤ a * b ∧ a * b ≤ A * B :=
  ⟨Int.mul_nonneg ha.1 hb.1, Int.mul_le_mul ha.2 hb.2 hb.1 (by omega)⟩
theorem wide_lt0 (z : Int) : decide ((wide z).1 < 0) = decide (z < 0) := by
  refine decide_eq_decide.2 ?_
  show z / 18446744073709551616 < 0 ↔ _; omega
theorem both_of {β : Type} {a b r : Option β} (ha : a = r) (hb : b = r) : stdW.both a b = r := by rw [ha, hb]; exact both_w r
theorem r_wMul {a b : Int} (ha : I64 a) (hb : I64 b) : wide_Mul a b = some (wide (a * b)) := by
  show wide_MulW stdW a b = _
  unfold wide_MulW
  have xa := abs_bd ha
  have xb := abs_bd hb
  have s1 := r_size (wide a) (wide_ok a (i64_128 ha))
  have s2 := r_size (wide b) (wide_ok b (i64_128 hb))
  rw [wv_wide] at s1 s2
  have hp := prod_bd xa xb
  have m1 : math_bits_Mul64 (szOf (absI a)).2.1 (szOf (absI b)).2.1 = some (szOf (absI a * absI b)) := by
    show math_bits_Mul64 (absI a % 18446744073709551616) (absI b % 18446744073709551616) = _
    rw [Int.emod_eq_of_lt xa.1 (by omega), Int.emod_eq_of_lt xb.1 (by omega), r_mul64 (by omega) (by omega)]; rfl
  rw [call_eq (r_wOf a ha), call_eq (r_wOf b hb), call_eq s1, call_eq s2, call_eq m1]
  have hz : 0 ≤ absI a * absI b ∧ absI a * absI b < 340282366920938463463374607431768211456 := by
    have : (9223372036854775808 : Int) * 9223372036854775808 = 85070591730234615865843651857942052864 := by decide
    omega
  have g : (stdW.call (wide_size_signed (szOf (absI a * absI b)) (notIf true (decide ((wide a).1 < 0) == decide ((wide b).1 < 0)))) fun v8 => some v8.1) = some (wide (a * b)) := by
    have e1 : notIf true (decide (a < 0) == decide (b < 0)) = (decide (a < 0) != decide (b < 0)) := by rw [nif_t]; rfl
    rw [wide_lt0, wide_lt0, e1, call_eq (r_signed _ _ hz), absI_mul]
    show some (w128 (a * b)) = _
    rw [w128_in]
    have := absI_mul a b
    have h2 : (9223372036854775808 : Int) * 9223372036854775808 = 85070591730234615865843651857942052864 := by decide
    unfold In128
    split at this <;> omega
  refine both_of ?_ ?_
  · rw [call_eq (r_below _)]
    refine both_of ?_ ?_
    · rw [call_eq (r_below _), both_w]; exact g
    · rw [call_eq (r_below _)]; exact g
  · rw [call_eq (r_below _), call_eq (r_below _)]; exact g
theorem r_wTimes {v n : Int} (hv : I64 v) (hn : I64 n) : wide_Times (wide v) n = some (wide (v * n), 0, ()) := by
  show wide_TimesW stdW (wide v) n = _
  unfold wide_TimesW
  have xa := abs_bd hv
  have xb := abs_bd hn
  have s1 := r_size (wide v) (wide_ok v (i64_128 hv))
  have s2 := r_size (wide n) (wide_ok n (i64_128 hn))
  rw [wv_wide] at s1 s2
  have hp := prod_bd xa xb
  have hc : (9223372036854775808 : Int) * 9223372036854775808 = 85070591730234615865843651857942052864 := by decide
  have e0 : (szOf (absI v)).1 = 0 := by show absI v / 18446744073709551616 = 0; omega
  have e1 : (szOf (absI v)).2.1 = absI v := by show absI v % 18446744073709551616 = _; omega
  have e2 : (szOf (absI n)).2.1 = absI n := by show absI n % 18446744073709551616 = _; omega
  rw [call_eq s1, call_eq (r_wOf n hn), call_eq s2, e0, e1, e2, call_eq (r_mul64 (x := 0) (by omega) (by omega)), call_eq (r_mul64 (x := absI v) (by omega) (by omega)), Int.zero_mul]
  have a1 : add64 (0 % 18446744073709551616 : Int) (absI v * absI n / 18446744073709551616) 0 = some (absI v * absI n / 18446744073709551616, 0, ()) := by
    rw [add64_is (by omega) (by omega) (by omega) (by omega)]
    congr 1
    refine Prod.ext ?_ (Prod.ext ?_ rfl)
    · show ((0 : Int) % 18446744073709551616 + absI v * absI n / 18446744073709551616 + 0) % 18446744073709551616 = absI v * absI n / 18446744073709551616; omega
    · show ((0 : Int) % 18446744073709551616 + absI v * absI n / 18446744073709551616 + 0) / 18446744073709551616 = 0; omega
  show stdW.call (add64 (0 % 18446744073709551616 : Int) (absI v * absI n / 18446744073709551616) 0) _ = _
  rw [call_eq a1, call_eq (r_below _), wide_lt0]
  have e3 : notIf true (decide (v < 0) == decide (n < 0)) = (decide (v < 0) != decide (n < 0)) := by rw [nif_t]; rfl
  show stdW.call (wide_size_signed (szOf (absI v * absI n)) (notIf true (decide (v < 0) == decide (n < 0)))) _ = _
  have hI : In128 (v * n) := by
    have := absI_mul v n
    unfold In128
    split at this <;> omega
  rw [e3, call_eq (r_signed _ _ (by omega)), absI_mul]
  show stdW.cnd (decide (In128 (v * n))) (stdW.cnd ((0 / 18446744073709551616 : Int) == 0) (stdW.call (wide_ranged (w128 (v * n)) ((0 : Int) == 0)) fun v9 => some v9) _) _ = _
  rw [cnd_y (decide_eq_true hI), cnd_y (by decide), call_eq (r_ranged _ _), w128_in _ hI]
  rfl
theorem nilq_w {β : Type} (e : Bool) (f : Bool → Option β) : stdW.nilq e f = nilF e f := rfl
end Go.Proofs.Ytbpbkmngbhgpfaa

namespace Go.Proofs.Ytbpbkmngbhgpfaa
open Go Go.Vc Go.RowKit
/-- a loop of which something is said -/
theorem loop_P {X β : Type} {f : X → (X → Option β) → Option β} (Q : Option β → Prop) (μ : X → Nat) (R : X → Prop) {z : X} (hz : R z) (hm : μ z < 18446744073709551616)
    (h : ∀ z, R z → ∀ again : X → Option β, (∀ z', R z' → μ z' < μ z → Q (again z')) → Q (f z again)) : Q (stdW.loop f z) := by
  have key : ∀ n z, R z → μ z < n → Q (loopF n f z) := by
    intro n
    induction n with
    | zero => intro z _ h; omega
    | succ n ih => intro z hz hm; exact h z hz _ fun z' hz' hm' => ih z' hz' (by omega)
  exact key FU z hz (by rw [FU_eq]; exact hm)
/-- a loop whose state is known round by round, as long as something holds -/
theorem loop_ai {X β : Type} {N : Nat} (hN : N < 9223372036854775808) {f : X → (X → Option β) → Option β} (st : Nat → X) (Inv : Nat → Prop) (r : Option β) {z0 : X} (hz : z0 = st 0) (h0 : Inv 0)
    (hend : Inv N → ∀ again : X → Option β, f (st N) again = r) (hstep : ∀ i, i < N → Inv i → ∀ again : X → Option β, (Inv (i + 1) → again (st (i + 1)) = r) → f (st i) again = r) : stdW.loop f z0 = r := by
  subst hz
  have key : ∀ n i, i ≤ N → N - i < n → Inv i → loopF n f (st i) = r := by
    intro n
    induction n with
    | zero => intro i _ h; omega
    | succ n ih =>
      intro i hi hn hv
      show f (st i) (loopF n f) = r
      by_cases h : i < N
      · exact hstep i h hv _ fun hv' => ih (i + 1) (by omega) (by omega) hv'
      · have : i = N := by omega
        subst this; exact hend hv _
  show loopF FU f (st 0) = r
  exact key FU 0 (Nat.zero_le _) (by rw [FU_eq]; omega) h0
/-! ### tables of instruments -/
end Go.Proofs.Ytbpbkmngbhgpfaa

namespace Go.Proofs.Ytbpbkmngbhgpfaa
open Go Go.Vc Go.RowKit
/-! ### vectors, books -/
abbrev Leg := AUnit'
def VInv (l : List Leg) : Prop := (∀ x ∈ l, (1 ≤ x.1 ∧ x.1 ≤ 8) ∧ x.2.1 ≠ 0) ∧ (l.map (·.1)).Pairwise (· < ·)
instance (l : List Leg) : Decidable (VInv l) := by unfold VInv; infer_instance
def isV (l : List Leg) : Bool := decide (VInv l)
theorem isV_bad {l : List Leg} {i : Nat} (hi : i < l.length) (h : ¬ ((1 ≤ l[i].1 ∧ l[i].1 ≤ 8) ∧ l[i].2.1 ≠ 0)) : isV l = false :=
  decide_eq_false fun hp => h (hp.1 _ (List.getElem_mem hi))
theorem isV_bad1 {l : List Leg} {i : Nat} (hi : i < l.length) (h0 : 0 < i) (h : ¬ (l[i - 1]'(by omega)).1 < l[i].1) : isV l = false :=
  decide_eq_false fun hp => h (by
    have := List.pairwise_iff_getElem.1 hp.2 (i - 1) i (by simp; omega) (by simpa using hi) (by omega)
    simpa using this)
theorem isV_next {l : List Leg} {i : Nat} (hi : i < l.length) (inv : VInv (l.take i)) (h1 : (1 ≤ l[i].1 ∧ l[i].1 ≤ 8) ∧ l[i].2.1 ≠ 0) (h2 : ∀ h0 : 0 < i, (l[i - 1]'(by omega)).1 < l[i].1) : VInv (l.take (i + 1)) := by
  rw [List.take_succ_eq_append_getElem hi]
  refine ⟨fun x hx => ?_, ?_⟩
  · rcases List.mem_append.1 hx with hx | hx
    · exact inv.1 x hx
    · simp only [List.mem_singleton] at hx; rw [hx]; exact h1
  · show ((l.take i ++ [l[i]]).map (·.1)).Pairwise (· < ·)
    rw [List.map_append]
    refine List.pairwise_append.2 ⟨inv.2, by simp, fun a ha b hb => ?_⟩
    simp only [List.map_cons, List.map_nil, List.mem_singleton] at hb
    subst hb
    obtain ⟨k, hk, hka⟩ := List.mem_iff_getElem.1 ha
    have hk' : k < i := by simp at hk; omega
    have h3 := h2 (by omega)
    by_cases hki : k = i - 1
    · subst hki; rw [← hka]; simpa using h3
    · have h4 := List.pairwise_iff_getElem.1 inv.2 k (i - 1) (by simpa using hk) (by simp; omega) (by omega)
      rw [hka] at h4
      refine Int.lt_trans h4 ?_
      simpa using h3
theorem isV_end {l : List Leg} (h : VInv (l.take l.length)) : isV l = true := by rw [List.take_length] at h; exact decide_eq_true h
def lastV (l : List Leg) (i : Nat) : Int := if h : 0 < i ∧ i ≤ l.length then (l[i - 1]'(by omega)).1 else 0
theorem lastV_s {l : List Leg} {i : Nat} (h : i < l.length) : lastV l (i + 1) = l[i].1 := by
  unfold lastV; rw [dif_pos ⟨by omega, by omega⟩]; rfl
theorem r_isV {l : List Leg} (hl : l.length ≤ 1000000) : vec_Is l = some (isV l) := by
  show vec_IsW stdW l = _
  unfold vec_IsW
  refine loop_ai (N := l.length) (by omega) (fun i => (lastV l i, ((i : Int), ()))) (fun i => VInv (l.take i)) (some (isV l)) (by unfold lastV; simp) (by simp [VInv]) ?_ ?_
  · intro h again
    show stdW.cnd (decide ((l.length : Int) < (l.length : Int))) _ _ = _
    rw [cnd_end, isV_end h]
  · intro i hi inv again ha
    show stdW.cnd (decide ((i : Int) < (l.length : Int))) (stdW.idx l (i : Int) _) _ = _
    rw [cnd_lt hi, idx_w hi]
    refine join_g fun k hk => ?_
    have kt : k (true, ()) = some false := by subst hk; rfl
    have kf : k (false, ()) = again (lastV l (i + 1), (((i + 1 : Nat) : Int), ())) := by rw [← i64_s i (by omega), lastV_s hi]; subst hk; rfl
    clear hk
    show stdW.cnd (decide (l[i].1 ≤ lastV l i)) _ _ = _
    by_cases h1 : l[i].1 ≤ lastV l i
    · rw [cnd_y (decide_eq_true h1), kt]
      unfold lastV at h1
      by_cases h0 : 0 < i
      · rw [dif_pos ⟨h0, by omega⟩] at h1
        rw [isV_bad1 hi h0 (by omega)]
      · rw [dif_neg (by omega)] at h1
        rw [isV_bad hi (by omega)]
    · rw [cnd_n (decide_eq_false h1)]
      by_cases h2 : 8 < l[i].1
      · rw [cnd_y (decide_eq_true h2), kt, isV_bad hi (by omega)]
      · rw [cnd_n (decide_eq_false h2)]
        by_cases h3 : l[i].2.1 = 0
        · rw [show (l[i].2.1 == 0) = true by simpa using h3, kt, isV_bad hi (by simp [h3])]
        · rw [show (l[i].2.1 == 0) = false by simpa using h3, kf]
          have hpos : 1 ≤ l[i].1 := by
            unfold lastV at h1
            by_cases h0 : 0 < i
            · rw [dif_pos ⟨h0, by omega⟩] at h1
              have := (inv.1 (l[i - 1]'(by omega)) (List.mem_iff_getElem.2 ⟨i - 1, by simp; omega, by simp⟩)).1.1
              omega
            · rw [dif_neg (by omega)] at h1; omega
          refine ha (isV_next hi inv ⟨⟨hpos, by omega⟩, h3⟩ fun h0 => ?_)
          unfold lastV at h1
          rw [dif_pos ⟨h0, by omega⟩] at h1; omega
/-! what moves make -/
theorem mul_abs {a b A B : Int} (ha : -A ≤ a ∧ a ≤ A) (hb : -B ≤ b ∧ b ≤ B) : -(A * B) ≤ a * b ∧ a * b ≤ A * B := by
  have h1 : a.natAbs ≤ A.toNat := by omega
  have h2 : b.natAbs ≤ B.toNat := by omega
  have h3 : (a * b).natAbs ≤ A.toNat * B.toNat := by rw [Int.natAbs_mul]; exact Nat.mul_le_mul h1 h2
  have h4 : ((A.toNat * B.toNat : Nat) : Int) = A * B := by
    rw [Int.natCast_mul, Int.toNat_of_nonneg (by omega), Int.toNat_of_nonneg (by omega)]
  omega
def okL (l : List Leg) : Prop := ∀ x ∈ l, I64 x.2.1
end Go.Proofs.Ytbpbkmngbhgpfaa

namespace Go.Proofs.Ytbpbkmngbhgpfaa
open Go Go.Vc Go.RowKit
/-! ### books -/
def BInv (l : List APos') : Prop := (∀ p ∈ l, p.2.1 ≠ [] ∧ VInv p.2.1) ∧ SrtA (l.map (·.1))
instance (l : List APos') : Decidable (BInv l) := by unfold BInv SrtA; infer_instance
def isB (l : List APos') : Bool := decide (BInv l)
theorem isB_bad0 {l : List APos'} {i : Nat} (hi : i < l.length) (h : ¬ (l[i].2.1 ≠ [] ∧ VInv l[i].2.1)) : isB l = false :=
  decide_eq_false fun hp => h (hp.1 _ (List.getElem_mem hi))
theorem isB_bad1 {l : List APos'} {i : Nat} (hi : i < l.length) (h0 : 0 < i) (h : ¬ ltA (l[i - 1]'(by omega)).1 l[i].1) : isB l = false :=
  decide_eq_false fun hp => h (by
    have := List.pairwise_iff_getElem.1 hp.2 (i - 1) i (by simp; omega) (by simpa using hi) (by omega)
    simpa using this)
theorem isB_next {l : List APos'} {i : Nat} (hi : i < l.length) (inv : BInv (l.take i)) (h1 : l[i].2.1 ≠ [] ∧ VInv l[i].2.1) (h2 : ∀ h0 : 0 < i, ltA (l[i - 1]'(by omega)).1 l[i].1) : BInv (l.take (i + 1)) := by
  rw [List.take_succ_eq_append_getElem hi]
  refine ⟨fun x hx => ?_, ?_⟩
  · rcases List.mem_append.1 hx with hx | hx
    · exact inv.1 x hx
    · simp only [List.mem_singleton] at hx; rw [hx]; exact h1
  · show SrtA ((l.take i ++ [l[i]]).map (·.1))
    rw [List.map_append]
    refine List.pairwise_append.2 ⟨inv.2, by simp, fun a ha b hb => ?_⟩
    simp only [List.map_cons, List.map_nil, List.mem_singleton] at hb
    subst hb
    obtain ⟨k, hk, hka⟩ := List.mem_iff_getElem.1 ha
    have hk' : k < i := by simp at hk; omega
    have h3 := h2 (by omega)
    by_cases hki : k = i - 1
    · subst hki; rw [← hka]; simpa using h3
    · have h4 := List.pairwise_iff_getElem.1 inv.2 k (i - 1) (by simpa using hk) (by simp; omega) (by omega)
      rw [hka] at h4
      refine ltA_tr h4 ?_
      simpa using h3
theorem isB_end {l : List APos'} (h : BInv (l.take l.length)) : isB l = true := by rw [List.take_length] at h; exact decide_eq_true h
def okB (l : List APos') : Prop := (∀ p ∈ l, okL p.2.1 ∧ p.2.1.length ≤ 100) ∧ l.length ≤ 100
theorem r_isB {l : List APos'} (hb : okB l) : book_Is l = some (isB l) := by
  have hl := hb.2
  show book_IsW stdW l = _
  unfold book_IsW
  refine loop_n (N := l.length) (by omega) (fun i _ => BInv (l.take i)) (some (isB l)) (by simp [BInv]) ?_ ?_
  · rintro _ again h
    rw [cnd_end, isB_end h]
  · rintro i hi _ inv again ha
    rw [cnd_lt hi, idx_w hi]
    refine join_g fun k hk => ?_
    have kt : k (true, ()) = some false := by subst hk; rfl
    have kf : k (false, ()) = again (((i + 1 : Nat) : Int), ()) := by rw [← i64_s i (by omega)]; subst hk; rfl
    clear hk
    have hli := (hb.1 _ (List.getElem_mem hi)).2
    by_cases h1 : l[i].2.1 = []
    · rw [cnd_y (by simp [h1]), both_w, kt, isB_bad0 hi (by simp [h1])]
    rw [cnd_n (by simpa using h1), call_eq (r_isV (by omega))]
    by_cases hv : VInv l[i].2.1
    · rw [show isV l[i].2.1 = true from decide_eq_true hv, cnd_n (by decide)]
      by_cases h0 : 0 < i
      · rw [cnd_y (decide_eq_true (by omega)), i64_pred i h0 (by rw [maxLen_eq]; omega), idx_w (by omega), call_eq (r_lessA _ _), both_w]
        by_cases h2 : ltA (l[i - 1]'(by omega)).1 l[i].1
        · rw [decide_eq_true h2]
          exact kf.trans (ha _ (isB_next hi inv ⟨h1, hv⟩ fun _ => h2))
        · rw [decide_eq_false h2, isB_bad1 hi h0 h2]; exact kt
      · rw [cnd_n (decide_eq_false (by omega)), both_w]
        exact kf.trans (ha _ (isB_next hi inv ⟨h1, hv⟩ fun h => absurd h h0))
    · rw [show isV l[i].2.1 = false from decide_eq_false hv, cnd_y (by decide), both_w, kt, isB_bad0 hi fun h => hv h.2]
theorem r_few11 (l : List Leg) (hl : l.length ≤ 9223372036854775807) : law11_Few l = some (l.take 12) := by
  show law11_FewW stdW l = _
  unfold law11_FewW
  by_cases h : 12 < l.length
  · rw [cnd_y (decide_eq_true (by omega)), bnd_w (by omega) (by omega)]; rfl
  · rw [cnd_n (decide_eq_false (by omega)), List.take_of_length_le (by omega)]
def fewPos (p : APos') : APos' := (p.1, (p.2.1.take 12, ()))
def few19 (l : List APos') : List APos' := (l.take 12).map fewPos
theorem few19_ok {l : List APos'} (h : ∀ p ∈ l, okL p.2.1) : okB (few19 l) := by
  unfold few19
  refine ⟨fun p hp => ?_, by rw [List.length_map, List.length_take]; omega⟩
  obtain ⟨x, hx, rfl⟩ := List.mem_map.1 hp
  have hx := h x (List.mem_of_mem_take hx)
  exact ⟨fun y hy => hx y (List.mem_of_mem_take hy), by show (x.2.1.take 12).length ≤ 100; rw [List.length_take]; omega⟩
theorem r_few19 (l : List APos') (hl : l.length ≤ 9223372036854775807) (hm : ∀ p ∈ l, p.2.1.length ≤ 9223372036854775807) : law19_Few l = some (few19 l) := by
  show law19_FewW stdW l = _
  unfold law19_FewW
  rw [join_w]
  refine loop_az (N := min l.length 12) (by omega) (fun i => ((i : Int), ((l.take i).map fewPos, ()))) _ rfl ?_ ?_
  · intro again
    have e : (l.take (min l.length 12)).map fewPos = few19 l := by
      unfold few19; rw [Nat.min_comm, ← List.take_take, List.take_length]
    have g : (some ((l.take (min l.length 12)).map fewPos) : Option (List APos')) = some (few19 l) := by rw [e]
    show stdW.cnd (decide (((min l.length 12 : Nat) : Int) < (l.length : Int))) (stdW.cnd (decide (((min l.length 12 : Nat) : Int) < 12)) _ (some ((l.take (min l.length 12)).map fewPos))) (some ((l.take (min l.length 12)).map fewPos)) = _
    by_cases h : (min l.length 12 : Nat) < l.length
    · rw [cnd_lt h, cnd_n (decide_eq_false (by omega))]; exact g
    · rw [cnd_n (decide_eq_false (by omega))]; exact g
  · intro i hi again ha
    have hi1 : i < l.length := by omega
    show stdW.cnd (decide ((i : Int) < (l.length : Int))) (stdW.cnd (decide ((i : Int) < 12)) (stdW.idx l (i : Int) _) _) _ = _
    rw [cnd_lt hi1, cnd_y (decide_eq_true (by omega)), idx_w hi1, idx_w hi1, call_eq (r_few11 _ (hm _ (List.getElem_mem hi1)))]
    show stdW.room (((l.take i).map fewPos).length + 1) 40 (again (IntKind.i64.wrap ((i : Int) + 1), ((l.take i).map fewPos ++ [fewPos l[i]], ()))) = _
    have : ((l.take i).map fewPos).length ≤ 12 := by rw [List.length_map, List.length_take]; omega
    rw [room_w (by omega) (by omega), i64_s i (by omega)]
    rw [List.take_succ_eq_append_getElem hi1, List.map_append] at ha
    exact ha
/-! ### flows -/
/-! ### settlements -/
end Go.Proofs.Ytbpbkmngbhgpfaa

namespace Go.Proofs.Ytbpbkmngbhgpfaa
open Go Go.Vc Go.RowKit
/-! ### there and back -/
theorem keys_get {l : List AFlow'} (hn : (l.map (·.1)).Nodup) : l = (l.map (·.1)).map fun u => ((u, (getP l u, ())) : AFlow') := by
  induction l with
  | nil => rfl
  | cons x l ih =>
    obtain ⟨h1, h2⟩ := List.nodup_cons.1 hn
    rw [List.map_cons, List.map_cons, getP, if_pos rfl]
    congr 1
    have : (l.map (·.1)).map (fun u => ((u, (getP (x :: l) u, ())) : AFlow')) = (l.map (·.1)).map fun u => ((u, (getP l u, ())) : AFlow') := by
      refine List.map_congr_left fun u hu => ?_
      rw [getP, if_neg fun e => h1 (by show x.1 ∈ _; rw [e]; exact hu)]
    rw [this]; exact ih h2
theorem keys_mem {l : List AFlow'} (h : isP l = true) (u : AUnit') : u ∈ l.map (·.1) ↔ getP l u ≠ 0 := by
  constructor
  · intro hu e
    obtain ⟨x, hx, rfl⟩ := List.mem_map.1 hu
    have := keys_get (isP_nd h)
    rw [this] at hx
    obtain ⟨v, hv, hvx⟩ := List.mem_map.1 hx
    have h1 := (of_decide_eq_true h).1 x (by rw [this]; exact hx)
    rw [← hvx] at h1 e
    exact h1 e
  · intro hu
    refine Classical.byContradiction fun hn => hu (getP_none fun x hx e => hn (List.mem_map.2 ⟨x, hx, e⟩))
theorem purse_ext {a b : List AFlow'} (ha : isP a = true) (hb : isP b = true) (h : ∀ u, getP a u = getP b u) : a = b := by
  have e : a.map (·.1) = b.map (·.1) := srt_ext (of_decide_eq_true ha).2 (of_decide_eq_true hb).2 fun u => by rw [keys_mem ha, keys_mem hb, h]
  rw [keys_get (isP_nd ha), keys_get (isP_nd hb), e]
  exact List.map_congr_left fun u _ => by rw [h]
end Go.Proofs.Ytbpbkmngbhgpfaa

namespace Go.Proofs.Ytbpbkmngbhgpfaa
open Go Go.Vc Go.RowKit
theorem okD_flows {l : DT.den (.slc tAFlow)} (h : DT.okD (.slc tAFlow) l) : okF l ∧ l.length ≤ 9223372036854775807 := by
  refine ⟨fun x hx => wf_i64 (h.1 x hx).2.1, ?_⟩
  have := h.2
  rwa [maxLen_eq] at this
end Go.Proofs.Ytbpbkmngbhgpfaa

namespace Go.Proofs.Ytbpbkmngbhgpfaa
open Go Go.Vc Go.RowKit
theorem okD_legs {l : DT.den (.slc tAUnit)} (h : DT.okD (.slc tAUnit) l) : okL l ∧ l.length ≤ 9223372036854775807 := by
  refine ⟨fun x hx => wf_i64 (h.1 x hx).2.1, ?_⟩
  have := h.2
  rwa [maxLen_eq] at this
theorem okD_book {l : DT.den (.slc tAPos)} (h : DT.okD (.slc tAPos) l) : (∀ p ∈ l, okL p.2.1 ∧ p.2.1.length ≤ 9223372036854775807) ∧ l.length ≤ 9223372036854775807 := by
  refine ⟨fun x hx => okD_legs (h.1 x hx).2.1, ?_⟩
  have := h.2
  rwa [maxLen_eq] at this
end Go.Proofs.Ytbpbkmngbhgpfaa

namespace Go.Proofs.Ytbpbkmngbhgpfaa
open Go Go.Vc Go.RowKit
/-! ### what all have of an instrument -/
def getV : List Leg → Int → Int
  | [], _ => 0
  | x :: l, k => if x.1 = k then x.2.1 else getV l k
theorem r_vget {l : List Leg} {k : Int} (hl : l.length ≤ 1000000) : vec_Get l k = some (getV l k) := by
  show vec_GetW stdW l k = _
  unfold vec_GetW
  refine loop_list (l := l) (by omega) (s0 := ()) (fun _ _ => True) (fun l' _ => some (getV l' k)) trivial ?_ ?_
  · rintro _ again _
    rw [cnd_end]; rfl
  · rintro i hi _ _ again ha
    rw [cnd_lt hi, idx_w hi]
    show _ = some (getV (l[i] :: l.drop (i + 1)) k)
    rw [getV]
    by_cases h : l[i].1 = k
    · rw [cnd_y (by simpa using h), if_pos h]
    · rw [cnd_n (by simpa using h), if_neg h]
      show again (IntKind.i64.wrap ((i : Int) + 1), ()) = _
      rw [i64_s i (by omega)]
      exact ha _ trivial
theorem getV_ok {l : List Leg} (h : okL l) (k : Int) : I64 (getV l k) := by
  induction l with
  | nil => show I64 0; unfold I64; omega
  | cons x l ih =>
    rw [getV]
    split
    · exact h x (by simp)
    · exact ih fun y hy => h y (by simp [hy])
def opnZ (l : List APos') (k : Int) : Int := sumBy (fun p => getV p.2.1 k) l
theorem r_open {l : List APos'} (hb : okB l) (k : Int) : book_Open l k = some (wide (opnZ l k)) ∧ In128 (opnZ l k) := by
  have hl := hb.2
  have e0 : opnZ l k = (l.map fun p => getV p.2.1 k).sum := rfl
  have hall : ∀ x ∈ l.map (fun p => getV p.2.1 k), I64 x := by
    intro x hx
    obtain ⟨p, hp, rfl⟩ := List.mem_map.1 hx
    exact getV_ok (hb.1 p hp).1 k
  have hin := sum128 hall (by simp; omega)
  refine ⟨?_, by rw [e0]; exact hin⟩
  show book_OpenW stdW l k = _
  unfold book_OpenW
  refine loop_az (N := l.length) (by omega) (fun i => ((i : Int), (((l.take i).map fun p => getV p.2.1 k).map wide, ()))) _ rfl ?_ ?_
  · intro again
    show stdW.cnd (decide ((l.length : Int) < (l.length : Int))) _ (stdW.call (wide_Add (((l.take l.length).map fun p => getV p.2.1 k).map wide)) _) = _
    rw [cnd_end, List.take_length, call_eq (r_wSum hall (by simp; omega)), e0]
  · intro i hi again ha
    show stdW.cnd (decide ((i : Int) < (l.length : Int))) (stdW.idx l (i : Int) fun x3 => stdW.call (vec_Get x3.2.1 k) fun v4 => stdW.call (wide_Of v4) fun v5 => stdW.room ((((l.take i).map fun p => getV p.2.1 k).map wide).length + 1) 16 (again (IntKind.i64.wrap ((i : Int) + 1), ((((l.take i).map fun p => getV p.2.1 k).map wide) ++ [v5], ())))) _ = _
    have h2 := (hb.1 _ (List.getElem_mem hi))
    rw [cnd_lt hi, idx_w hi, call_eq (r_vget (by omega)), call_eq (r_wOf _ (getV_ok h2.1 k))]
    have : (((l.take i).map fun p => getV p.2.1 k).map wide).length ≤ 100 := by rw [List.length_map, List.length_map, List.length_take]; omega
    rw [room_w (by omega) (by omega), i64_s i (by omega)]
    rw [List.take_succ_eq_append_getElem hi, List.map_append, List.map_append] at ha
    exact ha
theorem r_cmp1 (x y : Int) : cmp_Compare x y = some (if x < y then -1 else if y < x then 1 else 0) := by
  show cmp_CompareW stdW x y = _
  unfold cmp_CompareW
  have e : ∀ z : Int, cmp_isNaN z = some false := by intro z; show some (z != z) = _; simp
  rw [call_eq (e x), call_eq (e y), cnd_n rfl, cnd_n rfl]
  by_cases h1 : x < y
  · rw [cnd_y (decide_eq_true h1), if_pos h1]
  · rw [cnd_n (decide_eq_false h1), if_neg h1]
    by_cases h2 : y < x
    · rw [cnd_y (decide_eq_true h2), if_pos h2]
    · rw [cnd_n (decide_eq_false h2), if_neg h2]
theorem r_cmp2 (x y : Int) : cmp_Compare2 x y = some (if x < y then -1 else if y < x then 1 else 0) := by
  show cmp_Compare2W stdW x y = _
  unfold cmp_Compare2W
  have e : ∀ z : Int, cmp_isNaN2 z = some false := by intro z; show some (z != z) = _; simp
  rw [call_eq (e x), call_eq (e y), cnd_n rfl, cnd_n rfl]
  by_cases h1 : x < y
  · rw [cnd_y (decide_eq_true h1), if_pos h1]
  · rw [cnd_n (decide_eq_false h1), if_neg h1]
    by_cases h2 : y < x
    · rw [cnd_y (decide_eq_true h2), if_pos h2]
    · rw [cnd_n (decide_eq_false h2), if_neg h2]
def orL : List Int → Int
  | [] => 0
  | x :: l => if x = 0 then orL l else x
theorem r_or {l : List Int} (hl : l.length ≤ 1000000) : cmp_Or l = some (orL l) := by
  show cmp_OrW stdW l = _
  unfold cmp_OrW
  refine loop_list (l := l) (by omega) (s0 := ()) (fun _ _ => True) (fun l' _ => some (orL l')) trivial ?_ ?_
  · rintro _ again _
    rw [cnd_end]; rfl
  · rintro i hi _ _ again ha
    rw [cnd_lt hi, idx_w hi]
    show _ = some (orL (l[i] :: l.drop (i + 1)))
    rw [orL]
    by_cases h : l[i] = 0
    · rw [cnd_n (by simp [h]), if_pos h]
      show again (IntKind.i64.wrap ((i : Int) + 1), ()) = _
      rw [i64_s i (by omega)]
      exact ha _ trivial
    · rw [cnd_y (by simp [h]), if_neg h]
theorem sgn_0 (x : Int) : (if x < 0 then (-1 : Int) else if 0 < x then 1 else 0) = 0 ↔ x = 0 := by split <;> (try split) <;> omega
theorem or_2 (s t : Int) : orL [s, t] = 0 ↔ s = 0 ∧ t = 0 := by
  simp only [orL]
  split <;> (try split) <;> omega
theorem r_sign (z : Int) : ∃ s, wide_Sign (wide z) = some s ∧ (s != 0) = decide (z ≠ 0) := by
  show ∃ s, wide_SignW stdW (wide z) = some s ∧ _
  unfold wide_SignW
  have e : wide_Cmp (wide z) (0, (0, ())) = some (orL [if (wide z).1 < 0 then -1 else if 0 < (wide z).1 then 1 else 0, if (wide z).2.1 < 0 then -1 else if 0 < (wide z).2.1 then 1 else 0]) := by
    show wide_CmpW stdW (wide z) (0, (0, ())) = _
    unfold wide_CmpW
    rw [call_eq (r_cmp1 _ _), call_eq (r_cmp2 _ _), call_eq (r_or (by simp))]
  rw [call_eq e]
  refine ⟨_, rfl, ?_⟩
  have h0 : z = (wide z).1 * 18446744073709551616 + (wide z).2.1 := (wv_wide z).symm
  have h1 : 0 ≤ (wide z).2.1 ∧ (wide z).2.1 < 18446744073709551616 := by unfold wide; simp only; omega
  have h2 := or_2 (if (wide z).1 < 0 then -1 else if 0 < (wide z).1 then 1 else 0) (if (wide z).2.1 < 0 then -1 else if 0 < (wide z).2.1 then 1 else 0)
  rw [sgn_0, sgn_0] at h2
  generalize orL [if (wide z).1 < 0 then (-1 : Int) else if 0 < (wide z).1 then 1 else 0, if (wide z).2.1 < 0 then (-1 : Int) else if 0 < (wide z).2.1 then 1 else 0] = o at *
  by_cases ho : o = 0
  · rw [decide_eq_false (by have := h2.1 ho; omega)]; simp [ho]
  · rw [decide_eq_true (by intro hz; exact ho (h2.2 (by omega)))]; simp [ho]
def ks : List Int := [1, 2, 3, 4, 5, 6, 7, 8]
def balQ (l : List APos') : Prop := ∀ k ∈ ks, opnZ l k = 0
theorem ks_mem (k : Int) : k ∈ ks ↔ 1 ≤ k ∧ k ≤ 8 := by unfold ks; simp; omega
/-! ### nothing in all -/
theorem V_nd {l : List Leg} (h : VInv l) : (l.map (·.1)).Nodup := h.2.imp fun {a b} (hab : a < b) e => by omega
end Go.Proofs.Ytbpbkmngbhgpfaa

namespace Go.Proofs.Ytbpbkmngbhgpfaa
open Go Go.Vc Go.RowKit
/-! ### differences of 128 bits; a payment; that anything is paid at all -/
theorem not_i (a : Int) (h : -9223372036854775808 ≤ a ∧ a ≤ 9223372036854775807) : bits .xor .i64 (-1) a = -1 - a := by
  have e1 : BitVec.ofInt 64 (-1) = BitVec.allOnes 64 := by decide
  show IntKind.i64.wrap (((BitVec.ofInt 64 (-1) ^^^ BitVec.ofInt 64 a).toNat : Nat) : Int) = _
  rw [e1, BitVec.allOnes_xor, BitVec.toNat_not, BitVec.toNat_ofInt, IntKind.wrap_i64]
  have : (2 : Int) ^ 64 = 18446744073709551616 := by decide
  omega
theorem not_u (a : Int) (h : 0 ≤ a ∧ a < 18446744073709551616) : bits .xor .u64 18446744073709551615 a = 18446744073709551615 - a := by
  have e1 : BitVec.ofInt 64 18446744073709551615 = BitVec.allOnes 64 := by decide
  show IntKind.u64.wrap (((BitVec.ofInt 64 18446744073709551615 ^^^ BitVec.ofInt 64 a).toNat : Nat) : Int) = _
  rw [e1, BitVec.allOnes_xor, BitVec.toNat_not, BitVec.toNat_ofInt, IntKind.wrap_u64]
  have : (2 : Int) ^ 64 = 18446744073709551616 := by decide
  omega
theorem r_wSub {a b : Int} (ha : In128 a) (hb : In128 b) : wide_Sub (wide a) (wide b) = some (fit (a - b)) := by
  show wide_SubW stdW (wide a) (wide b) = _
  unfold wide_SubW
  have ha' := ha
  have hb' := hb
  unfold In128 at ha' hb'
  have t0 : InTot 0 := by unfold InTot; omega
  have t1 : InTot a := by unfold InTot; omega
  have t2 : InTot (a + (-b - 1)) := by unfold InTot; omega
  have t3 : InTot (a - b) := by unfold InTot; omega
  have s1 : wide_total_add (wide a) 0 0 0 = some ((), totT a) := by
    have := r_tadd 0 (wide a) t0 (wide_ok a ha)
    rw [wv_wide, Int.zero_add] at this
    exact this
  rw [call_eq s1]
  have ec : (bits .xor .i64 (if true = true then (-1) else (if true = true then ((2 ^ ((IntKind.bits .i64) - 1)) - 1) else ((2 ^ (IntKind.bits .i64)) - 1))) (wide b).1, bits .xor .u64 (if false = true then (-1) else (if false = true then ((2 ^ ((IntKind.bits .u64) - 1)) - 1) else ((2 ^ (IntKind.bits .u64)) - 1))) (wide b).2.1, ()) = wide (-b - 1) := by
    have c1 : (if false = true then (-1 : Int) else (if false = true then ((2 ^ ((IntKind.bits .u64) - 1)) - 1) else ((2 ^ (IntKind.bits .u64)) - 1))) = 18446744073709551615 := by decide
    rw [c1, if_pos rfl]
    unfold wide
    show (bits .xor .i64 (-1) (b / 18446744073709551616), bits .xor .u64 18446744073709551615 (b % 18446744073709551616), ()) = _
    rw [not_i _ (by omega), not_u _ (by omega)]
    refine Prod.ext ?_ (Prod.ext ?_ rfl)
    · show -1 - b / 18446744073709551616 = (-b - 1) / 18446744073709551616; omega
    · show 18446744073709551615 - b % 18446744073709551616 = (-b - 1) % 18446744073709551616; omega
  have s2 := r_tadd a (wide (-b - 1)) t1 (wide_ok _ (by unfold In128; omega))
  rw [wv_wide] at s2
  show stdW.call (wide_total_add _ (totT a).1 (totT a).2.1 (totT a).2.2.1) _ = _
  rw [ec, call_eq s2, call_eq (r_wOf 1 (by unfold I64; omega))]
  have s3 := r_tadd (a + (-b - 1)) (wide 1) t2 (wide_ok _ (by unfold In128; omega))
  rw [wv_wide, show a + (-b - 1) + 1 = a - b by omega] at s3
  show stdW.call (wide_total_add (wide 1) (totT (a + (-b - 1))).1 (totT (a + (-b - 1))).2.1 (totT (a + (-b - 1))).2.2.1) _ = _
  rw [call_eq s3]
  show stdW.call (wide_total_done (totT (a - b)).1 (totT (a - b)).2.1 (totT (a - b)).2.2.1) _ = _
  rw [call_eq (r_tdone _ t3)]
theorem r_fSub {a b : Int} (ha : I64 a) (hb : I64 b) : fix_Sub a b = some (fits64 (a - b)) := by
  show fix_SubW stdW a b = _
  unfold fix_SubW
  have hd : In128 (a - b) := by unfold I64 at ha hb; unfold In128; omega
  have e : fit (a - b) = (wide (a - b), 0, ()) := if_pos hd
  rw [call_eq (r_wOf a ha), call_eq (r_wOf b hb), call_eq (r_wSub (i64_128 ha) (i64_128 hb)), e]
  show stdW.call (fix_narrow (wide (a - b)) 0) _ = _
  rw [call_eq (r_narrow0 hd)]
def moveP (l : List AFlow') (f t : AUnit') (n : Int) : List AFlow' × Int × Unit :=
  if I64 (-n) then payP l [(f, (-n, ())), (t, (n, ()))] else if isP l = true then ([], (7, ())) else ([], (3, ()))
theorem r_move {l : List AFlow'} {f t : AUnit'} {n : Int} (h : okF l) (hn : I64 n) (hl : l.length ≤ 1000) : purse_Move l f t n = some (moveP l f t n) := by
  show purse_MoveW stdW l f t n = _
  unfold purse_MoveW moveP
  have e := r_fSub (a := 0) (b := n) (by unfold I64; omega) hn
  rw [Int.zero_sub] at e
  unfold fits64 at e
  by_cases hI : I64 (-n)
  · rw [if_pos hI] at e
    rw [if_pos hI, call_eq e]
    refine join_g fun k hk => ?_
    show stdW.cnd ((0 : Int) != 0) _ _ = _
    rw [cnd_n (by decide)]
    subst hk
    show stdW.cnd false _ (stdW.call (purse_Pay l [(f, (-n, ())), (t, (n, ()))]) _) = _
    rw [cnd_n rfl, call_eq (r_pay h (by
      intro x hx
      simp only [List.mem_cons, List.not_mem_nil, or_false] at hx
      rcases hx with rfl | rfl
      · exact hI
      · exact hn) (by simp; omega))]
  · rw [if_neg hI] at e
    rw [if_neg hI, call_eq e]
    refine join_g fun k hk => ?_
    show stdW.cnd ((7 : Int) != 0) _ _ = _
    rw [cnd_y (by decide), call_eq (r_is (by omega))]
    subst hk
    by_cases hp : isP l = true
    · rw [hp, if_pos rfl]; rfl
    · have hp : isP l = false := by simpa using hp
      rw [hp, if_neg (by simp)]
      show stdW.cnd false _ (stdW.call (purse_Pay l _) _) = _
      unfold I64 at hI hn
      have hn2 : n = -9223372036854775808 := by omega
      rw [cnd_n rfl, call_eq (r_pay h (by
        intro x hx
        simp only [List.mem_cons, List.not_mem_nil, or_false] at hx
        rcases hx with rfl | rfl
        · show I64 0; unfold I64; omega
        · show I64 n; unfold I64; omega) (by simp; omega))]
      unfold payP
      rw [hp, if_neg (by simp)]
theorem unit_ext {l : List AFlow'} {us : List AUnit'} (hs : SrtA us) (h : ∀ u, u ∈ us ↔ ∃ x ∈ l, x.1 = u) : unitsOf l = us :=
  srt_ext (units_srt l) hs fun u => by rw [units_mem, h u]
end Go.Proofs.Ytbpbkmngbhgpfaa

namespace Go.Proofs.Ytbpbkmngbhgpfaa
open Go Go.Vc Go.RowKit
/-! ### sums of bits, of any length -/
/-! ### the reference's gains -/
end Go.Proofs.Ytbpbkmngbhgpfaa

namespace Go.Proofs.Ytbpbkmngbhgpfaa
open Go Go.Vc Go.RowKit
/-! ### sums of vectors -/
theorem r_none {l : List Leg} (hl : l.length ≤ 1000000) : vec_none l = some (!isV l) := by
  show vec_noneW stdW l = _
  unfold vec_noneW
  rw [call_eq (r_isV hl)]
theorem r_ix {s : List (List Leg)} (hs : s.length ≤ 1000000) (hl : ∀ l ∈ s, l.length ≤ 1000000) : ∃ i : Int, slices_IndexFuncapi_Leg_api_Leg_vec_none s = some (i, ()) ∧ decide (0 ≤ i) = !(s.all isV) := by
  show ∃ i, slices_IndexFuncapi_Leg_api_Leg_vec_noneW stdW s = _ ∧ _
  unfold slices_IndexFuncapi_Leg_api_Leg_vec_noneW
  refine loop_P (fun o => ∃ i : Int, o = some (i, ()) ∧ decide (0 ≤ i) = !(s.all isV)) (fun z => s.length + 1 - z.1.toNat) (fun z => ∃ j : Nat, j ≤ s.length ∧ z = ((j : Int), ()) ∧ (s.take j).all isV = true) ⟨0, Nat.zero_le _, rfl, by simp⟩ (by show _ - (0 : Int).toNat < _; omega) ?_
  rintro _ ⟨j, hj, rfl, hp⟩ again ha
  show ∃ i, stdW.cnd (decide ((j : Int) < (s.length : Int))) _ _ = _ ∧ _
  by_cases h : j < s.length
  · rw [cnd_lt h]
    show ∃ i, stdW.idx s (j : Int) _ = _ ∧ _
    rw [idx_w h, call_eq (r_none (hl _ (List.getElem_mem h)))]
    by_cases hv : isV s[j] = true
    · rw [hv, cnd_n (by decide)]
      show ∃ i, again (IntKind.i64.wrap ((j : Int) + 1), ()) = _ ∧ _
      rw [i64_s j (by omega)]
      refine ha _ ⟨j + 1, by omega, rfl, ?_⟩ (by show _ - ((j + 1 : Nat) : Int).toNat < _ - ((j : Nat) : Int).toNat; omega)
      rw [List.take_succ_eq_append_getElem h, List.all_append, hp]; simp [hv]
    · have hv : isV s[j] = false := by simpa using hv
      rw [hv, cnd_y (by decide)]
      refine ⟨(j : Int), rfl, ?_⟩
      have : s.all isV = false := by
        rw [List.all_eq_false]
        exact ⟨s[j], List.getElem_mem h, by simp [hv]⟩
      rw [this, decide_eq_true (by omega)]; rfl
  · have : j = s.length := by omega
    subst this
    rw [cnd_end]
    rw [List.take_length] at hp
    exact ⟨-1, rfl, by rw [hp]; rfl⟩
theorem r_cf {s : List (List Leg)} (hs : s.length ≤ 1000000) (hl : ∀ l ∈ s, l.length ≤ 1000000) : slices_ContainsFuncapi_Leg_api_Leg_vec_none s = some (!(s.all isV), ()) := by
  show slices_ContainsFuncapi_Leg_api_Leg_vec_noneW stdW s = _
  unfold slices_ContainsFuncapi_Leg_api_Leg_vec_noneW
  obtain ⟨i, e, h⟩ := r_ix hs hl
  rw [call_eq e]
  show some (decide (0 ≤ i), ()) = _
  rw [h]
def sumV (l : List (List Leg)) (k : Int) : Int := (l.map fun v => getV v k).sum
def addGo (l : List (List Leg)) : List Int → List Leg → List Leg × Int × Unit
  | [], acc => (acc, 0, ())
  | k :: ks, acc => if I64 (sumV l k) then (if sumV l k = 0 then addGo l ks acc else addGo l ks (acc ++ [(k, sumV l k, ())])) else ([], 7, ())
def addV (l : List (List Leg)) : List Leg × Int × Unit := if l.all isV = true then addGo l ks [] else ([], 3, ())
theorem ks_drop {j : Nat} (h : j < 8) : ks.drop j = ((j : Int) + 1) :: ks.drop (j + 1) := by
  have : j = 0 ∨ j = 1 ∨ j = 2 ∨ j = 3 ∨ j = 4 ∨ j = 5 ∨ j = 6 ∨ j = 7 := by omega
  rcases this with rfl | rfl | rfl | rfl | rfl | rfl | rfl | rfl <;> rfl
theorem r_vadd {l : List (List Leg)} (hs : l.length ≤ 1000) (hl : ∀ v ∈ l, v.length ≤ 1000) (ho : ∀ v ∈ l, okL v) : vec_Add l = some (addV l) := by
  show vec_AddW stdW l = _
  unfold vec_AddW addV
  rw [call_eq (r_cf (by omega) fun v hv => by have := hl v hv; omega)]
  by_cases hv : l.all isV = true
  · rw [hv, cnd_n (by decide), if_pos rfl]
    refine (loop_std (fun z => 10 - z.1.toNat) (fun z => ∃ (j : Nat) (acc : List Leg), j ≤ 8 ∧ acc.length ≤ j ∧ z = ((j : Int) + 1, (acc, ()))) (fun z => some (addGo l (ks.drop (z.1.toNat - 1)) z.2.1)) ⟨0, [], by omega, Nat.le_refl _, rfl⟩ (by show 10 - (1 : Int).toNat < _; omega) ?_)
    rintro _ ⟨j, acc, hj, hacc, rfl⟩ again ha
    have ej : (((j : Int) + 1).toNat - 1) = j := by omega
    show stdW.cnd (decide ((j : Int) + 1 ≤ 8)) _ _ = some (addGo l (ks.drop ((((j : Int) + 1)).toNat - 1)) acc)
    rw [ej]
    by_cases h8 : j < 8
    · rw [cnd_y (decide_eq_true (by omega)), ks_drop h8]
      refine join_g fun k5 hk => ?_
      have kk : ∀ v : List Leg, v.length ≤ j + 1 → k5 (v, ()) = some (addGo l (ks.drop (j + 1)) v) := by
        intro v hv
        subst hk
        show again (IntKind.i64.wrap ((j : Int) + 1 + 1), (v, ())) = _
        have e1 : IntKind.i64.wrap ((j : Int) + 1 + 1) = ((j + 1 : Nat) : Int) + 1 := by rw [IntWalk.i64_in _ (by omega)]; omega
        rw [e1, ha _ ⟨j + 1, v, by omega, hv, rfl⟩ (by show 10 - (((j + 1 : Nat) : Int) + 1).toNat < 10 - ((j : Int) + 1).toNat; omega)]
        show some (addGo l (ks.drop ((((j + 1 : Nat) : Int) + 1).toNat - 1)) v) = _
        rw [show (((j + 1 : Nat) : Int) + 1).toNat - 1 = j + 1 by omega]
      clear hk ha
      rw [addGo]
      have hall : ∀ x ∈ l.map (fun v => getV v ((j : Int) + 1)), I64 x := by
        intro x hx
        obtain ⟨v, hv, rfl⟩ := List.mem_map.1 hx
        exact getV_ok (ho v hv) _
      refine loop_az (N := l.length) (by omega) (fun i => ((i : Int), (acc, ((l.take i).map (fun v => getV v ((j : Int) + 1)), ())))) _ rfl ?_ ?_
      · intro again2
        show stdW.cnd (decide ((l.length : Int) < (l.length : Int))) _ (stdW.call (fix_Sum ((l.take l.length).map fun v => getV v ((j : Int) + 1))) _) = _
        rw [cnd_end, List.take_length, call_eq (r_fSum hall (by rw [List.length_map]; omega))]
        show stdW.cnd ((fits64 (sumV l ((j : Int) + 1))).2.1 != 0) (some ([], (fits64 (sumV l ((j : Int) + 1))).2)) (stdW.cnd ((fits64 (sumV l ((j : Int) + 1))).1 != 0) (stdW.room (acc.length + 1) 16 (k5 (acc ++ [((j : Int) + 1, ((fits64 (sumV l ((j : Int) + 1))).1, ()))], ()))) (k5 (acc, ()))) = _
        unfold fits64
        by_cases hI : I64 (sumV l ((j : Int) + 1))
        · rw [if_pos hI, if_pos hI]
          show stdW.cnd ((0 : Int) != 0) _ (stdW.cnd (sumV l ((j : Int) + 1) != 0) (stdW.room (acc.length + 1) 16 (k5 (acc ++ [((j : Int) + 1, (sumV l ((j : Int) + 1), ()))], ()))) (k5 (acc, ()))) = _
          rw [cnd_n (by decide)]
          by_cases h0 : sumV l ((j : Int) + 1) = 0
          · rw [cnd_n (by simp [h0]), if_pos h0]; exact kk acc (by omega)
          · rw [cnd_y (by simp [h0]), if_neg h0, room_w (by omega) (by omega)]
            exact kk _ (by simp; omega)
        · rw [if_neg hI, if_neg hI]
          show stdW.cnd ((7 : Int) != 0) _ _ = _
          rw [cnd_y (by decide)]
      · intro i hi again2 ha2
        show stdW.cnd (decide ((i : Int) < (l.length : Int))) (stdW.idx l (i : Int) fun x8 => stdW.call (vec_Get x8 ((j : Int) + 1)) fun v9 => stdW.room (((l.take i).map fun v => getV v ((j : Int) + 1)).length + 1) 8 (again2 (IntKind.i64.wrap ((i : Int) + 1), (acc, (((l.take i).map fun v => getV v ((j : Int) + 1)) ++ [v9], ()))))) _ = _
        have h2 := hl _ (List.getElem_mem hi)
        rw [cnd_lt hi, idx_w hi, call_eq (r_vget (by omega))]
        have : ((l.take i).map fun v => getV v ((j : Int) + 1)).length ≤ 1000 := by rw [List.length_map, List.length_take]; omega
        rw [room_w (by omega) (by omega), i64_s i (by omega)]
        rw [List.take_succ_eq_append_getElem hi, List.map_append] at ha2
        exact ha2
    · have : j = 8 := by omega
      subst this
      rw [cnd_n (decide_eq_false (by omega))]
      rfl
  · have hv : l.all isV = false := by simpa using hv
    rw [hv, cnd_y (by decide), if_neg (by simp)]
theorem addGo_ok (l : List (List Leg)) : ∀ (us : List Int) (acc : List Leg), (addGo l us acc).2.1 = 0 →
    (addGo l us acc).1 = acc ++ (us.filter fun u => decide (sumV l u ≠ 0)).map (fun u => ((u, (sumV l u, ())) : Leg)) ∧ ∀ u ∈ us, I64 (sumV l u)
  | [], acc, _ => by simp [addGo]
  | u :: us, acc, h => by
    unfold addGo at h ⊢
    by_cases hI : I64 (sumV l u)
    · rw [if_pos hI] at h ⊢
      by_cases h0 : sumV l u = 0
      · rw [if_pos h0] at h ⊢
        obtain ⟨h1, h2⟩ := addGo_ok l us _ h
        refine ⟨?_, fun x hx => ?_⟩
        · rw [h1, List.filter_cons, if_neg (by simp [h0])]
        · rcases List.mem_cons.1 hx with rfl | hx
          · exact hI
          · exact h2 x hx
      · rw [if_neg h0] at h ⊢
        obtain ⟨h1, h2⟩ := addGo_ok l us _ h
        refine ⟨?_, fun x hx => ?_⟩
        · rw [h1, List.filter_cons, if_pos (by simp [h0])]; simp
        · rcases List.mem_cons.1 hx with rfl | hx
          · exact hI
          · exact h2 x hx
    · rw [if_neg hI] at h; simp at h
def resV (f : Int → Int) : List Leg := (ks.filter fun u => decide (f u ≠ 0)).map fun u => ((u, (f u, ())) : Leg)
theorem resV_len (f : Int → Int) : (resV f).length ≤ 8 := by
  unfold resV; rw [List.length_map]; exact Nat.le_trans (List.length_filter_le _ _) (by decide)
theorem ks_sorted : ks.Pairwise (· < ·) := by decide
theorem resV_V (f : Int → Int) : VInv (resV f) := by
  refine ⟨fun x hx => ?_, ?_⟩
  · obtain ⟨u, hu, rfl⟩ := List.mem_map.1 hx
    obtain ⟨h1, h2⟩ := List.mem_filter.1 hu
    simp only [decide_eq_true_eq] at h2
    exact ⟨(ks_mem u).1 h1, h2⟩
  · unfold resV
    rw [List.map_map]
    have : ((fun x : Leg => x.1) ∘ fun u => ((u, (f u, ())) : Leg)) = id := rfl
    rw [this, List.map_id]
    exact ks_sorted.filter _
theorem getV_none {l : List Leg} {k : Int} (h : ∀ x ∈ l, x.1 ≠ k) : getV l k = 0 := by
  induction l with
  | nil => rfl
  | cons x l ih => rw [getV, if_neg (h x (by simp)), ih fun y hy => h y (by simp [hy])]
theorem getV_out {l : List Leg} (h : VInv l) {k : Int} (hk : k ∉ ks) : getV l k = 0 := by
  refine getV_none fun x hx e => hk ?_
  rw [← e, ks_mem]; exact (h.1 x hx).1
theorem getV_map (f : Int → Int) (us : List Int) (k : Int) : getV (us.map fun u => ((u, (f u, ())) : Leg)) k = if k ∈ us then f k else 0 := by
  induction us with
  | nil => rfl
  | cons u us ih =>
    rw [List.map_cons, getV, ih]
    by_cases h : u = k
    · subst h; simp
    · rw [if_neg h]
      by_cases hm : k ∈ us
      · rw [if_pos hm, if_pos (by simp [hm])]
      · rw [if_neg hm, if_neg (by simp [hm, Ne.symm h])]
theorem resV_get (f : Int → Int) (k : Int) (hf : k ∉ ks → f k = 0) : getV (resV f) k = f k := by
  unfold resV
  rw [getV_map]
  by_cases h : k ∈ ks
  · by_cases h0 : f k = 0
    · rw [if_neg (by simp [h0]), h0]
    · rw [if_pos (by simp [h, h0])]
  · rw [if_neg (by simp [h]), hf h]
theorem srt_extG {α : Type} {lt : α → α → Prop} (irr : ∀ a, ¬ lt a a) (tr : ∀ a b c, lt a b → lt b c → lt a c) : ∀ {l m : List α}, l.Pairwise lt → m.Pairwise lt → (∀ x, x ∈ l ↔ x ∈ m) → l = m
  | [], [], _, _, _ => rfl
  | [], b :: m, _, _, h => absurd ((h b).2 (by simp)) (by simp)
  | a :: l, [], _, _, h => absurd ((h a).1 (by simp)) (by simp)
  | a :: l, b :: m, hl, hm, h => by
    obtain ⟨h1, h2⟩ := List.pairwise_cons.1 hl
    obtain ⟨h3, h4⟩ := List.pairwise_cons.1 hm
    have hab : a = b := by
      rcases List.mem_cons.1 ((h a).1 (by simp)) with e | e
      · exact e
      · rcases List.mem_cons.1 ((h b).2 (by simp)) with e' | e'
        · exact e'.symm
        · exact absurd (tr _ _ _ (h3 a e) (h1 b e')) (irr b)
    subst hab
    congr 1
    refine srt_extG irr tr h2 h4 fun x => ?_
    constructor
    · intro hx
      rcases List.mem_cons.1 ((h x).1 (by simp [hx])) with e | e
      · subst e; exact absurd (h1 x hx) (irr x)
      · exact e
    · intro hx
      rcases List.mem_cons.1 ((h x).2 (by simp [hx])) with e | e
      · subst e; exact absurd (h3 x hx) (irr x)
      · exact e
theorem V_keys {l : List Leg} (hn : (l.map (·.1)).Nodup) : l = (l.map (·.1)).map fun u => ((u, (getV l u, ())) : Leg) := by
  induction l with
  | nil => rfl
  | cons x l ih =>
    obtain ⟨h1, h2⟩ := List.nodup_cons.1 hn
    rw [List.map_cons, List.map_cons, getV, if_pos rfl]
    congr 1
    have : (l.map (·.1)).map (fun u => ((u, (getV (x :: l) u, ())) : Leg)) = (l.map (·.1)).map fun u => ((u, (getV l u, ())) : Leg) := by
      refine List.map_congr_left fun u hu => ?_
      rw [getV, if_neg fun e => h1 (by show x.1 ∈ _; rw [e]; exact hu)]
    rw [this]; exact ih h2
theorem V_mem {l : List Leg} (h : VInv l) (u : Int) : u ∈ l.map (·.1) ↔ getV l u ≠ 0 := by
  constructor
  · intro hu e
    obtain ⟨x, hx, rfl⟩ := List.mem_map.1 hu
    have h2 := V_keys (V_nd h)
    have h3 := (h.1 x hx).2
    rw [h2] at hx
    obtain ⟨v, hv, hvx⟩ := List.mem_map.1 hx
    rw [← hvx] at h3 e
    exact h3 e
  · intro hu
    refine Classical.byContradiction fun hn => hu (getV_none fun x hx e => hn (List.mem_map.2 ⟨x, hx, e⟩))
theorem V_ext {a b : List Leg} (ha : VInv a) (hb : VInv b) (h : ∀ u, getV a u = getV b u) : a = b := by
  have e : a.map (·.1) = b.map (·.1) := srt_extG (lt := fun x y : Int => x < y) (fun a => Int.lt_irrefl a) (fun a b c => Int.lt_trans) ha.2 hb.2 fun u => by rw [V_mem ha, V_mem hb, h]
  rw [V_keys (V_nd ha), V_keys (V_nd hb), e]
  exact List.map_congr_left fun u _ => by rw [h]
theorem addV_ok {l : List (List Leg)} (h : (addV l).2.1 = 0) : l.all isV = true ∧ (addV l).1 = resV (sumV l) ∧ (∀ k ∈ ks, I64 (sumV l k)) ∧ ∀ k, getV (addV l).1 k = sumV l k := by
  unfold addV at h ⊢
  by_cases hv : l.all isV = true
  · rw [if_pos hv] at h ⊢
    obtain ⟨h1, h2⟩ := addGo_ok l ks [] h
    rw [List.nil_append] at h1
    refine ⟨hv, h1, h2, fun k => ?_⟩
    rw [h1]
    refine resV_get _ k fun hk => ?_
    unfold sumV
    have : ∀ x ∈ l.map (fun v => getV v k), x = 0 := by
      intro x hx
      obtain ⟨v, hv', rfl⟩ := List.mem_map.1 hx
      exact getV_out (of_decide_eq_true (List.all_eq_true.1 hv v hv')) hk
    clear h h1 h2
    generalize l.map (fun v => getV v k) = m at this
    induction m with
    | nil => rfl
    | cons x m ih => rw [List.sum_cons, this x (by simp), ih fun y hy => this y (by simp [hy])]; rfl
  · rw [if_neg hv] at h; simp at h
theorem r_neg1 {k q : Int} (hk : 1 ≤ k ∧ k ≤ 8) (hq : q ≠ 0) (hI : I64 q) (hI2 : I64 (-q)) : vec_Neg [(k, (q, ()))] = some ([(k, (-q, ()))], (0, ())) := by
  show vec_NegW stdW [(k, (q, ()))] = _
  unfold vec_NegW
  have hv : isV [((k, (q, ())) : Leg)] = true := decide_eq_true ⟨by intro x hx; simp only [List.mem_singleton] at hx; subst hx; exact ⟨hk, hq⟩, by simp⟩
  rw [call_eq (r_none (by simp)), hv, cnd_n (by decide)]
  refine loop_az (N := 1) (by omega) (fun i => ((i : Int), ((([((k, (-q, ())) : Leg)]).take i), ()))) _ rfl ?_ ?_
  · intro again
    show stdW.cnd (decide ((1 : Int) < (1 : Int))) _ _ = _
    rw [cnd_n (by decide)]; rfl
  · intro i hi again ha
    have : i = 0 := by omega
    subst this
    have e := r_fSub (a := 0) (b := q) (by unfold I64; omega) hI
    rw [show (0 : Int) - q = -q by omega] at e
    show stdW.cnd (decide ((0 : Int) < (1 : Int))) (stdW.call (fix_Sub 0 q) _) _ = _
    rw [cnd_y (by decide), call_eq e]
    unfold fits64
    rw [if_pos hI2]
    show stdW.cnd ((0 : Int) != 0) _ (stdW.room 1 16 (again (IntKind.i64.wrap (0 + 1), ([(k, (-q, ()))], ())))) = _
    rw [cnd_n (by decide), room_w (by omega) (by omega)]
    exact ha
end Go.Proofs.Ytbpbkmngbhgpfaa

namespace Go.Proofs.Ytbpbkmngbhgpfaa
open Go Go.Vc Go.RowKit
/-! ### a unit has more -/
def ofB : List APos' → AUnit' → List Leg
  | [], _ => []
  | p :: l, u => if p.1 = u then p.2.1 else ofB l u
theorem r_cloneL {s : List Leg} (h : s.length ≤ 1000000) : slices_Cloneapi_Leg_api_Leg s = some s := by
  show slices_Cloneapi_Leg_api_LegW stdW s = _
  unfold slices_Cloneapi_Leg_api_LegW
  rw [nilq_w]
  refine nilF_eq ?_ fun he => ?_
  · show stdW.cnd (notIf false false) _ _ = _
    rw [cnd_n (by decide), room_w (by omega) (by omega)]; rfl
  · have : s = [] := by simpa using he
    subst this; rfl
theorem r_bof {l : List APos'} {u : AUnit'} (hb : okB l) : book_Of l u = some (ofB l u) := by
  have hl := hb.2
  show book_OfW stdW l u = _
  unfold book_OfW
  refine loop_list (l := l) (by omega) (s0 := ()) (fun _ _ => True) (fun l' _ => some (ofB l' u)) trivial ?_ ?_
  · rintro _ again _
    rw [cnd_end]; rfl
  · rintro i hi _ _ again ha
    have h2 := (hb.1 _ (List.getElem_mem hi)).2
    rw [cnd_lt hi, idx_w hi, nif_f, eqA]
    show _ = some (ofB (l[i] :: l.drop (i + 1)) u)
    rw [ofB]
    by_cases h : l[i].1 = u
    · rw [cnd_y (decide_eq_true h), if_pos h, call_eq (r_cloneL (by omega))]
    · rw [cnd_n (decide_eq_false h), if_neg h]
      show again (IntKind.i64.wrap ((i : Int) + 1), ()) = _
      rw [i64_s i (by omega)]
      exact ha _ trivial
theorem r_copied {l : List APos'} (hb : okB l) : book_copied l = some l := by
  have hl := hb.2
  show book_copiedW stdW l = _
  unfold book_copiedW
  refine loop_az (N := l.length) (by omega) (fun i => ((i : Int), (l.take i, ()))) _ rfl ?_ ?_
  · intro again
    show stdW.cnd (decide ((l.length : Int) < (l.length : Int))) _ (some (l.take l.length)) = _
    rw [cnd_end, List.take_length]
  · intro i hi again ha
    have h2 := (hb.1 _ (List.getElem_mem hi)).2
    show stdW.cnd (decide ((i : Int) < (l.length : Int))) (stdW.idx l (i : Int) fun x3 => stdW.call (slices_Cloneapi_Leg_api_Leg x3.2.1) fun v4 => stdW.room ((l.take i).length + 1) 40 (again (IntKind.i64.wrap ((i : Int) + 1), (l.take i ++ [(x3.1, (v4, ()))], ())))) _ = _
    have : (l.take i).length ≤ 100 := by rw [List.length_take]; omega
    rw [cnd_lt hi, idx_w hi, call_eq (r_cloneL (by omega)), room_w (by omega) (by omega), i64_s i (by omega)]
    rw [List.take_succ_eq_append_getElem hi] at ha
    exact ha
def lowB (u : AUnit') (l : List APos') : List APos' := l.filter fun p => decide (ltA p.1 u)
def midB (u : AUnit') (l : List APos') : List APos' := l.filter fun p => decide (p.1 = u)
def highB (u : AUnit') (l : List APos') : List APos' := l.filter fun p => decide (ltA u p.1)
theorem fil_none {α : Type} {f : α → Bool} {l : List α} (h : ∀ x ∈ l, f x = false) : l.filter f = [] := List.filter_eq_nil_iff.2 fun x hx => by simp [h x hx]
theorem fil_all {α : Type} {f : α → Bool} {l : List α} (h : ∀ x ∈ l, f x = true) : l.filter f = l := List.filter_eq_self.2 h
theorem cutB (u : AUnit') : ∀ {l : List APos'}, SrtA (l.map (·.1)) → l = lowB u l ++ (midB u l ++ highB u l)
  | [], _ => rfl
  | p :: l, h => by
    obtain ⟨h1, h2⟩ := List.pairwise_cons.1 h
    have h1 : ∀ x ∈ l, ltA p.1 x.1 := fun x hx => h1 _ (List.mem_map_of_mem hx)
    have ih := cutB u (l := l) h2
    unfold lowB midB highB at ih ⊢
    rw [List.filter_cons, List.filter_cons, List.filter_cons]
    by_cases hp : ltA p.1 u
    · have e1 : ¬ p.1 = u := fun e => ltA_irr u (by rw [e] at hp; exact hp)
      have e2 : ¬ ltA u p.1 := fun e => ltA_as hp e
      rw [if_pos (by simpa using hp), if_neg (by simpa using e1), if_neg (by simpa using e2), List.cons_append, ← ih]
    · by_cases hu : p.1 = u
      · have e2 : ¬ ltA u p.1 := by rw [hu]; exact ltA_irr u
        have a1 : ∀ x ∈ l, decide (ltA x.1 u) = false := fun x hx => decide_eq_false fun e => ltA_as e (by rw [← hu]; exact h1 x hx)
        have a2 : ∀ x ∈ l, decide (x.1 = u) = false := fun x hx => decide_eq_false fun e => ltA_irr u (by have := h1 x hx; rw [hu, e] at this; exact this)
        have a3 : ∀ x ∈ l, decide (ltA u x.1) = true := fun x hx => decide_eq_true (by rw [← hu]; exact h1 x hx)
        rw [if_neg (by simpa using hp), if_pos (by simpa using hu), if_neg (by simpa using e2), fil_none a1, fil_none a2, fil_all a3]; rfl
      · have e2 : ltA u p.1 := Classical.byContradiction fun hn => hu (ltA_tot hp hn)
        have a1 : ∀ x ∈ l, decide (ltA x.1 u) = false := fun x hx => decide_eq_false fun e => ltA_as (ltA_tr e2 (h1 x hx)) e
        have a2 : ∀ x ∈ l, decide (x.1 = u) = false := fun x hx => decide_eq_false fun e => ltA_irr u (by have := ltA_tr e2 (h1 x hx); rw [e] at this; exact this)
        have a3 : ∀ x ∈ l, decide (ltA u x.1) = true := fun x hx => decide_eq_true (ltA_tr e2 (h1 x hx))
        rw [if_neg (by simpa using hp), if_neg (by simpa using hu), if_pos (by simpa using e2), fil_none a1, fil_none a2, fil_all a3]; rfl
theorem B_nd {l : List APos'} (h : SrtA (l.map (·.1))) : (l.map (·.1)).Nodup := srt_nd h
theorem ofB_mem {l : List APos'} (h : (l.map (·.1)).Nodup) {p : APos'} (hp : p ∈ l) : ofB l p.1 = p.2.1 := by
  induction l with
  | nil => cases hp
  | cons x l ih =>
    obtain ⟨h1, h2⟩ := List.nodup_cons.1 h
    rw [ofB]
    rcases List.mem_cons.1 hp with rfl | hp
    · rw [if_pos rfl]
    · rw [if_neg fun e => h1 (by show x.1 ∈ _; rw [e]; exact List.mem_map_of_mem hp), ih h2 hp]
theorem ofB_none {l : List APos'} {u : AUnit'} (h : ∀ p ∈ l, p.1 ≠ u) : ofB l u = [] := by
  induction l with
  | nil => rfl
  | cons x l ih => rw [ofB, if_neg (h x (by simp)), ih fun y hy => h y (by simp [hy])]
theorem mid_cases {l : List APos'} (h : SrtA (l.map (·.1))) (u : AUnit') : (midB u l = [] ∧ (∀ p ∈ l, p.1 ≠ u) ∧ ofB l u = []) ∨ (midB u l = [(u, (ofB l u, ()))] ∧ (u, (ofB l u, ())) ∈ l) := by
  by_cases hex : ∃ p ∈ l, p.1 = u
  · right
    obtain ⟨p, hp, rfl⟩ := hex
    have e := ofB_mem (B_nd h) hp
    have ep : ((p.1, (ofB l p.1, ())) : APos') = p := by rw [e]
    rw [ep]
    refine ⟨?_, hp⟩
    have hn := B_nd h
    clear h e ep
    induction l with
    | nil => cases hp
    | cons x l ih =>
      obtain ⟨h1, h2⟩ := List.nodup_cons.1 hn
      unfold midB at ih ⊢
      rw [List.filter_cons]
      rcases List.mem_cons.1 hp with rfl | hp
      · rw [if_pos (by simp), fil_none fun y hy => decide_eq_false fun e => h1 (by show p.1 ∈ _; rw [← e]; exact List.mem_map_of_mem hy)]
      · rw [if_neg (by simpa using fun e => h1 (by show x.1 ∈ _; rw [e]; exact List.mem_map_of_mem hp)), ih hp h2]
  · left
    have hne : ∀ p ∈ l, p.1 ≠ u := fun p hp e => hex ⟨p, hp, e⟩
    exact ⟨fil_none fun p hp => decide_eq_false (hne p hp), hne, ofB_none hne⟩
def hasU (l : List APos') (u : AUnit') : Bool := !(midB u l).isEmpty
theorem r_place {l : List APos'} {u : AUnit'} (hb : okB l) (h : SrtA (l.map (·.1))) : book_place l u = some (((lowB u l).length : Int), (hasU l u, ())) := by
  have hl := hb.2
  have hc := cutB u h
  show book_placeW stdW l u = _
  unfold book_placeW
  have hlow : ∀ p ∈ lowB u l, ltA p.1 u := fun p hp => by simpa using (List.mem_filter.1 hp).2
  have hrest : ∀ p ∈ midB u l ++ highB u l, ¬ ltA p.1 u := fun p hp => by
    rcases List.mem_append.1 hp with hp | hp
    · have : p.1 = u := by simpa using (List.mem_filter.1 hp).2
      rw [this]; exact ltA_irr u
    · have : ltA u p.1 := by simpa using (List.mem_filter.1 hp).2
      exact fun e => ltA_as this e
  have hll : (lowB u l).length + (midB u l ++ highB u l).length = l.length := by rw [← List.length_append, ← hc]
  have hget1 : ∀ i (hi : i < l.length), i < (lowB u l).length → ltA l[i].1 u := fun i hi hlt => by
    refine hlow _ ?_
    have : l[i]? = (lowB u l ++ (midB u l ++ highB u l))[i]? := by rw [← hc]
    rw [List.getElem?_append_left hlt, List.getElem?_eq_getElem hi, List.getElem?_eq_getElem hlt] at this
    rw [Option.some.inj this]; exact List.getElem_mem hlt
  have hget2 : ∀ (hi : (lowB u l).length < l.length), (midB u l ++ highB u l)[0]? = some l[(lowB u l).length] := fun hi => by
    have : l[(lowB u l).length]? = (lowB u l ++ (midB u l ++ highB u l))[(lowB u l).length]? := by rw [← hc]
    rw [List.getElem?_append_right (Nat.le_refl _), Nat.sub_self, List.getElem?_eq_getElem hi] at this
    exact this.symm
  refine (loop_std (fun z => l.length + 1 - z.1.toNat) (fun z => ∃ i : Nat, i ≤ (lowB u l).length ∧ z = ((i : Int), ())) (fun _ => some (((lowB u l).length : Int), (hasU l u, ()))) ⟨0, Nat.zero_le _, rfl⟩ (by show _ - (0 : Int).toNat < _; omega) ?_)
  rintro _ ⟨i, hi, rfl⟩ again ha
  show stdW.cnd (decide ((i : Int) < (l.length : Int))) (stdW.idx l (i : Int) _) (some ((l.length : Int), (false, ()))) = _
  by_cases hlt : i < (lowB u l).length
  · have hil : i < l.length := by omega
    rw [cnd_lt hil, idx_w hil, call_eq (r_lessA _ _), decide_eq_true (hget1 i hil hlt), cnd_n (by decide)]
    show again (IntKind.i64.wrap ((i : Int) + 1), ()) = _
    rw [i64_s i (by omega)]
    exact ha _ ⟨i + 1, by omega, rfl⟩ (by show _ - ((i + 1 : Nat) : Int).toNat < _ - ((i : Nat) : Int).toNat; omega)
  · have hie : i = (lowB u l).length := by omega
    by_cases hil : i < l.length
    · subst hie
      have h0 := hget2 hil
      have hm := hrest l[(lowB u l).length] (List.mem_of_getElem? h0)
      rw [cnd_lt hil, idx_w hil, call_eq (r_lessA _ _), decide_eq_false hm, cnd_y (by decide), nif_f, eqA]
      congr 3
      unfold hasU
      cases hmid : midB u l with
      | nil =>
        rw [hmid, List.nil_append] at h0
        have := List.mem_of_getElem? h0
        have : ltA u l[(lowB u l).length].1 := by simpa using (List.mem_filter.1 this).2
        rw [decide_eq_false fun e => ltA_irr u (by rw [e] at this; exact this)]; rfl
      | cons p m =>
        rw [hmid] at h0
        have e : p = l[(lowB u l).length] := by simpa using h0
        have hp : p ∈ midB u l := by rw [hmid]; simp
        have : p.1 = u := by simpa using (List.mem_filter.1 hp).2
        rw [← e, decide_eq_true this]; rfl
    · have hil' : i = l.length := by omega
      have : midB u l ++ highB u l = [] := List.eq_nil_of_length_eq_zero (by omega)
      have hm : midB u l = [] := (List.append_eq_nil_iff.1 this).1
      rw [cnd_n (decide_eq_false (by omega))]
      unfold hasU
      rw [hm, ← hie, hil']; rfl
def putB (l : List APos') (u : AUnit') (now : List Leg) : List APos' := lowB u l ++ ((if now = [] then [] else [(u, (now, ()))]) ++ highB u l)
theorem putB_len {l : List APos'} (h : SrtA (l.map (·.1))) (u : AUnit') (now : List Leg) : (putB l u now).length ≤ l.length + 1 := by
  have hc := congrArg List.length (cutB u h)
  unfold putB
  rw [List.length_append, List.length_append] at hc
  rw [List.length_append, List.length_append]
  split <;> simp <;> omega
theorem putB_mem {l : List APos'} {u : AUnit'} {now : List Leg} {p : APos'} : p ∈ putB l u now ↔ (p ∈ l ∧ p.1 ≠ u) ∨ (now ≠ [] ∧ p = (u, (now, ()))) := by
  unfold putB lowB highB
  rw [List.mem_append, List.mem_append, List.mem_filter, List.mem_filter]
  constructor
  · rintro (⟨h1, h2⟩ | h | ⟨h1, h2⟩)
    · exact .inl ⟨h1, fun e => ltA_irr u (by simp only [decide_eq_true_eq] at h2; rw [e] at h2; exact h2)⟩
    · split at h
      · cases h
      · rename_i hn; exact .inr ⟨hn, by simpa using h⟩
    · exact .inl ⟨h1, fun e => ltA_irr u (by simp only [decide_eq_true_eq] at h2; rw [e] at h2; exact h2)⟩
  · rintro (⟨h1, h2⟩ | ⟨hn, rfl⟩)
    · by_cases hlt : ltA p.1 u
      · exact .inl ⟨h1, by simpa using hlt⟩
      · by_cases hgt : ltA u p.1
        · exact .inr (.inr ⟨h1, by simpa using hgt⟩)
        · exact absurd (ltA_tot hlt hgt) h2
    · rw [if_neg hn]; exact .inr (.inl (by simp))
theorem putB_srt {l : List APos'} (h : SrtA (l.map (·.1))) (u : AUnit') (now : List Leg) : SrtA ((putB l u now).map (·.1)) := by
  unfold putB
  rw [List.map_append, List.map_append]
  have hlow : ∀ x ∈ (lowB u l).map (·.1), ltA x u := fun x hx => by
    obtain ⟨p, hp, rfl⟩ := List.mem_map.1 hx
    simpa using (List.mem_filter.1 hp).2
  have hhigh : ∀ x ∈ (highB u l).map (·.1), ltA u x := fun x hx => by
    obtain ⟨p, hp, rfl⟩ := List.mem_map.1 hx
    simpa using (List.mem_filter.1 hp).2
  have s1 : SrtA ((lowB u l).map (·.1)) := List.Pairwise.sublist ((List.filter_sublist).map _) h
  have s2 : SrtA ((highB u l).map (·.1)) := List.Pairwise.sublist ((List.filter_sublist).map _) h
  have hmid : ∀ x ∈ (if now = [] then ([] : List APos') else [(u, (now, ()))]).map (·.1), x = u := fun x hx => by
    split at hx
    · cases hx
    · simpa using hx
  refine List.pairwise_append.2 ⟨s1, List.pairwise_append.2 ⟨?_, s2, fun a ha b hb => ?_⟩, fun a ha b hb => ?_⟩
  · split <;> simp
  · rw [hmid a ha]; exact hhigh b hb
  · rcases List.mem_append.1 hb with hb | hb
    · rw [hmid b hb]; exact hlow a ha
    · exact ltA_tr (hlow a ha) (hhigh b hb)
theorem putB_B {l : List APos'} (h : BInv l) (u : AUnit') {now : List Leg} (hv : VInv now) : BInv (putB l u now) :=
  ⟨fun p hp => by
    rcases putB_mem.1 hp with ⟨h1, _⟩ | ⟨hn, rfl⟩
    · exact h.1 p h1
    · exact ⟨hn, hv⟩, putB_srt h.2 u now⟩
theorem putB_of {l : List APos'} (h : SrtA (l.map (·.1))) (u : AUnit') (now : List Leg) (x : AUnit') : ofB (putB l u now) x = if x = u then now else ofB l x := by
  have hn := B_nd (putB_srt h u now)
  by_cases hx : x = u
  · subst hx
    rw [if_pos rfl]
    by_cases h0 : now = []
    · rw [h0]
      refine ofB_none fun p hp => ?_
      rcases putB_mem.1 hp with ⟨_, h2⟩ | ⟨h2, _⟩
      · exact h2
      · exact absurd rfl h2
    · exact ofB_mem hn (p := (x, (now, ()))) (putB_mem.2 (.inr ⟨h0, rfl⟩))
  · rw [if_neg hx]
    by_cases hex : ∃ p ∈ l, p.1 = x
    · obtain ⟨p, hp, rfl⟩ := hex
      rw [ofB_mem (B_nd h) hp, ofB_mem hn (putB_mem.2 (.inl ⟨hp, hx⟩))]
    · have hne : ∀ p ∈ l, p.1 ≠ x := fun p hp e => hex ⟨p, hp, e⟩
      rw [ofB_none hne]
      refine ofB_none fun p hp => ?_
      rcases putB_mem.1 hp with ⟨h1, _⟩ | ⟨_, rfl⟩
      · exact hne p h1
      · exact Ne.symm hx
theorem B_keys {l : List APos'} (hn : (l.map (·.1)).Nodup) : l = (l.map (·.1)).map fun u => ((u, (ofB l u, ())) : APos') := by
  rw [List.map_map]
  refine (List.map_id l).symm.trans (List.map_congr_left fun p hp => ?_)
  show p = ((p.1, (ofB l p.1, ())) : APos')
  rw [ofB_mem hn hp]
theorem B_mem {l : List APos'} (h : BInv l) (u : AUnit') : u ∈ l.map (·.1) ↔ ofB l u ≠ [] := by
  constructor
  · intro hu
    obtain ⟨p, hp, rfl⟩ := List.mem_map.1 hu
    rw [ofB_mem (B_nd h.2) hp]; exact (h.1 p hp).1
  · intro hu
    refine Classical.byContradiction fun hn => hu (ofB_none fun p hp e => hn (List.mem_map.2 ⟨p, hp, e⟩))
theorem B_ext {a b : List APos'} (ha : BInv a) (hb : BInv b) (h : ∀ u, ofB a u = ofB b u) : a = b := by
  have e : a.map (·.1) = b.map (·.1) := srt_ext ha.2 hb.2 fun u => by rw [B_mem ha, B_mem hb, h]
  rw [B_keys (B_nd ha.2), B_keys (B_nd hb.2), e]
  exact List.map_congr_left fun u _ => by rw [h]
theorem opn_put {l : List APos'} (h : SrtA (l.map (·.1))) (u : AUnit') (now : List Leg) (k : Int) : opnZ (putB l u now) k = opnZ l k - getV (ofB l u) k + getV now k := by
  have e : opnZ l k = opnZ (lowB u l) k + (opnZ (midB u l) k + opnZ (highB u l) k) := by
    have := congrArg (fun m => opnZ m k) (cutB u h)
    unfold opnZ at this ⊢
    rw [sumBy_app, sumBy_app] at this
    exact this
  have e2 : opnZ (midB u l) k = getV (ofB l u) k := by
    rcases mid_cases h u with ⟨h1, _, h3⟩ | ⟨h1, _⟩
    · rw [h1, h3]; rfl
    · rw [h1]; show getV (ofB l u) k + 0 = _; omega
  have e3 : opnZ (putB l u now) k = opnZ (lowB u l) k + (getV now k + opnZ (highB u l) k) := by
    unfold putB opnZ
    rw [sumBy_app, sumBy_app]
    by_cases h0 : now = []
    · rw [if_pos h0, h0]; rfl
    · rw [if_neg h0]
      show _ + ((getV now k + 0) + _) = _; omega
  rw [e3, e, e2]; omega
def shiftP (l : List APos') (u : AUnit') (legs : List Leg) : List APos' × Int × Unit :=
  if isB l = true then (if (addV [ofB l u, legs]).2.1 = 0 then (putB l u (addV [ofB l u, legs]).1, (0, ())) else ([], (addV [ofB l u, legs]).2)) else ([], (3, ()))
theorem ofB_ok {l : List APos'} (hb : okB l) (u : AUnit') : okL (ofB l u) ∧ (ofB l u).length ≤ 100 := by
  have : ∀ l : List APos', (∀ p ∈ l, okL p.2.1 ∧ p.2.1.length ≤ 100) → okL (ofB l u) ∧ (ofB l u).length ≤ 100 := by
    intro l
    induction l with
    | nil => intro _; exact ⟨(fun x hx => by cases hx), by simp [ofB]⟩
    | cons p l ih =>
      intro h
      rw [ofB]
      split
      · exact h p (by simp)
      · exact ih fun q hq => h q (by simp [hq])
  exact this l hb.1
theorem r_shift {l : List APos'} {u : AUnit'} {legs : List Leg} (hb : okB l) (hl : l.length ≤ 90) (ho : okL legs) (hg : legs.length ≤ 100) : book_Shift l u legs = some (shiftP l u legs) := by
  show book_ShiftW stdW l u legs = _
  unfold book_ShiftW shiftP
  rw [call_eq (r_isB hb)]
  by_cases hp : isB l = true
  · have hB : BInv l := of_decide_eq_true hp
    obtain ⟨h1, h2⟩ := ofB_ok hb u
    rw [hp, cnd_n (by decide), if_pos rfl, call_eq (r_bof hb), call_eq (r_vadd (l := [ofB l u, legs]) (by simp) (fun v hv => by
      simp only [List.mem_cons, List.not_mem_nil, or_false] at hv
      rcases hv with rfl | rfl <;> omega) (fun v hv => by
      simp only [List.mem_cons, List.not_mem_nil, or_false] at hv
      rcases hv with rfl | rfl
      · exact h1
      · exact ho))]
    by_cases he : (addV [ofB l u, legs]).2.1 = 0
    · have hnow := (addV_ok he).2.1
      have hnl := resV_len (sumV [ofB l u, legs])
      rw [← hnow] at hnl
      rw [cnd_n (by simp [he]), if_pos he, call_eq (r_place hb hB.2), call_eq (r_copied hb)]
      have hc := cutB u hB.2
      have hcl := congrArg List.length hc
      rw [List.length_append, List.length_append] at hcl
      refine join_g fun k10 hk => ?_
      have kk : ∀ o : List APos', o = lowB u l ++ highB u l → k10 ((addV [ofB l u, legs]).1, (o, ())) = some (putB l u (addV [ofB l u, legs]).1, (0, ())) := by
        intro o ho'
        subst hk
        refine join_g fun k8 hk8 => ?_
        have k8' : ∀ o', k8 (o', ()) = some (o', (0, ())) := by intro o'; subst hk8; rfl
        clear hk8
        show stdW.cnd (decide ((0 : Int) < ((addV [ofB l u, legs]).1.length : Int))) (stdW.call (insO o ((lowB u l).length : Int) [(u, ((addV [ofB l u, legs]).1, ()))]) fun v9 => k8 (v9.1, ())) (k8 (o, ())) = _
        unfold putB
        by_cases h0 : (addV [ofB l u, legs]).1 = []
        · rw [cnd_n (decide_eq_false (by rw [h0]; simp)), k8', if_pos h0, ho']; rfl
        · have hpos : 0 < (addV [ofB l u, legs]).1.length := List.length_pos_iff.2 h0
          have e : insO o ((lowB u l).length : Int) [(u, ((addV [ofB l u, legs]).1, ()))] = some (lowB u l ++ (u, ((addV [ofB l u, legs]).1, ())) :: highB u l, ()) := by
            unfold insO
            rw [ho', if_pos ⟨by omega, by rw [List.length_append]; omega, by rw [List.length_append]; omega⟩]
            show some ((lowB u l ++ highB u l).take ((lowB u l).length : Int).toNat ++ _ :: (lowB u l ++ highB u l).drop ((lowB u l).length : Int).toNat, ()) = _
            rw [Int.toNat_natCast, List.take_left, List.drop_left]
          rw [cnd_y (decide_eq_true (by omega)), call_eq e, if_neg h0]
          exact k8' _
      clear hk
      show stdW.cnd (hasU l u) (stdW.call (delO l ((lowB u l).length : Int) (IntKind.i64.wrap (((lowB u l).length : Int) + 1))) fun v11 => k10 ((addV [ofB l u, legs]).1, (v11.1, ()))) (k10 ((addV [ofB l u, legs]).1, (l, ()))) = _
      rcases mid_cases hB.2 u with ⟨h3, _, _⟩ | ⟨h3, _⟩
      · rw [cnd_n (by unfold hasU; rw [h3]; rfl)]
        rw [h3, List.nil_append] at hc
        exact kk l hc
      · rw [h3] at hc hcl
        rw [cnd_y (by unfold hasU; rw [h3]; rfl), i64_s _ (by simp at hcl; omega)]
        have e : delO l ((lowB u l).length : Int) (((lowB u l).length + 1 : Nat) : Int) = some (lowB u l ++ highB u l, ()) := by
          unfold delO
          rw [if_pos ⟨by omega, by omega, by simp at hcl; omega⟩, Int.toNat_natCast, Int.toNat_natCast]
          congr 2
          have e1 : l.take (lowB u l).length = lowB u l := by
            have := congrArg (List.take (lowB u l).length) hc
            rwa [List.take_left] at this
          have e2 : l.drop ((lowB u l).length + 1) = highB u l := by
            have := congrArg (List.drop ((lowB u l).length + 1)) hc
            rw [List.drop_append, List.drop_eq_nil_of_le (Nat.le_succ _), Nat.add_sub_cancel_left] at this
            exact this
          rw [e1, e2]
        rw [call_eq e]
        exact kk _ rfl
    · rw [cnd_y (by simp [he]), if_neg he]
  · have hp : isB l = false := by simpa using hp
    rw [hp, cnd_y (by decide), if_neg (by simp)]
end Go.Proofs.Ytbpbkmngbhgpfaa

namespace Go.Proofs.Ytbpbkmngbhgpfaa
open Go Go.Vc Go.RowKit
end Go.Proofs.Ytbpbkmngbhgpfaa

namespace Go.Proofs.Ytbpbkmngbhgpfaa
open Go Go.Vc Go.RowKit
/-! ### instruments that may be -/
theorem r_priced (p : Int) : inst_priced p = some (decide (0 ≤ p ∧ p ≤ 2147483647)) := by
  show inst_pricedW stdW p = _
  unfold inst_pricedW
  by_cases h : 0 ≤ p
  · rw [cnd_y (decide_eq_true h)]; congr 1; exact decide_eq_decide.2 (by omega)
  · rw [cnd_n (decide_eq_false h), decide_eq_false (by omega)]
def farI (m : Int) : Bool := decide (m < -2147483647) || decide (2147483647 < m)
theorem r_far (m : Int) : inst_far m = some (farI m) := by
  show inst_farW stdW m = _
  unfold inst_farW farI
  by_cases h : m < -2147483647
  · rw [cnd_y (decide_eq_true h), decide_eq_true h]; rfl
  · rw [cnd_n (decide_eq_false h), decide_eq_false h]; rfl
theorem r_ixf {s : List Int} (hs : s.length ≤ 1000000) : ∃ i : Int, slices_IndexFuncint64_int64_inst_far s = some (i, ()) ∧ decide (0 ≤ i) = s.any farI := by
  show ∃ i, slices_IndexFuncint64_int64_inst_farW stdW s = _ ∧ _
  unfold slices_IndexFuncint64_int64_inst_farW
  refine loop_P (fun o => ∃ i : Int, o = some (i, ()) ∧ decide (0 ≤ i) = s.any farI) (fun z => s.length + 1 - z.1.toNat) (fun z => ∃ j : Nat, j ≤ s.length ∧ z = ((j : Int), ()) ∧ (s.take j).any farI = false) ⟨0, Nat.zero_le _, rfl, by simp⟩ (by show _ - (0 : Int).toNat < _; omega) ?_
  rintro _ ⟨j, hj, rfl, hp⟩ again ha
  show ∃ i, stdW.cnd (decide ((j : Int) < (s.length : Int))) _ _ = _ ∧ _
  by_cases h : j < s.length
  · rw [cnd_lt h]
    show ∃ i, stdW.idx s (j : Int) _ = _ ∧ _
    rw [idx_w h, call_eq (r_far _)]
    cases hv : farI s[j] with
    | false =>
      rw [cnd_n rfl]
      show ∃ i, again (IntKind.i64.wrap ((j : Int) + 1), ()) = _ ∧ _
      rw [i64_s j (by omega)]
      refine ha _ ⟨j + 1, by omega, rfl, ?_⟩ (by show _ - ((j + 1 : Nat) : Int).toNat < _ - ((j : Nat) : Int).toNat; omega)
      rw [List.take_succ_eq_append_getElem h, List.any_append, hp]; simp [hv]
    | true =>
      rw [cnd_y rfl]
      refine ⟨(j : Int), rfl, ?_⟩
      have : s.any farI = true := List.any_eq_true.2 ⟨s[j], List.getElem_mem h, hv⟩
      rw [this, decide_eq_true (by omega)]
  · have : j = s.length := by omega
    subst this
    rw [cnd_end]
    rw [List.take_length] at hp
    exact ⟨-1, rfl, by rw [hp]; rfl⟩
theorem r_cff {s : List Int} (hs : s.length ≤ 1000000) : slices_ContainsFuncint64_int64_inst_far s = some (s.any farI, ()) := by
  show slices_ContainsFuncint64_int64_inst_farW stdW s = _
  unfold slices_ContainsFuncint64_int64_inst_farW
  obtain ⟨i, e, h⟩ := r_ixf hs
  rw [call_eq e]
  show some (decide (0 ≤ i), ()) = _
  rw [h]
def okC (i : AInst') : Prop := (1 ≤ i.1 ∧ i.1 ≤ 8) ∧ (1 ≤ i.2.1 ∧ i.2.1 ≤ 65536) ∧ (0 ≤ i.2.2.1 ∧ i.2.2.1 ≤ 2147483647) ∧ (0 ≤ i.2.2.2.1 ∧ i.2.2.2.1 ≤ 2147483647) ∧ i.2.2.2.2.1.length ≤ 8 ∧ i.2.2.2.2.1.any farI = false
instance (i : AInst') : Decidable (okC i) := by unfold okC; infer_instance
theorem r_check {i : AInst'} (hm : i.2.2.2.2.1.length ≤ 1000000) : inst_Check i = some (if okC i then 0 else 2) := by
  show inst_CheckW stdW i = _
  unfold inst_CheckW
  refine join_g fun k7 hk7 => ?_
  have bad : ¬ okC i → (2 : Int) = if okC i then 0 else 2 := fun h => (if_neg h).symm
  have k7f : ¬ okC i → k7 (false, ()) = some (if okC i then 0 else 2) := by
    intro h
    rw [← bad h]
    subst hk7
    refine join_g fun k3 hk3 => ?_
    have k3t : k3 (true, ()) = some 2 := by subst hk3; rfl
    clear hk3
    show stdW.cnd true (k3 (true, ())) _ = _
    rw [cnd_y rfl, k3t]
  have k7t : (1 ≤ i.1 ∧ i.1 ≤ 8) → (1 ≤ i.2.1 ∧ i.2.1 ≤ 65536) → k7 (true, ()) = some (if okC i then 0 else 2) := by
    intro c1 c2
    subst hk7
    refine join_g fun k3 hk3 => ?_
    have k3t : k3 (true, ()) = some 2 := by subst hk3; rfl
    have k3f : k3 (false, ()) = some 0 := by subst hk3; rfl
    clear hk3
    show stdW.cnd false _ (stdW.call (inst_priced i.2.2.1) _) = _
    rw [cnd_n rfl, call_eq (r_priced _)]
    by_cases h3 : 0 ≤ i.2.2.1 ∧ i.2.2.1 ≤ 2147483647
    · rw [decide_eq_true h3, cnd_n (by decide), call_eq (r_priced _)]
      by_cases h4 : 0 ≤ i.2.2.2.1 ∧ i.2.2.2.1 ≤ 2147483647
      · rw [decide_eq_true h4, cnd_n (by decide)]
        by_cases h5 : i.2.2.2.2.1.length ≤ 8
        · rw [cnd_n (decide_eq_false (by omega)), call_eq (r_cff hm)]
          cases h6 : i.2.2.2.2.1.any farI with
          | true => rw [← bad fun h => by rw [h.2.2.2.2.2] at h6; cases h6]; exact k3t
          | false => rw [if_pos ⟨c1, c2, h3, h4, h5, h6⟩]; exact k3f
        · rw [cnd_y (decide_eq_true (by omega)), k3t, ← bad fun h => h5 h.2.2.2.2.1]
      · rw [decide_eq_false h4, cnd_y (by decide), k3t, ← bad fun h => h4 h.2.2.2.1]
    · rw [decide_eq_false h3, cnd_y (by decide), k3t, ← bad fun h => h3 h.2.2.1]
  clear hk7
  by_cases h1 : 1 ≤ i.1
  · rw [cnd_y (decide_eq_true h1)]
    by_cases h2 : i.1 ≤ 8
    · rw [cnd_y (decide_eq_true h2)]
      by_cases h3 : 1 ≤ i.2.1
      · rw [cnd_y (decide_eq_true h3)]
        by_cases h4 : i.2.1 ≤ 65536
        · rw [decide_eq_true h4]; exact k7t ⟨h1, h2⟩ ⟨h3, h4⟩
        · rw [decide_eq_false h4]; exact k7f fun h => h4 h.2.1.2
      · rw [cnd_n (decide_eq_false h3)]; exact k7f fun h => h3 h.2.1.1
    · rw [cnd_n (decide_eq_false h2)]; exact k7f fun h => h2 h.1.2
  · rw [cnd_n (decide_eq_false h1)]; exact k7f fun h => h1 h.1.1
def rightD (i : AInst') (q p : Int) : Prop := okC i ∧ (0 ≤ p ∧ p ≤ 2147483647) ∧ q ≠ 0 ∧ -1099511627776 ≤ q ∧ q ≤ 1099511627776
instance (i : AInst') (q p : Int) : Decidable (rightD i q p) := by unfold rightD; infer_instance
theorem r_right {i : AInst'} {q p : Int} (hm : i.2.2.2.2.1.length ≤ 1000000) : deal_right i q p = some (decide (rightD i q p)) := by
  show deal_rightW stdW i q p = _
  unfold deal_rightW
  have e : inst_Check (i.1, (i.2.1, (i.2.2.1, (i.2.2.2.1, (i.2.2.2.2.1, ()))))) = some (if okC i then 0 else 2) := r_check hm
  rw [call_eq e]
  by_cases h0 : okC i
  · rw [if_pos h0, cnd_y (by decide)]
    by_cases h1 : 0 ≤ p
    · rw [cnd_y (decide_eq_true h1)]
      by_cases h2 : p ≤ 2147483647
      · rw [cnd_y (decide_eq_true h2)]
        by_cases h3 : q = 0
        · rw [cnd_n (by simp [h3]), decide_eq_false fun h => h.2.2.1 h3]
        · rw [cnd_y (by simp [h3])]
          by_cases h4 : -1099511627776 ≤ q
          · rw [cnd_y (decide_eq_true h4)]
            congr 1
            exact decide_eq_decide.2 ⟨fun h => ⟨h0, ⟨h1, h2⟩, h3, h4, h⟩, fun h => h.2.2.2.2⟩
          · rw [cnd_n (decide_eq_false h4), decide_eq_false fun h => h4 h.2.2.2.1]
      · rw [cnd_n (decide_eq_false h2), decide_eq_false fun h => h2 h.2.1.2]
    · rw [cnd_n (decide_eq_false h1), decide_eq_false fun h => h1 h.2.1.1]
  · rw [if_neg h0, cnd_n (by decide), decide_eq_false fun h => h0 h.1]
def gZ (i : AInst') (q a b : Int) : Int := (b - a) * i.2.1 * q
theorem gZ_bd {i : AInst'} (h : okC i) {q a b : Int} (hq : I64 q) (ha : 0 ≤ a ∧ a ≤ 2147483647) (hb : 0 ≤ b ∧ b ≤ 2147483647) : -1298074214633706907132624082305024 ≤ gZ i q a b ∧ gZ i q a b ≤ 1298074214633706907132624082305024 := by
  unfold I64 at hq
  obtain ⟨_, h2, _⟩ := h
  have h1 : -140737488355328 ≤ (b - a) * i.2.1 ∧ (b - a) * i.2.1 ≤ 140737488355328 := mul_abs (A := 2147483648) (B := 65536) (by omega) (by omega)
  exact mul_abs (A := 140737488355328) (B := 9223372036854775808) h1 (by omega)
theorem r_igain {i : AInst'} {q a b : Int} (hm : i.2.2.2.2.1.length ≤ 1000000) (h : okC i) (hq : I64 q) (ha : 0 ≤ a ∧ a ≤ 2147483647) (hb : 0 ≤ b ∧ b ≤ 2147483647) : inst_Gain i q a b = some (fits64 (gZ i q a b)) := by
  show inst_GainW stdW i q a b = _
  unfold inst_GainW
  have e : inst_Check (i.1, (i.2.1, (i.2.2.1, (i.2.2.2.1, (i.2.2.2.2.1, ()))))) = some (if okC i then 0 else 2) := r_check hm
  have hbd := gZ_bd h hq ha hb
  have h2 := h.2.1
  have h1 : -140737488355328 ≤ (b - a) * i.2.1 ∧ (b - a) * i.2.1 ≤ 140737488355328 := mul_abs (A := 2147483648) (B := 65536) (by omega) (by omega)
  refine join_g fun k5 hk => ?_
  have kf : k5 (false, ()) = some (fits64 (gZ i q a b)) := by
    subst hk
    show stdW.cnd false _ (stdW.call (wide_Mul (IntKind.i64.wrap (b - a)) i.2.1) _) = _
    rw [cnd_n rfl, IntWalk.i64_in _ (by omega), call_eq (r_wMul (by unfold I64; omega) (by unfold I64; omega)), call_eq (r_wTimes (by unfold I64; omega) hq)]
    show stdW.cnd ((0 : Int) != 0) _ (stdW.call (wide_Int (wide (gZ i q a b))) _) = _
    rw [cnd_n (by decide), call_eq (r_wInt (by unfold In128; omega))]
  clear hk
  rw [call_eq e, if_pos h, cnd_n (by decide), call_eq (r_priced _), decide_eq_true ha, cnd_n (by decide), call_eq (r_priced _), decide_eq_true hb]
  exact kf
/-! ### a transfer -/
structure ShOk (l l' : List APos') (u : AUnit') (legs : List Leg) : Prop where
  inv : BInv l
  inv' : BInv l'
  other : ∀ x, x ≠ u → ofB l' x = ofB l x
  own : ∀ j, getV (ofB l' u) j = getV (ofB l u) j + getV legs j
  opn : ∀ j, opnZ l' j = opnZ l j + getV legs j
  len : l'.length ≤ l.length + 1
  ok : okB l → l.length ≤ 99 → okB l'
theorem sumV2 (a b : List Leg) (k : Int) : sumV [a, b] k = getV a k + getV b k := by
  show getV a k + (getV b k + 0) = _; omega
theorem shift_ok {l : List APos'} {u : AUnit'} {legs : List Leg} (h : (shiftP l u legs).2.1 = 0) : ShOk l (shiftP l u legs).1 u legs := by
  unfold shiftP at h ⊢
  by_cases hp : isB l = true
  · have hB : BInv l := of_decide_eq_true hp
    rw [if_pos hp] at h ⊢
    by_cases he : (addV [ofB l u, legs]).2.1 = 0
    · rw [if_pos he] at h ⊢
      obtain ⟨h1, h2, h3, h4⟩ := addV_ok he
      have hV : VInv (addV [ofB l u, legs]).1 := by rw [h2]; exact resV_V _
      refine ⟨hB, putB_B hB u hV, fun x hx => by rw [putB_of hB.2, if_neg hx], fun j => by rw [putB_of hB.2, if_pos rfl, h4, sumV2], fun j => by rw [opn_put hB.2, h4, sumV2]; omega, putB_len hB.2 u _, fun hb hl => ⟨fun p hp => ?_, by show (putB l u (addV [ofB l u, legs]).1).length ≤ 100; have := putB_len hB.2 u (addV [ofB l u, legs]).1; omega⟩⟩
      rcases putB_mem.1 hp with ⟨h5, _⟩ | ⟨_, rfl⟩
      · exact hb.1 p h5
      · refine ⟨fun x hx => ?_, ?_⟩
        · show I64 x.2.1
          have hx : x ∈ (addV [ofB l u, legs]).1 := hx
          rw [h2] at hx
          obtain ⟨v, hv, rfl⟩ := List.mem_map.1 hx
          exact h3 v (List.mem_filter.1 hv).1
        · show (addV [ofB l u, legs]).1.length ≤ 100
          rw [h2]; exact Nat.le_trans (resV_len _) (by decide)
    · rw [if_neg he] at h; exact absurd h he
  · rw [if_neg hp] at h; simp at h
def moveB (l : List APos') (f t : AUnit') (k q : Int) : List APos' × Int × Unit :=
  if isB l = true then (if (shiftP l f [(k, (-q, ()))]).2.1 = 0 then shiftP (shiftP l f [(k, (-q, ()))]).1 t [(k, (q, ()))] else ([], (shiftP l f [(k, (-q, ()))]).2)) else ([], (3, ()))
theorem okL1 {k q : Int} (h : I64 q) : okL [((k, (q, ())) : Leg)] := fun x hx => by
  simp only [List.mem_singleton] at hx; subst hx; exact h
theorem r_bmove {l : List APos'} {f t : AUnit'} {k q : Int} (hb : okB l) (hl : l.length ≤ 80) (hk : 1 ≤ k ∧ k ≤ 8) (hq : q ≠ 0) (hI : I64 q) (hI2 : I64 (-q)) : book_Move l f t [(k, (q, ()))] = some (moveB l f t k q) := by
  show book_MoveW stdW l f t [(k, (q, ()))] = _
  unfold book_MoveW moveB
  rw [call_eq (r_isB hb)]
  by_cases hp : isB l = true
  · rw [hp, cnd_n (by decide), if_pos rfl, call_eq (r_neg1 hk hq hI hI2)]
    show stdW.cnd ((0 : Int) != 0) _ (stdW.call (book_Shift l f [(k, (-q, ()))]) _) = _
    rw [cnd_n (by decide), call_eq (r_shift hb (by omega) (okL1 hI2) (by simp))]
    by_cases he : (shiftP l f [(k, (-q, ()))]).2.1 = 0
    · have S := shift_ok he
      have hlen := S.len
      rw [cnd_n (by simp [he]), if_pos he, call_eq (r_shift (S.ok hb (by omega)) (by omega) (okL1 hI) (by simp))]
    · rw [cnd_y (by simp [he]), if_neg he]
  · have hp : isB l = false := by simpa using hp
    rw [hp, cnd_y (by decide), if_neg (by simp)]
structure MvOk (l l' : List APos') (f t : AUnit') (k q : Int) : Prop where
  inv : BInv l
  inv' : BInv l'
  of : ∀ x j, getV (ofB l' x) j = getV (ofB l x) j + (if x = f then getV [((k, (-q, ())) : Leg)] j else 0) + (if x = t then getV [((k, (q, ())) : Leg)] j else 0)
  other : ∀ x, x ≠ f → x ≠ t → ofB l' x = ofB l x
  opn : ∀ j, opnZ l' j = opnZ l j
  len : l'.length ≤ l.length + 2
  ok : okB l → l.length ≤ 90 → okB l'
theorem move_ok {l : List APos'} {f t : AUnit'} {k q : Int} (h : (moveB l f t k q).2.1 = 0) : MvOk l (moveB l f t k q).1 f t k q := by
  unfold moveB at h ⊢
  by_cases hp : isB l = true
  · rw [if_pos hp] at h ⊢
    by_cases he : (shiftP l f [(k, (-q, ()))]).2.1 = 0
    · rw [if_pos he] at h ⊢
      have S := shift_ok he
      have T := shift_ok h
      refine ⟨S.inv, T.inv', fun x j => ?_, fun x h1 h2 => by rw [T.other x h2, S.other x h1], fun j => ?_, by have := S.len; have := T.len; omega, fun hb hl => T.ok (S.ok hb (by omega)) (by have := S.len; omega)⟩
      · by_cases ht : x = t
        · subst ht
          rw [T.own, if_pos rfl]
          by_cases hf : x = f
          · subst hf; rw [S.own, if_pos rfl]
          · rw [S.other x hf, if_neg hf]; omega
        · rw [T.other x ht, if_neg ht]
          by_cases hf : x = f
          · subst hf; rw [S.own, if_pos rfl]; omega
          · rw [S.other x hf, if_neg hf]; omega
      · rw [T.opn, S.opn]
        have : getV [((k, (-q, ())) : Leg)] j + getV [((k, (q, ())) : Leg)] j = 0 := by
          simp only [getV]
          split <;> omega
        omega
    · rw [if_neg he] at h; exact absurd h he
  · rw [if_neg hp] at h; simp at h
/-! ### contracts that went -/
def noD : DealDesk' := ([], ([], ()))
def atP (d : DealDesk') (i : AInst') (f t : AUnit') (q p : Int) : DealDesk' × Int × Unit :=
  if isB d.1 = true ∧ isP d.2.1 = true then (
    if rightD i q p then (
      if f = t then (noD, (24, ())) else (
        if I64 (gZ i q p i.2.2.1) then (
          if (moveB d.1 f t i.1 q).2.1 = 0 then (
            if (moveP d.2.1 f t (gZ i q p i.2.2.1)).2.1 = 0 then (((moveB d.1 f t i.1 q).1, ((moveP d.2.1 f t (gZ i q p i.2.2.1)).1, ())), (0, ()))
            else (noD, (moveP d.2.1 f t (gZ i q p i.2.2.1)).2))
          else (noD, (moveB d.1 f t i.1 q).2))
        else (noD, (7, ()))))
    else (noD, (2, ())))
  else (noD, (3, ()))
def okDk (d : DealDesk') (n : Nat) : Prop := (okB d.1 ∧ d.1.length ≤ n) ∧ (okF d.2.1 ∧ d.2.1.length ≤ n)
theorem r_dealIs {d : DealDesk'} (hd : okDk d 100) : deal_Is d = some (isB d.1 && isP d.2.1) := by
  show deal_IsW stdW d = _
  unfold deal_IsW
  rw [call_eq (r_isB hd.1.1)]
  cases isB d.1 with
  | true => rw [cnd_y rfl, call_eq (r_is (by have := hd.2.2; omega))]; rfl
  | false => rw [cnd_n rfl]; rfl
theorem r_at {d : DealDesk'} {i : AInst'} {f t : AUnit'} {q p : Int} (hd : okDk d 70) (hm : i.2.2.2.2.1.length ≤ 1000000) (hq : I64 q) : deal_At d i f t q p = some (atP d i f t q p) := by
  show deal_AtW stdW d i f t q p = _
  unfold deal_AtW atP
  obtain ⟨⟨hb, hbl⟩, hf, hfl⟩ := hd
  have e1 : deal_Is (d.1, (d.2.1, ())) = some (isB d.1 && isP d.2.1) := r_dealIs (d := d) ⟨⟨hb, by omega⟩, hf, by omega⟩
  have e2 : deal_right (i.1, (i.2.1, (i.2.2.1, (i.2.2.2.1, (i.2.2.2.2.1, ()))))) q p = some (decide (rightD i q p)) := r_right hm
  rw [call_eq e1]
  by_cases h1 : isB d.1 = true ∧ isP d.2.1 = true
  · rw [if_pos h1, h1.1, h1.2, cnd_n (by decide), call_eq e2]
    by_cases h2 : rightD i q p
    · rw [if_pos h2, decide_eq_true h2, cnd_n (by decide), nif_f, eqA]
      by_cases h3 : f = t
      · rw [if_pos h3, cnd_y (decide_eq_true h3)]; rfl
      · have e3 : inst_Gain (i.1, (i.2.1, (i.2.2.1, (i.2.2.2.1, (i.2.2.2.2.1, ()))))) q p i.2.2.1 = some (fits64 (gZ i q p i.2.2.1)) := r_igain hm h2.1 hq h2.2.1 h2.1.2.2.1
        rw [if_neg h3, cnd_n (decide_eq_false h3), call_eq e3]
        unfold fits64
        by_cases h4 : I64 (gZ i q p i.2.2.1)
        · rw [if_pos h4, if_pos h4]
          show stdW.cnd ((0 : Int) != 0) _ (stdW.call (book_Move d.1 f t [(i.1, (q, ()))]) fun v4 => stdW.cnd (v4.2.1 != 0) (some (noD, v4.2)) (stdW.call (purse_Move d.2.1 f t (gZ i q p i.2.2.1)) fun v5 => stdW.cnd (v5.2.1 != 0) (some (noD, v5.2)) (some ((v4.1, (v5.1, ())), (0, ()))))) = _
          rw [cnd_n (by decide), call_eq (r_bmove hb (by omega) h2.1.1 h2.2.2.1 hq (by have := h2.2.2.2; unfold I64; omega))]
          by_cases h5 : (moveB d.1 f t i.1 q).2.1 = 0
          · rw [if_pos h5, cnd_n (by simp [h5]), call_eq (r_move hf h4 (by omega))]
            by_cases h6 : (moveP d.2.1 f t (gZ i q p i.2.2.1)).2.1 = 0
            · rw [if_pos h6, cnd_n (by simp [h6])]
            · rw [if_neg h6, cnd_y (by simp [h6])]
          · rw [if_neg h5, cnd_y (by simp [h5])]
        · rw [if_neg h4, if_neg h4]
          show stdW.cnd ((7 : Int) != 0) (some (noD, (7, ()))) _ = _
          rw [cnd_y (by decide)]
    · rw [if_neg h2, decide_eq_false h2, cnd_y (by decide)]; rfl
  · have e : (isB d.1 && isP d.2.1) = false := by
      cases hb' : isB d.1 <;> cases hp' : isP d.2.1 <;> simp_all
    rw [if_neg h1, e, cnd_y (by decide)]; rfl
theorem at_bad {d : DealDesk'} {i : AInst'} {f t : AUnit'} {q p : Int} (h : (atP d i f t q p).2.1 ≠ 0) : (atP d i f t q p).1 = noD := by
  unfold atP at h ⊢
  split
  · split
    · split
      · rfl
      · split
        · split
          · split
            · rename_i h1 h2 h3 h4 h5 h6
              rw [if_pos h1, if_pos h2, if_neg h3, if_pos h4, if_pos h5, if_pos h6] at h
              exact absurd rfl h
            · rfl
          · rfl
        · rfl
    · rfl
  · rfl
structure AtOk (d d' : DealDesk') (i : AInst') (f t : AUnit') (q p : Int) : Prop where
  right : rightD i q p
  ne : f ≠ t
  fit : I64 (gZ i q p i.2.2.1)
  bk : MvOk d.1 d'.1 f t i.1 q
  ip : isP d.2.1 = true
  ip' : isP d'.2.1 = true
  get : ∀ x, getP d'.2.1 x = getP d.2.1 x + (if x = f then -(gZ i q p i.2.2.1) else 0) + (if x = t then gZ i q p i.2.2.1 else 0)
  tot : sumBy amt d'.2.1 = sumBy amt d.2.1
  okf : okF d'.2.1
  len : d'.2.1.length ≤ d.2.1.length + 2
theorem at_ok {d : DealDesk'} {i : AInst'} {f t : AUnit'} {q p : Int} (h : (atP d i f t q p).2.1 = 0) : AtOk d (atP d i f t q p).1 i f t q p := by
  unfold atP at h ⊢
  by_cases h1 : isB d.1 = true ∧ isP d.2.1 = true
  · rw [if_pos h1] at h ⊢
    by_cases h2 : rightD i q p
    · rw [if_pos h2] at h ⊢
      by_cases h3 : f = t
      · rw [if_pos h3] at h; simp at h
      · rw [if_neg h3] at h ⊢
        by_cases h4 : I64 (gZ i q p i.2.2.1)
        · rw [if_pos h4] at h ⊢
          by_cases h5 : (moveB d.1 f t i.1 q).2.1 = 0
          · rw [if_pos h5] at h ⊢
            by_cases h6 : (moveP d.2.1 f t (gZ i q p i.2.2.1)).2.1 = 0
            · rw [if_pos h6] at h ⊢
              have hz : ∃ g, g = gZ i q p i.2.2.1 := ⟨_, rfl⟩
              obtain ⟨g, hz⟩ := hz
              rw [← hz] at h4 h6 ⊢
              have hmv : moveP d.2.1 f t g = payP d.2.1 [(f, (-g, ())), (t, (g, ()))] := by
                unfold moveP at h6 ⊢
                by_cases hI : I64 (-g)
                · rw [if_pos hI]
                · rw [if_neg hI] at h6; split at h6 <;> simp at h6
              rw [hmv] at h6 ⊢
              obtain ⟨h7, h8, h9⟩ := payP_ok h6
              have hlen : (payP d.2.1 [(f, (-g, ())), (t, (g, ()))]).1.length ≤ d.2.1.length + 2 := payP_len _ _
              refine ⟨h2, h3, hz ▸ h4, move_ok h5, h1.2, ?_, fun x => ?_, ?_, ?_, hlen⟩
              · show isP (payP d.2.1 _).1 = true
                rw [h8]; exact resP_is (units_srt _)
              · show getP (payP d.2.1 _).1 x = _
                rw [h8, resP_get, sumU_app, sumU_cons, sumU_cons, getP_sum (isP_nd h7), ← hz]
                show _ + ((if f = x then -g else 0) + ((if t = x then g else 0) + 0)) = _
                have e1 : (if f = x then -g else 0) = if x = f then -g else 0 := by
                  by_cases e : f = x
                  · rw [if_pos e, if_pos e.symm]
                  · rw [if_neg e, if_neg (Ne.symm e)]
                have e2 : (if t = x then g else 0) = if x = t then g else 0 := by
                  by_cases e : t = x
                  · rw [if_pos e, if_pos e.symm]
                  · rw [if_neg e, if_neg (Ne.symm e)]
                rw [e1, e2]; omega
              · show sumBy amt (payP d.2.1 _).1 = _
                rw [h8, resP_sum, sumBy_app, sumBy_cons, sumBy_cons, sumBy_nil]
                show sumBy amt d.2.1 + (-g + (g + 0)) = sumBy amt d.2.1; omega
              · show okF (payP d.2.1 _).1
                rw [h8]; exact resP_ok h9
            · rw [if_neg h6] at h; exact absurd h h6
          · rw [if_neg h5] at h; exact absurd h h5
        · rw [if_neg h4] at h; simp at h
    · rw [if_neg h2] at h; simp at h
  · rw [if_neg h1] at h; simp at h
theorem at_okD {d : DealDesk'} {i : AInst'} {f t : AUnit'} {q p : Int} {n : Nat} (h : (atP d i f t q p).2.1 = 0) (hd : okDk d n) (hn : n ≤ 90) : okDk (atP d i f t q p).1 (n + 2) := by
  have A := at_ok h
  obtain ⟨⟨hb, hbl⟩, hf, hfl⟩ := hd
  exact ⟨⟨A.bk.ok hb (by omega), by have := A.bk.len; omega⟩, A.okf, by have := A.len; omega⟩
end Go.Proofs.Ytbpbkmngbhgpfaa

namespace Go.Proofs.Ytbpbkmngbhgpfaa
open Go Go.Vc Go.RowKit
theorem r_bal2 {l : List APos'} (hb : okB l) : ∃ b, book_Balanced l = some b ∧ (b = true ↔ balQ l) := by
  show ∃ b, book_BalancedW stdW l = some b ∧ _
  unfold book_BalancedW
  refine loop_P (fun o => ∃ b, o = some b ∧ (b = true ↔ balQ l)) (fun z => 9 - z.1.toNat) (fun z => ∃ j : Nat, 1 ≤ j ∧ j ≤ 9 ∧ z = ((j : Int), ()) ∧ ∀ k : Int, 1 ≤ k → k < j → opnZ l k = 0) ⟨1, by omega, by omega, rfl, fun k h1 h2 => by omega⟩ (by show 9 - (1 : Int).toNat < _; omega) ?_
  rintro _ ⟨j, hj1, hj, rfl, hk⟩ again ha
  show ∃ b, stdW.cnd (decide ((j : Int) ≤ 8)) (stdW.call (book_Open l (j : Int)) _) _ = some b ∧ _
  by_cases h : j ≤ 8
  · obtain ⟨e1, e2⟩ := r_open hb (j : Int)
    obtain ⟨s, hs, hs2⟩ := r_sign (opnZ l j)
    rw [cnd_y (decide_eq_true (by omega)), call_eq e1, call_eq hs]
    by_cases h0 : opnZ l j = 0
    · rw [cnd_n (by rw [hs2]; simp [h0])]
      show ∃ b, again (IntKind.i64.wrap ((j : Int) + 1), ()) = some b ∧ _
      rw [i64_s j (by omega)]
      refine ha _ ⟨j + 1, by omega, by omega, rfl, fun k h1 h2 => ?_⟩ (by show 9 - ((j + 1 : Nat) : Int).toNat < 9 - ((j : Nat) : Int).toNat; omega)
      by_cases hkj : k = j
      · rw [hkj]; exact h0
      · exact hk k h1 (by omega)
    · rw [cnd_y (by rw [hs2]; simp [h0])]
      refine ⟨false, rfl, ?_⟩
      constructor
      · intro e; cases e
      · intro hb'; exact absurd (hb' (j : Int) ((ks_mem _).2 (by omega))) h0
  · rw [cnd_n (decide_eq_false (by omega))]
    refine ⟨true, rfl, fun _ k hkm => ?_, fun _ => rfl⟩
    rw [ks_mem] at hkm
    exact hk k hkm.1 (by omega)
/-! ### the laws of deals -/
def oneI (i : AInst') : AInst' := (i.1, (i.2.1, (i.2.2.1, (i.2.2.2.1, (i.2.2.2.2.1.take 9, ())))))
theorem r_oneI {i : AInst'} (hm : i.2.2.2.2.1.length ≤ 9223372036854775807) : law21_one i = some (oneI i) := by
  show law21_oneW stdW i = _
  unfold law21_oneW
  refine join_g fun k hk => ?_
  have kk : ∀ x : AInst', k x = some x := by intro x; subst hk; rfl
  clear hk
  by_cases h : 9 < i.2.2.2.2.1.length
  · rw [cnd_y (decide_eq_true (by omega)), bnd_w (by omega) (by omega)]
    exact kk (oneI i)
  · rw [cnd_n (decide_eq_false (by omega))]
    have e : oneI i = i := by unfold oneI; rw [List.take_of_length_le (by omega)]
    rw [e]; exact kk i
def fewD (l : List APos') (p : List AFlow') : DealDesk' := (few19 l, (p.take 20, ()))
theorem r_fewD {l : List APos'} {p : List AFlow'} (hl : l.length ≤ 9223372036854775807) (hm : ∀ x ∈ l, x.2.1.length ≤ 9223372036854775807) (hp : p.length ≤ 9223372036854775807) : law21_Few l p = some (fewD l p) := by
  show law21_FewW stdW l p = _
  unfold law21_FewW
  rw [call_eq (r_few19 l hl hm), call_eq (r_few17 p hp)]; rfl
theorem r_same11 {a : List Leg} (hl : a.length ≤ 1000000) : ref11_Same a a = some true := by
  show ref11_SameW stdW a a = _
  unfold ref11_SameW
  rw [cnd_n (by simp)]
  refine loop_list (l := a) (by omega) (s0 := ()) (fun _ _ => True) (fun _ _ => some true) trivial ?_ ?_
  · rintro _ again _
    rw [cnd_end]
  · rintro i hi _ _ again ha
    rw [cnd_lt hi, idx_w hi, idx_w hi, nif_t, cnd_n (by simp)]
    show again (IntKind.i64.wrap ((i : Int) + 1), ()) = _
    rw [i64_s i (by omega)]
    exact ha _ trivial
theorem r_same19 {a : List APos'} (hb : okB a) : ref19_Same a a = some true := by
  have hl := hb.2
  show ref19_SameW stdW a a = _
  unfold ref19_SameW
  rw [cnd_n (by simp)]
  refine loop_list (l := a) (by omega) (s0 := ()) (fun _ _ => True) (fun _ _ => some true) trivial ?_ ?_
  · rintro _ again _
    rw [cnd_end]
  · rintro i hi _ _ again ha
    have h2 := (hb.1 _ (List.getElem_mem hi)).2
    rw [cnd_lt hi]
    refine join_g fun k hk => ?_
    have kf : k (false, ()) = some true := by
      subst hk
      show stdW.cnd false _ (again (IntKind.i64.wrap ((i : Int) + 1), ())) = _
      rw [cnd_n rfl, i64_s i (by omega)]
      exact ha _ trivial
    clear hk
    show stdW.idx a (i : Int) _ = _
    rw [idx_w hi, idx_w hi, nif_t, cnd_n (by simp), idx_w hi, idx_w hi, call_eq (r_same11 (by omega))]
    exact kf
theorem r_same21 {d : DealDesk'} (hd : okDk d 100) : ref21_Same d d = some true := by
  show ref21_SameW stdW d d = _
  unfold ref21_SameW
  rw [call_eq (r_same19 hd.1.1), cnd_y rfl, call_eq (r_same (by have := hd.2.2; omega))]
theorem okDk.mono {d : DealDesk'} {n m : Nat} (h : okDk d n) (hm : n ≤ m) : okDk d m := ⟨⟨h.1.1, by have := h.1.2; omega⟩, h.2.1, by have := h.2.2; omega⟩
theorem okD_no (n : Nat) : okDk noD n := ⟨⟨⟨(fun p hp => by cases hp), by simp [noD]⟩, by simp [noD]⟩, fun x hx => (by cases hx), by simp [noD]⟩
theorem r_lives21 : law21_lives = some true := by
  show law21_livesW stdW = _
  unfold law21_livesW
  have hu : unitsOf ([] ++ [(((1, (0, ())) : AUnit'), ((-60 : Int), ())), (((2, (0, ())) : AUnit'), ((60 : Int), ()))]) = [(1, (0, ())), (2, (0, ()))] := by
    refine unit_ext ?_ fun u => ?_
    · simp [SrtA, ltA]
    · simp only [List.nil_append, List.mem_cons, List.not_mem_nil, or_false, exists_eq_or_imp, exists_eq_left]
      constructor <;> rintro (h | h) <;> simp [h]
  have hm : moveP [] (1, (0, ())) (2, (0, ())) 60 = ([((1, (0, ())), (-60, ())), ((2, (0, ())), (60, ()))], (0, ())) := by
    unfold moveP payP
    rw [hu]
    decide +kernel
  have hb : moveB [] (1, (0, ())) (2, (0, ())) 1 3 = ([((1, (0, ())), ([(1, (-3, ()))], ())), ((2, (0, ())), ([(1, (3, ()))], ()))], (0, ())) := by decide +kernel
  have hat : atP noD (1, (10, (7, (0, ([], ()))))) (1, (0, ())) (2, (0, ())) 3 5 = (([((1, (0, ())), ([(1, (-3, ()))], ())), ((2, (0, ())), ([(1, (3, ()))], ()))], ([((1, (0, ())), (-60, ())), ((2, (0, ())), (60, ()))], ())), (0, ())) := by
    have hg : gZ (1, (10, (7, (0, ([], ()))))) 3 5 ((1, (10, (7, (0, ([], ()))))) : AInst').2.2.1 = 60 := by decide
    have hb' : moveB noD.1 (1, (0, ())) (2, (0, ())) ((1, (10, (7, (0, ([], ()))))) : AInst').1 3 = _ := hb
    have hm' : moveP noD.2.1 (1, (0, ())) (2, (0, ())) 60 = _ := hm
    unfold atP
    rw [if_pos ⟨by decide, by decide⟩, if_pos (by decide), if_neg (by decide), hg, hb', hm', if_pos (by unfold I64; omega), if_pos rfl, if_pos rfl]
  have e := r_at (d := noD) (i := (1, (10, (7, (0, ([], ())))))) (f := (1, (0, ()))) (t := (2, (0, ()))) (q := 3) (p := 5) (okD_no 70) (by simp) (by unfold I64; omega)
  rw [hat] at e
  have e' : deal_At ([], ([], ())) (1, (10, (7, (0, ([], ()))))) (1, (0, ())) (2, (0, ())) 3 5 = _ := e
  rw [call_eq e']
  show stdW.cnd ((0 : Int) == 0) (stdW.call (purse_Get [((1, (0, ())), (-60, ())), ((2, (0, ())), (60, ()))] (2, (0, ()))) _) _ = _
  rw [cnd_y (by decide), call_eq (r_get (by simp))]
  show stdW.cnd ((60 : Int) == 60) (stdW.call (purse_Get [((1, (0, ())), (-60, ())), ((2, (0, ())), (60, ()))] (1, (0, ()))) _) _ = _
  rw [cnd_y (by decide), call_eq (r_get (by simp))]
  show stdW.cnd ((-60 : Int) == -60) (stdW.call (book_Of [((1, (0, ())), ([(1, (-3, ()))], ())), ((2, (0, ())), ([(1, (3, ()))], ()))] (2, (0, ()))) _) _ = _
  rw [cnd_y (by decide), call_eq (r_bof ⟨fun p hp => by
    simp only [List.mem_cons, List.not_mem_nil, or_false] at hp
    rcases hp with rfl | rfl
    · exact ⟨okL1 (by unfold I64; omega), by simp⟩
    · exact ⟨okL1 (by unfold I64; omega), by simp⟩, by simp⟩)]
  have e5 : ref11_Same (ofB [((1, (0, ())), ([(1, (-3, ()))], ())), ((2, (0, ())), ([(1, (3, ()))], ()))] (2, (0, ()))) [(1, (3, ()))] = some true := r_same11 (a := [(1, (3, ()))]) (by simp)
  rw [call_eq e5]
theorem ofB_V {l : List APos'} (h : BInv l) (u : AUnit') : VInv (ofB l u) := by
  rcases mid_cases h.2 u with ⟨_, _, h3⟩ | ⟨_, h3⟩
  · rw [h3]; exact ⟨fun x hx => (by cases hx), by simp⟩
  · exact (h.1 _ h3).2
/-- there and back, at any prices: the book is as it was -/
theorem back_book {l l1 l2 : List APos'} {f t : AUnit'} {k q : Int} (h1 : MvOk l l1 f t k q) (h2 : MvOk l1 l2 t f k q) (hne : f ≠ t) : l2 = l := by
  refine B_ext h2.inv' h1.inv fun u => V_ext (ofB_V h2.inv' u) (ofB_V h1.inv u) fun j => ?_
  rw [h2.of, h1.of]
  have e : getV [((k, (-q, ())) : Leg)] j + getV [((k, (q, ())) : Leg)] j = 0 := by simp only [getV]; split <;> omega
  by_cases hf : u = f
  · subst hf
    rw [if_pos rfl, if_neg hne, if_pos rfl, if_neg hne]; omega
  · by_cases ht : u = t
    · subst ht
      rw [if_neg hf, if_pos rfl, if_neg hf, if_pos rfl]; omega
    · rw [if_neg hf, if_neg ht, if_neg hf, if_neg ht]; omega
theorem keeps_tail {d : DealDesk'} {i : AInst'} {f t o : AUnit'} {q p : Int} (hd : okDk d 40) (hm : i.2.2.2.2.1.length ≤ 1000000) (hq : I64 q) :
    (stdW.call (deal_At (d.1, (d.2.1, ())) (i.1, (i.2.1, (i.2.2.1, (i.2.2.2.1, (i.2.2.2.2.1, ()))))) f t q p) fun v3 => 
    stdW.cnd (v3.2.1 != 0) (stdW.call (law21_plain (v3.1.1, (v3.1.2.1, ()))) fun v4 => stdW.call (ref21_Same (v4.1, (v4.2.1, ())) ([], ([], ()))) fun v5 => 
     stdW.cnd v5 (stdW.call (law21_lives) fun v6 => some v6)
      (some false))
     (
     stdW.join (fun (z7 : Bool × Unit) => 
      stdW.cnd z7.1 (some false)
       (
       stdW.join (fun (z8 : Bool × Unit) => 
        stdW.cnd z8.1 (some false)
         (stdW.call (deal_At (v3.1.1, (v3.1.2.1, ())) (i.1, (i.2.1, (i.2.2.1, (i.2.2.2.1, (i.2.2.2.2.1, ()))))) t f q p) fun v9 => 
         stdW.join (fun (z10 : Bool × Unit) => 
          stdW.cnd z10.1 (some false)
           (stdW.call (deal_At (d.1, (d.2.1, ())) (i.1, (i.2.1, (i.2.2.1, (i.2.2.2.1, (i.2.2.2.2.1, ()))))) f t q i.2.2.1) fun v11 => 
           stdW.cnd (v11.2.1 != 0) (stdW.call (law21_lives) fun v12 => some v12)
            (stdW.call (purse_Get v11.1.2.1 f) fun v13 => stdW.call (purse_Get d.2.1 f) fun v14 => 
            stdW.cnd (v13 == v14) (stdW.call (law21_lives) fun v15 => some v15)
             (some false))))
          fun k16 => 
          stdW.cnd (v9.2.1 == 0) (stdW.call (law21_plain (v9.1.1, (v9.1.2.1, ()))) fun v17 => stdW.call (law21_plain (d.1, (d.2.1, ()))) fun v18 => stdW.call (ref21_Same (v17.1, (v17.2.1, ())) (v18.1, (v18.2.1, ()))) fun v19 => (k16 ((!v19), ())))
           ((k16 (false, ())))))
        fun k20 => 
        stdW.cnd (Go.Vc.notIf true ((o.1 == f.1) && (o.2.1 == f.2.1))) (
         stdW.cnd (Go.Vc.notIf true ((o.1 == t.1) && (o.2.1 == t.2.1))) (stdW.call (book_Of v3.1.1 o) fun v21 => stdW.call (book_Of d.1 o) fun v22 => stdW.call (ref11_Same v21 v22) fun v23 => 
          stdW.cnd (!v23) ((k20 (true, ())))
           (stdW.call (purse_Get v3.1.2.1 o) fun v24 => stdW.call (purse_Get d.2.1 o) fun v25 => (k20 ((v24 != v25), ()))))
          ((k20 (false, ()))))
         ((k20 (false, ())))))
      fun k26 => stdW.call (book_Balanced v3.1.1) fun v27 => stdW.call (book_Balanced d.1) fun v28 => 
      stdW.cnd (Go.Vc.notIf true (v27 == v28)) (stdW.both (stdW.both ((k26 (true, ()))) ((k26 (true, ())))) ((k26 (true, ()))))
       (stdW.both (stdW.both (stdW.call (purse_Total v3.1.2.1) fun v29 => stdW.call (purse_Total d.2.1) fun v30 => 
         stdW.cnd (Go.Vc.notIf true ((v29.1 == v30.1) && (v29.2.1 == v30.2.1))) ((k26 (true, ())))
          (stdW.call (deal_Is (v3.1.1, (v3.1.2.1, ()))) fun v31 => (k26 ((!v31), ())))) (stdW.call (purse_Total v3.1.2.1) fun v32 => stdW.call (purse_Total d.2.1) fun v33 => 
         stdW.cnd (Go.Vc.notIf true ((v32.1 == v33.1) && (v32.2.1 == v33.2.1))) ((k26 (true, ())))
          (stdW.call (deal_Is (v3.1.1, (v3.1.2.1, ()))) fun v34 => (k26 ((!v34), ()))))) (stdW.call (purse_Total v3.1.2.1) fun v35 => stdW.call (purse_Total d.2.1) fun v36 => 
        stdW.cnd (Go.Vc.notIf true ((v35.1 == v36.1) && (v35.2.1 == v36.2.1))) ((k26 (true, ())))
         (stdW.call (deal_Is (v3.1.1, (v3.1.2.1, ()))) fun v37 => (k26 ((!v37), ()))))))) = some true := by
  have hat : ∀ (d' : DealDesk') (f t : AUnit') (p : Int), okDk d' 50 → deal_At (d'.1, (d'.2.1, ())) (i.1, (i.2.1, (i.2.2.1, (i.2.2.2.1, (i.2.2.2.2.1, ()))))) f t q p = some (atP d' i f t q p) := fun d' f t p h => r_at (h.mono (by omega)) hm hq
  have hpl : ∀ d' : DealDesk', law21_plain (d'.1, (d'.2.1, ())) = some d' := fun _ => rfl
  rw [call_eq (hat d f t p (hd.mono (by omega)))]
  by_cases h1 : (atP d i f t q p).2.1 = 0
  · have A := at_ok h1
    have hd1 := at_okD h1 hd (by omega)
    have hlen1 := hd1.2.2
    have hlen := hd.2.2
    rw [cnd_n (by simp [h1])]
    generalize hD : (atP d i f t q p).1 = D at *
    refine join_g fun k26 hk26 => ?_
    have k26f : k26 (false, ()) = some true := by
      subst hk26
      show stdW.cnd false _ (stdW.join _ _) = _
      rw [cnd_n rfl]
      refine join_g fun k20 hk20 => ?_
      have k20f : k20 (false, ()) = some true := by
        subst hk20
        show stdW.cnd false _ (stdW.call (deal_At (D.1, (D.2.1, ())) (i.1, (i.2.1, (i.2.2.1, (i.2.2.2.1, (i.2.2.2.2.1, ()))))) t f q p) _) = _
        rw [cnd_n rfl, call_eq (hat D t f p (hd1.mono (by omega)))]
        refine join_g fun k16 hk16 => ?_
        have k16f : k16 (false, ()) = some true := by
          subst hk16
          show stdW.cnd false _ (stdW.call (deal_At (d.1, (d.2.1, ())) (i.1, (i.2.1, (i.2.2.1, (i.2.2.2.1, (i.2.2.2.2.1, ()))))) f t q i.2.2.1) _) = _
          rw [cnd_n rfl, call_eq (hat d f t i.2.2.1 (hd.mono (by omega)))]
          by_cases h3 : (atP d i f t q i.2.2.1).2.1 = 0
          · have C := at_ok h3
            have hd3 := at_okD h3 hd (by omega)
            have hlen3 := hd3.2.2
            have eg := C.get f
            have hz : gZ i q i.2.2.1 i.2.2.1 = 0 := by unfold gZ; rw [Int.sub_self, Int.zero_mul, Int.zero_mul]
            rw [hz, if_pos rfl, if_neg A.ne] at eg
            rw [cnd_n (by simp [h3]), call_eq (r_get (by omega)), call_eq (r_get (by omega)), eg, cnd_y (by simp), call_eq r_lives21]
          · rw [cnd_y (by simp [h3]), call_eq r_lives21]
        clear hk16
        by_cases h2 : (atP D i t f q p).2.1 = 0
        · have B := at_ok h2
          have eb := back_book A.bk B.bk A.ne
          have ep : (atP D i t f q p).1.2.1 = d.2.1 := by
            refine purse_ext B.ip' A.ip fun u => ?_
            rw [B.get, A.get]
            by_cases hf : u = f
            · subst hf; rw [if_pos rfl, if_neg A.ne, if_neg A.ne, if_pos rfl]; omega
            · by_cases ht : u = t
              · subst ht; rw [if_neg hf, if_pos rfl, if_pos rfl, if_neg hf]; omega
              · rw [if_neg hf, if_neg ht, if_neg ht, if_neg hf]; omega
          have ed : (atP D i t f q p).1 = d := Prod.ext eb (Prod.ext ep rfl)
          rw [cnd_y (by simp [h2]), ed, call_eq (hpl d), call_eq (hpl d)]
          have es : ref21_Same (d.1, (d.2.1, ())) (d.1, (d.2.1, ())) = some true := r_same21 (hd.mono (by omega))
          rw [call_eq es]
          exact k16f
        · rw [cnd_n (by simp [h2])]; exact k16f
      clear hk20
      rw [nif_t, eqA, nif_t, eqA]
      by_cases hf : o = f
      · rw [cnd_n (by simp [hf])]; exact k20f
      · rw [cnd_y (by simp [hf])]
        by_cases ht : o = t
        · rw [cnd_n (by simp [ht])]; exact k20f
        · have eg := A.get o
          rw [if_neg hf, if_neg ht] at eg
          have hob := ofB_ok hd.1.1 o
          rw [cnd_y (by simp [ht]), call_eq (r_bof hd1.1.1), call_eq (r_bof hd.1.1), A.bk.other o hf ht, call_eq (r_same11 (by omega)), cnd_n (by decide), call_eq (r_get (by omega)), call_eq (r_get (by omega)), eg]
          have e0 : (getP d.2.1 o + 0 + 0 != getP d.2.1 o) = false := by simp
          rw [e0]; exact k20f
    clear hk26
    obtain ⟨b1, hb1, hb1q⟩ := r_bal2 hd1.1.1
    obtain ⟨b2, hb2, hb2q⟩ := r_bal2 hd.1.1
    have hbe : b1 = b2 := by
      have : balQ D.1 ↔ balQ d.1 := by unfold balQ; simp only [A.bk.opn]
      rw [← hb1q, ← hb2q] at this
      exact Bool.eq_iff_iff.2 this
    have ht1 : purse_Total D.2.1 = some (wide (sumBy amt d.2.1)) := by rw [r_total hd1.2.1 (by omega), A.tot]
    have ht2 : purse_Total d.2.1 = some (wide (sumBy amt d.2.1)) := r_total hd.2.1 (by omega)
    have hBI : isB D.1 = true := decide_eq_true A.bk.inv'
    have hi : deal_Is (D.1, (D.2.1, ())) = some true := by
      have := r_dealIs (d := D) (hd1.mono (by omega))
      rw [hBI, A.ip'] at this; exact this
    rw [call_eq hb1, call_eq hb2, hbe, nif_t, cnd_n (by simp)]
    have ke : k26 (!true, ()) = some true := k26f
    have hn : (notIf true ((wide (sumBy amt d.2.1)).1 == (wide (sumBy amt d.2.1)).1 && (wide (sumBy amt d.2.1)).2.1 == (wide (sumBy amt d.2.1)).2.1)) = false := by rw [nif_t]; simp
    repeat' (first | exact ke | refine both_of ?_ ?_ | rw [call_eq ht1] | rw [call_eq ht2] | rw [cnd_n hn] | rw [call_eq hi])
  · have es : ref21_Same (noD.1, (noD.2.1, ())) ([], ([], ())) = some true := r_same21 (d := noD) (okD_no 100)
    rw [cnd_y (by simp [h1]), at_bad h1, call_eq (hpl noD), call_eq es, cnd_y rfl, call_eq r_lives21]
theorem r_keeps {l : List APos'} {p : List AFlow'} {i : AInst'} {f t o : AUnit'} {q pr : Int} (hl : l.length ≤ 9223372036854775807) (hlm : ∀ x ∈ l, x.2.1.length ≤ 9223372036854775807) (hlo : ∀ x ∈ l, okL x.2.1) (hp : okF p) (hpl : p.length ≤ 9223372036854775807)
    (hm : i.2.2.2.2.1.length ≤ 9223372036854775807) (hq : I64 q) : law21_DealKeeps l p i f t o q pr = some true := by
  show law21_DealKeepsW stdW l p i f t o q pr = _
  unfold law21_DealKeepsW
  have hF := r_fewD hl hlm hpl
  have hO : law21_one (i.1, (i.2.1, (i.2.2.1, (i.2.2.2.1, (i.2.2.2.2.1, ()))))) = some (oneI i) := r_oneI hm
  have hd : okDk (fewD l p) 40 := ⟨⟨few19_ok hlo, by show (few19 l).length ≤ 40; unfold few19; rw [List.length_map, List.length_take]; omega⟩, hp.take 20, by show (p.take 20).length ≤ 40; rw [List.length_take]; omega⟩
  have hm1 : (oneI i).2.2.2.2.1.length ≤ 1000000 := by show (i.2.2.2.2.1.take 9).length ≤ _; rw [List.length_take]; omega
  have ht := keeps_tail (f := f) (t := t) (o := o) (p := pr) hd hm1 hq
  repeat' (first | exact ht | refine both_of ?_ ?_ | rw [call_eq hF] | rw [call_eq hO])
end Go.Proofs.Ytbpbkmngbhgpfaa

namespace Go.Proofs.Ytbpbkmngbhgpfaa
open Go Go.Vc Go.RowKit
theorem okD_inst {i : DT.den tAInst} (h : DT.okD tAInst i) : i.2.2.2.2.1.length ≤ 9223372036854775807 := by
  have := h.2.2.2.2.1.2
  rwa [maxLen_eq] at this
theorem keeps_true (x0 : DT.den (.slc tAPos)) (x1 : DT.den (.slc tAFlow)) (x2 : DT.den tAInst) (x3 x4 x5 : DT.den tAUnit) (x6 x7 : DT.den (.int .i64)) (o0 : DT.okD (.slc tAPos) x0) (o1 : DT.okD (.slc tAFlow) x1) (o2 : DT.okD tAInst x2) (_ : DT.okD tAUnit x3) (_ : DT.okD tAUnit x4) (_ : DT.okD tAUnit x5) (o6 : DT.okD (.int .i64) x6) (_ : DT.okD (.int .i64) x7) :
    law21_DealKeeps x0 x1 x2 x3 x4 x5 x6 x7 = some true :=
  r_keeps (okD_book o0).2 (fun p hp => ((okD_book o0).1 p hp).2) (fun p hp => ((okD_book o0).1 p hp).1) (okD_flows o1).1 (okD_flows o1).2 (okD_inst o2) (wf_i64 o6)
end Go.Proofs.Ytbpbkmngbhgpfaa

namespace Go.Proofs.Ytbpbkmngbhgpfaa
open Go Go.Vc Go.RowKit Go.ChangeShapes Go.WideShapes Go.ChangeAt Go.Joins

theorem own : ownKnob Try.prog.godebug = none := by kernel_rfl
theorem laidOut : laidOutB Try.prog = true := by kernel_rfl
theorem trod_places {H : Type} {enc : TypeId × Value → H} {w : World} {spare : Nat → Bool} {held : Bool} {t : TypeId} {v : Value} {d : DataW H} {p : List MemPlace} (h : DataW.Trod enc Try.prog w 0 spare held t v d p) : ∀ x ∈ p, x.block < w.heap.size := by
  obtain ⟨m, hm⟩ := h; exact DataW.trod_lt m _ _ _ hm
end Go.Proofs.Ytbpbkmngbhgpfaa

/-! A program's closures over a table of who leads to whom (own work): so that 'recurses' is not reckoned by the kernel function by function. -/
namespace Go.Vc
open Go
def closT (T : List (List Nat)) : Nat → List Nat → List Nat → List Nat
  | 0, _, seen => seen.reverse
  | _, [], seen => seen.reverse
  | n + 1, f :: todo, seen => if seen.contains f then closT T n todo seen else closT T n ((T[f]?).getD [] ++ todo) (f :: seen)
theorem lead_eq {P : Program} {T : List (List Nat)} (hT : P.funcs.toList.map P.leadsTo = T) (f : Nat) : (P.funcs[f]?).elim [] P.leadsTo = (T[f]?).getD [] := by
  subst hT
  rw [List.getElem?_map, Array.getElem?_toList]
  cases P.funcs[f]? <;> rfl
theorem closureVia_eq {P : Program} {T : List (List Nat)} (hT : P.funcs.toList.map P.leadsTo = T) : ∀ n todo seen, P.closureVia n todo seen = closT T n todo seen
  | 0, _, _ => by simp only [Program.closureVia, closT]
  | n + 1, [], _ => by simp only [Program.closureVia, closT]
  | n + 1, f :: todo, seen => by
    simp only [Program.closureVia, closT]
    rw [closureVia_eq hT n, closureVia_eq hT n, lead_eq hT f]
theorem closure_eq {P : Program} {T : List (List Nat)} (hT : P.funcs.toList.map P.leadsTo = T) (f : Nat) : P.closure f = closT T (1 + (T.map fun l => l.length + 1).sum) [f] [] := by
  unfold Program.closure
  rw [closureVia_eq hT]
  subst hT
  rw [List.map_map]; rfl
end Go.Vc

namespace Go.Proofs.Ytbpbkmngbhgpfaa
open Go Go.Vc
def leadsT : List (List Nat) := [[], [], [1], [11, 11, 12, 12, 13, 14], [11, 11, 15, 16, 17, 18, 19, 21, 22, 20, 12, 23, 13, 14], [11, 24, 17, 14, 23, 13, 14, 18, 18, 15, 15, 16, 14], [25, 26, 27, 11, 28, 29, 30, 31, 32, 33, 13, 13, 34], [25, 27, 11, 32, 34, 32, 13, 34], [25, 27, 11, 35, 36, 34, 30, 34, 22, 20, 16, 32, 22, 22, 20, 34], [37, 38, 39, 40, 39, 40, 41, 18, 43, 18, 43, 42, 44, 20, 40], [37, 38, 39, 46, 45, 40, 36, 36, 15, 15, 47, 49, 49, 48, 18, 18, 39, 46, 46, 45, 39, 18, 18, 40], [], [16, 50, 51, 53, 52], [], [24, 18, 18, 16], [54, 55], [56], [57], [], [], [42], [43, 59, 58], [43, 58], [17, 60, 43, 58, 61, 62, 62], [63, 16, 12], [64], [], [26], [65, 66, 55, 67], [68, 69, 62], [35, 28], [70, 69, 62], [16, 30, 12], [17, 31, 23], [28], [65, 56], [72, 71], [27, 11], [], [47, 73, 74, 75, 24], [39, 18, 18, 49, 48], [48], [76, 58], [59, 59, 77], [43, 43, 78, 43, 43, 42, 78], [41, 13], [], [35, 16], [], [79], [80], [81, 82], [54, 55, 83], [], [], [84, 85], [], [], [77, 86, 87, 88, 86, 88, 86], [], [57], [89], [], [54, 54, 90, 83], [91], [], [92, 94, 93], [54], [], [95, 44, 58, 61], [68, 57], [96], [97, 54, 55], [98], [98, 99, 99, 94, 93, 67], [35, 100, 101, 101], [86], [], [77, 86], [], [], [103, 102], [56, 56], [67], [104, 104], [105], [], [], [], [59, 58], [84, 84, 54, 84, 85], [106, 95], [107, 108], [109, 54, 109, 110, 110, 104, 112, 111, 105], [54, 54, 109, 109, 110, 112, 112, 111], [], [114, 115, 113], [], [99, 99, 116, 117], [], [118, 63], [35, 49, 119, 120, 121, 122, 123], [124, 125, 126, 127, 128, 129, 130, 131, 102, 102], [132, 133], [], [], [134, 134], [136, 135], [137], [112, 138, 138], [], [138, 138], [], [], [139, 139], [140, 140], [141], [], [65], [142, 118, 97, 52], [56], [79], [], [143, 144], [], [145, 145], [146, 147], [148, 148, 148, 149], [], [], [], [], [], [], [], [], [], [], [], [], [], [], [150], [], [151], [], [103], [], [149], [152, 152, 152], [], [153, 153, 153], [], [], [], [], [], [], [], [], [], [], [], [], [], [], [], [], [], [], []]
set_option maxRecDepth 1000000 in
theorem leads_ok : Try.prog.funcs.toList.map Try.prog.leadsTo = leadsT := by kernel_rfl
end Go.Proofs.Ytbpbkmngbhgpfaa
