import Derived.Test.YtnldhkhnfodplaaB5
import Derived.Test.YtnldhkhnfodplaaRows
import Derived.JoinedOf
namespace Go.Proofs.Ytnldhkhnfodplaa
open Go Go.Vc Go.RowKit
/-! ### lists cut short -/
def shortC (c : ACommand') : ACommand' := (c.1, (c.2.1, (c.2.2.1, (c.2.2.2.1, (c.2.2.2.2.1, (c.2.2.2.2.2.1, (c.2.2.2.2.2.2.1, (c.2.2.2.2.2.2.2.1, (c.2.2.2.2.2.2.2.2.1, (c.2.2.2.2.2.2.2.2.2.1, (c.2.2.2.2.2.2.2.2.2.2.1, (c.2.2.2.2.2.2.2.2.2.2.2.1.take 40, ()))))))))))))
def fewR (r : AReturn') : AReturn' := (r.1, (r.2.1, (r.2.2.1.take 20, ())))
def fewD (d : ADone') : ADone' := (shortC d.1, ((d.2.1.1, (d.2.1.2.1.take 20, (d.2.1.2.2.1.take 20, (((d.2.1.2.2.2.1).take 10).map fewR, ())))), ()))
theorem r_short (c : ACommand') : law34_Short c = some (shortC c) := by
  show law34_ShortW stdW c = _
  unfold law34_ShortW shortC
  rw [join_w]
  by_cases h : 40 < c.2.2.2.2.2.2.2.2.2.2.2.1.length
  · rw [cnd_y (decide_eq_true (by omega)), bnd_w (by omega) (by omega)]; rfl
  · rw [cnd_n (decide_eq_false (by omega)), List.take_of_length_le (l := c.2.2.2.2.2.2.2.2.2.2.2.1) (by omega)]
theorem r_few18 (l : List ALot') : law18_Few l = some (l.take 20) := by
  show law18_FewW stdW l = _
  unfold law18_FewW
  by_cases h : 20 < l.length
  · rw [cnd_y (decide_eq_true (by omega)), bnd_w (by omega) (by omega)]; rfl
  · rw [cnd_n (decide_eq_false (by omega)), List.take_of_length_le (l := l) (by omega)]
theorem map_take {α γ : Type} (f : α → γ) (l : List α) (i : Nat) (h : i < l.length) : (l.take (i + 1)).map f = (l.take i).map f ++ [f l[i]] := by
  rw [show l.take (i + 1) = l.take i ++ [l[i]] by simp, List.map_append]; simp
theorem take_all' {α : Type} (l : List α) {i n : Nat} (h : l.length ≤ i) (h2 : i ≤ n) : l.take i = l.take n := by rw [List.take_of_length_le h, List.take_of_length_le (by omega)]
theorem r_few {l : List ADone'} (hm : l.length ≤ 9223372036854775807) (hr : ∀ d ∈ l, (retD d).length ≤ 9223372036854775807) : law39_Few l = some ((l.take 30).map fewD) := by
  show law39_FewW stdW l = _
  unfold law39_FewW
  rw [join_w]
  refine loop_list (l := l) hm (fun i s => s = ((l.take i).map fewD, ()) ∧ i ≤ 30) (fun _ _ => some ((l.take 30).map fewD)) ⟨rfl, by omega⟩ ?_ ?_
  · rintro _ again ⟨rfl, h30⟩
    rw [cnd_end]
    show some ((l.take l.length).map fewD) = _
    rw [take_all' l (Nat.le_refl _) h30]
  · rintro i hi _ ⟨rfl, h30⟩ again ha
    rw [cnd_lt hi]
    by_cases hi30 : i < 30
    · rw [cnd_y (decide_eq_true (show (i : Int) < 30 by omega)), idx_w hi]
      show stdW.call (law34_Short l[i].1) _ = _
      rw [call_eq (r_short _), join_w]
      have hrl := hr _ (List.getElem_mem hi)
      have hlen : ((l.take i).map fewD).length ≤ 30 := by rw [List.length_map, List.length_take]; omega
      by_cases h1 : 20 < l[i].2.1.2.1.length
      · rw [cnd_y (decide_eq_true (by omega)), bnd_w (by omega) (by omega)]
        show stdW.join _ _ = _
        rw [join_w]
        by_cases h2 : 20 < l[i].2.1.2.2.1.length
        · rw [cnd_y (decide_eq_true (by show (20 : Int) < (l[i].2.1.2.2.1.length : Int); omega)), bnd_w (by omega) (by show (20 : Int) ≤ (l[i].2.1.2.2.1.length : Int); omega)]
          show stdW.join _ _ = _
          rw [join_w]
          refine loop_list (l := retD l[i]) hrl (fun j s => s = ((l.take i).map fewD, (((retD l[i]).take j).map fewR, ())) ∧ j ≤ 10) (fun _ _ => some ((l.take 30).map fewD)) ⟨rfl, by omega⟩ ?_ ?_
          · rintro _ again12 ⟨rfl, h10⟩
            rw [cnd_end]
            show stdW.room (((l.take i).map fewD).length + 1) 208 _ = _
            rw [room_w (by omega) (by omega)]
            dsimp only
            rw [i64_s i (by omega), take_all' (retD l[i]) (Nat.le_refl _) h10]
            refine ha _ ⟨?_, by omega⟩
            rw [map_take _ _ _ hi]; rfl
          · rintro j hj _ ⟨rfl, h10⟩ again12 ha12
            rw [cnd_lt hj]
            by_cases hj10 : j < 10
            · have hjl : (((retD l[i]).take j).map fewR).length ≤ 10 := by rw [List.length_map, List.length_take]; omega
              rw [cnd_y (decide_eq_true (show (j : Int) < 10 by omega)), idx_w hj, call_eq (r_few18 _)]
              show stdW.room ((((retD l[i]).take j).map fewR).length + 1) 48 _ = _
              rw [room_w (by omega) (by omega)]
              dsimp only
              rw [i64_s j (by omega)]
              refine ha12 _ ⟨?_, by omega⟩
              rw [map_take _ _ _ hj]; rfl
            · rw [cnd_n (decide_eq_false (show ¬ (j : Int) < 10 by omega))]
              show stdW.room (((l.take i).map fewD).length + 1) 208 _ = _
              rw [room_w (by omega) (by omega)]
              dsimp only
              obtain rfl : j = 10 := by omega
              rw [i64_s i (by omega)]
              refine ha _ ⟨?_, by omega⟩
              rw [map_take _ _ _ hi]; rfl
        · have eD : l[i].2.1.2.2.1.take 20 = l[i].2.1.2.2.1 := List.take_of_length_le (by omega)
          rw [cnd_n (decide_eq_false (by show ¬ (20 : Int) < (l[i].2.1.2.2.1.length : Int); omega))]
          show stdW.join _ _ = _
          rw [join_w]
          refine loop_list (l := retD l[i]) hrl (fun j s => s = ((l.take i).map fewD, (((retD l[i]).take j).map fewR, ())) ∧ j ≤ 10) (fun _ _ => some ((l.take 30).map fewD)) ⟨rfl, by omega⟩ ?_ ?_
          · rintro _ again12 ⟨rfl, h10⟩
            rw [cnd_end]
            show stdW.room (((l.take i).map fewD).length + 1) 208 _ = _
            rw [room_w (by omega) (by omega)]
            dsimp only
            rw [i64_s i (by omega), take_all' (retD l[i]) (Nat.le_refl _) h10]
            refine ha _ ⟨?_, by omega⟩
            rw [map_take _ _ _ hi]; unfold fewD; rw [eD]; rfl
          · rintro j hj _ ⟨rfl, h10⟩ again12 ha12
            rw [cnd_lt hj]
            by_cases hj10 : j < 10
            · have hjl : (((retD l[i]).take j).map fewR).length ≤ 10 := by rw [List.length_map, List.length_take]; omega
              rw [cnd_y (decide_eq_true (show (j : Int) < 10 by omega)), idx_w hj, call_eq (r_few18 _)]
              show stdW.room ((((retD l[i]).take j).map fewR).length + 1) 48 _ = _
              rw [room_w (by omega) (by omega)]
              dsimp only
              rw [i64_s j (by omega)]
              refine ha12 _ ⟨?_, by omega⟩
              rw [map_take _ _ _ hj]; rfl
            · rw [cnd_n (decide_eq_false (show ¬ (j : Int) < 10 by omega))]
              show stdW.room (((l.take i).map fewD).length + 1) 208 _ = _
              rw [room_w (by omega) (by omega)]
              dsimp only
              obtain rfl : j = 10 := by omega
              rw [i64_s i (by omega)]
              refine ha _ ⟨?_, by omega⟩
              rw [map_take _ _ _ hi]; unfold fewD; rw [eD]; rfl
      · have eN : l[i].2.1.2.1.take 20 = l[i].2.1.2.1 := List.take_of_length_le (by omega)
        rw [cnd_n (decide_eq_false (by omega))]
        show stdW.join _ _ = _
        rw [join_w]
        by_cases h2 : 20 < l[i].2.1.2.2.1.length
        · rw [cnd_y (decide_eq_true (by show (20 : Int) < (l[i].2.1.2.2.1.length : Int); omega)), bnd_w (by omega) (by show (20 : Int) ≤ (l[i].2.1.2.2.1.length : Int); omega)]
          show stdW.join _ _ = _
          rw [join_w]
          refine loop_list (l := retD l[i]) hrl (fun j s => s = ((l.take i).map fewD, (((retD l[i]).take j).map fewR, ())) ∧ j ≤ 10) (fun _ _ => some ((l.take 30).map fewD)) ⟨rfl, by omega⟩ ?_ ?_
          · rintro _ again12 ⟨rfl, h10⟩
            rw [cnd_end]
            show stdW.room (((l.take i).map fewD).length + 1) 208 _ = _
            rw [room_w (by omega) (by omega)]
            dsimp only
            rw [i64_s i (by omega), take_all' (retD l[i]) (Nat.le_refl _) h10]
            refine ha _ ⟨?_, by omega⟩
            rw [map_take _ _ _ hi]; unfold fewD; rw [eN]; rfl
          · rintro j hj _ ⟨rfl, h10⟩ again12 ha12
            rw [cnd_lt hj]
            by_cases hj10 : j < 10
            · have hjl : (((retD l[i]).take j).map fewR).length ≤ 10 := by rw [List.length_map, List.length_take]; omega
              rw [cnd_y (decide_eq_true (show (j : Int) < 10 by omega)), idx_w hj, call_eq (r_few18 _)]
              show stdW.room ((((retD l[i]).take j).map fewR).length + 1) 48 _ = _
              rw [room_w (by omega) (by omega)]
              dsimp only
              rw [i64_s j (by omega)]
              refine ha12 _ ⟨?_, by omega⟩
              rw [map_take _ _ _ hj]; rfl
            · rw [cnd_n (decide_eq_false (show ¬ (j : Int) < 10 by omega))]
              show stdW.room (((l.take i).map fewD).length + 1) 208 _ = _
              rw [room_w (by omega) (by omega)]
              dsimp only
              obtain rfl : j = 10 := by omega
              rw [i64_s i (by omega)]
              refine ha _ ⟨?_, by omega⟩
              rw [map_take _ _ _ hi]; unfold fewD; rw [eN]; rfl
        · have eD : l[i].2.1.2.2.1.take 20 = l[i].2.1.2.2.1 := List.take_of_length_le (by omega)
          rw [cnd_n (decide_eq_false (by show ¬ (20 : Int) < (l[i].2.1.2.2.1.length : Int); omega))]
          show stdW.join _ _ = _
          rw [join_w]
          refine loop_list (l := retD l[i]) hrl (fun j s => s = ((l.take i).map fewD, (((retD l[i]).take j).map fewR, ())) ∧ j ≤ 10) (fun _ _ => some ((l.take 30).map fewD)) ⟨rfl, by omega⟩ ?_ ?_
          · rintro _ again12 ⟨rfl, h10⟩
            rw [cnd_end]
            show stdW.room (((l.take i).map fewD).length + 1) 208 _ = _
            rw [room_w (by omega) (by omega)]
            dsimp only
            rw [i64_s i (by omega), take_all' (retD l[i]) (Nat.le_refl _) h10]
            refine ha _ ⟨?_, by omega⟩
            rw [map_take _ _ _ hi]; unfold fewD; rw [eN, eD]
          · rintro j hj _ ⟨rfl, h10⟩ again12 ha12
            rw [cnd_lt hj]
            by_cases hj10 : j < 10
            · have hjl : (((retD l[i]).take j).map fewR).length ≤ 10 := by rw [List.length_map, List.length_take]; omega
              rw [cnd_y (decide_eq_true (show (j : Int) < 10 by omega)), idx_w hj, call_eq (r_few18 _)]
              show stdW.room ((((retD l[i]).take j).map fewR).length + 1) 48 _ = _
              rw [room_w (by omega) (by omega)]
              dsimp only
              rw [i64_s j (by omega)]
              refine ha12 _ ⟨?_, by omega⟩
              rw [map_take _ _ _ hj]; rfl
            · rw [cnd_n (decide_eq_false (show ¬ (j : Int) < 10 by omega))]
              show stdW.room (((l.take i).map fewD).length + 1) 208 _ = _
              rw [room_w (by omega) (by omega)]
              dsimp only
              obtain rfl : j = 10 := by omega
              rw [i64_s i (by omega)]
              refine ha _ ⟨?_, by omega⟩
              rw [map_take _ _ _ hi]; unfold fewD; rw [eN, eD]
    · rw [cnd_n (decide_eq_false (show ¬ (i : Int) < 30 by omega))]
      obtain rfl : i = 30 := by omega
      rfl
theorem few_ok {l : List ADone'} (h : ∀ d ∈ l, I64 (qtyD d) ∧ (∀ r ∈ retD d, I64 r.2.1 ∧ ∀ x ∈ r.2.2.1, I64 x.2.2.1) ∧ okDebs (debD d)) : okLog ((l.take 30).map fewD) := by
  refine ⟨by rw [List.length_map, List.length_take]; omega, fun d hd => ?_⟩
  obtain ⟨e, he, rfl⟩ := List.mem_map.1 hd
  obtain ⟨h1, h2, h3⟩ := h e (List.mem_of_mem_take he)
  refine ⟨h1, ⟨by show (((retD e).take 10).map fewR).length ≤ 10; rw [List.length_map, List.length_take]; omega, fun r hr => ?_⟩, by show ((debD e).take 20).length ≤ 20; rw [List.length_take]; omega, fun x hx => h3 x (List.mem_of_mem_take (i := 20) hx)⟩
  obtain ⟨q, hq, rfl⟩ := List.mem_map.1 (show r ∈ ((retD e).take 10).map fewR from hr)
  obtain ⟨h4, h5⟩ := h2 q (List.mem_of_mem_take hq)
  exact ⟨h4, by show (q.2.2.1.take 20).length ≤ 20; rw [List.length_take]; omega, fun x hx => h5 x (List.mem_of_mem_take (i := 20) hx)⟩
end Go.Proofs.Ytnldhkhnfodplaa

namespace Go.Proofs.Ytnldhkhnfodplaa
open Go Go.Vc Go.RowKit
/-! ### it lives -/
theorem in0 : In128 0 := by unfold In128; omega
theorem fit0 : fit 0 = (wide 0, 0, ()) := by unfold fit; rw [if_pos in0]
theorem r_open0 (k : Int) : book_Open [] k = some (wide 0) := by
  show book_OpenW stdW [] k = _
  unfold book_OpenW
  refine loop_list (l := ([] : List APos')) (by simp) (fun _ s => s = ([], ())) (fun _ _ => some (wide 0)) rfl ?_ (fun i h => absurd h (by simp))
  rintro _ again rfl
  rw [cnd_end, call_eq (r_wAdd [] (by simp) (by simp))]
  show some (fit 0).1 = _
  rw [fit0]
theorem r_total0 : purse_Total [] = some (wide 0) := by
  show purse_TotalW stdW [] = _
  unfold purse_TotalW
  refine loop_list (l := ([] : List AFlow')) (by simp) (fun _ s => s = ([], ())) (fun _ _ => some (wide 0)) rfl ?_ (fun i h => absurd h (by simp))
  rintro _ again rfl
  rw [cnd_end, call_eq (r_wAdd [] (by simp) (by simp))]
  show some (fit 0).1 = _
  rw [fit0]
def zeroS : AState' := (0, ([], ([], ([], ([], ([], ([], ([], ([], ([], ([], ([], ()))))))))))))
theorem r_balanced0 : audit_balanced zeroS = some true := by
  show audit_balancedW stdW zeroS = _
  unfold audit_balancedW
  refine (loop_std (fun z => 10 - z.1.toNat) (fun z => 1 ≤ z.1 ∧ z.1 ≤ 9) (fun _ => some true) ⟨by omega, by omega⟩ (by show 10 - 1 < _; omega) ?_)
  rintro ⟨i, ⟨⟩⟩ ⟨h1, h9⟩ again ha
  dsimp only at h1 h9
  by_cases h : i ≤ 8
  · rw [cnd_y (decide_eq_true h)]
    show stdW.call (book_Open [] i) _ = _
    rw [call_eq (r_open0 i)]
    show stdW.call (book_Open [] i) _ = _
    rw [call_eq (r_open0 i), call_eq (r_tplus (b := []) (by simp))]
    show stdW.call (audit_tally_done [wide 0, wide 0]) _ = _
    have hs : sumW [wide 0, wide 0] = 0 := by unfold sumW; simp [wv_wide]
    rw [call_eq (r_tdone2 (l := [wide 0, wide 0]) (by intro w hw; simp at hw; subst hw; exact wide_ok 0 in0) (by simp)), hs, fit0, cnd_n (by rfl)]
    have e : IntKind.i64.wrap (i + 1) = i + 1 := IntWalk.i64_in _ (by omega)
    show again (IntKind.i64.wrap (i + 1), ()) = _
    rw [e]
    exact ha _ ⟨by dsimp only; omega, by dsimp only; omega⟩ (by dsimp only; omega)
  · rw [cnd_n (decide_eq_false h)]
def lifeL : List ADone' := ((17, (0, (0, ((0, (0, ())), ((0, (0, ())), (0, (0, (0, (0, (5, (0, ([], ())))))))))))), ((0, ([], ([], ([], ())))), ())) :: (((18, (0, (0, ((0, (0, ())), ((0, (0, ())), (0, (0, (0, (0, (2, (0, ([], ())))))))))))), ((0, ([], ([], ([], ())))), ())) :: (((17, (0, (0, ((0, (0, ())), ((0, (0, ())), (0, (0, (0, (0, (9, (0, ([], ())))))))))))), ((3, ([], ([], ([], ())))), ())) :: []))
theorem life_ok : okLog lifeL := by
  refine ⟨by simp [lifeL], fun d hd => ?_⟩
  have : ∀ q : Int, 0 ≤ q ∧ q ≤ 9 → I64 q := fun q h => by unfold I64; omega
  simp only [lifeL, List.mem_cons, List.not_mem_nil, or_false] at hd
  rcases hd with rfl | rfl | rfl
  · exact ⟨this 5 (by omega), ⟨Nat.zero_le _, fun r hr => absurd hr List.not_mem_nil⟩, Nat.zero_le _, fun x hx => absurd hx List.not_mem_nil⟩
  · exact ⟨this 2 (by omega), ⟨Nat.zero_le _, fun r hr => absurd hr List.not_mem_nil⟩, Nat.zero_le _, fun x hx => absurd hx List.not_mem_nil⟩
  · exact ⟨this 9 (by omega), ⟨Nat.zero_le _, fun r hr => absurd hr List.not_mem_nil⟩, Nat.zero_le _, fun x hx => absurd hx List.not_mem_nil⟩
theorem life_sum : sumZ 0 lifeL = 3 := by rfl
theorem r_check0 : audit_Check zeroS lifeL = some 3 := by
  show audit_CheckW stdW zeroS lifeL = _
  unfold audit_CheckW
  rw [join_w]
  show stdW.call (audit_balanced zeroS) _ = _
  rw [call_eq r_balanced0, cnd_n (by rfl)]
  show stdW.call (purse_Total []) _ = _
  rw [call_eq r_total0, call_eq (r_auditSum life_ok), life_sum]
  show stdW.cnd _ _ _ = _
  rw [cnd_y (by rfl)]
theorem r_lives : law39_lives = some true := by
  show law39_livesW stdW = _
  unfold law39_livesW
  show stdW.call (audit_Check zeroS lifeL) _ = _
  rw [call_eq r_check0, cnd_y (by rfl)]
  show stdW.call (audit_Sum lifeL 0) _ = _
  have h3 : In128 3 := by unfold In128; omega
  rw [call_eq (r_auditSum life_ok), life_sum, call_eq (r_big (wide_ok 3 h3)), wv_wide, call_eq (r_of (n := 3) (by unfold I64; omega)), eta2]
  rw [call_eq (r_cmp (nb_big _) (nb_big _) (len_big3 (by omega)) (len_big3 (by omega)))]
  rw [bv_big]; rfl
/-! ### the law -/
theorem cmp_same {z : Int} (h : -1606938044258990275541962092341162602522202993782792835301375 ≤ z ∧ z ≤ 1606938044258990275541962092341162602522202993782792835301375) : ref01_Cmp (big z) (big z) = some 0 := by
  rw [r_cmp (nb_big _) (nb_big _) (len_big3 h) (len_big3 h), Int.sub_self, if_pos rfl]
theorem sums_law {l : List ADone'} {asset : Int} {u : AUnit'} (hm : l.length ≤ 9223372036854775807) (hr : ∀ d ∈ l, (retD d).length ≤ 9223372036854775807)
    (h : ∀ d ∈ l, I64 (qtyD d) ∧ (∀ r ∈ retD d, I64 r.2.1 ∧ ∀ x ∈ r.2.2.1, I64 x.2.2.1) ∧ okDebs (debD d)) : law39_AuditSums l asset u = some true := by
  show law39_AuditSumsW stdW l asset u = _
  unfold law39_AuditSumsW
  have hok := few_ok h
  rw [call_eq (r_few hm hr)]
  generalize (l.take 30).map fewD = v at *
  have hz := sumZ_in (k := asset) hok
  have hf := sumD_in' (f := forZ u) (fun d => forZ_in) (debs_len hok) (debs_ok hok)
  have hb := sumD_in' (f := byZ u) (fun d => byZ_in) (debs_len hok) (debs_ok hok)
  rw [call_eq (r_paid hok), join_w, call_eq (r_auditSum hok), call_eq (r_big (wide_ok _ (by unfold In128; omega))), wv_wide, call_eq (r_refSum hok), eta2, call_eq (cmp_same (by omega)), cnd_n (by rfl)]
  rw [r_For hok, r_By hok]
  have eF : law39_big (wide (sumBy (forZ u) (debs v))) = some (big (sumBy (forZ u) (debs v))) := by rw [r_big (wide_ok _ (by unfold In128; omega)), wv_wide]
  have eB : law39_big (wide (sumBy (byZ u) (debs v))) = some (big (sumBy (byZ u) (debs v))) := by rw [r_big (wide_ok _ (by unfold In128; omega)), wv_wide]
  have cF : ref01_Cmp (big (sumBy (forZ u) (debs v))) (big (sumBy (forZ u) (debs v))) = some 0 := cmp_same (by omega)
  have cB : ref01_Cmp (big (sumBy (byZ u) (debs v))) (big (sumBy (byZ u) (debs v))) = some 0 := cmp_same (by omega)
  have some_call : ∀ {α β : Type} (a : α) (K : α → Option β), stdW.call (some a) K = K a := fun a K => rfl
  have no0 : ∀ {β : Type} (a b : Option β), stdW.cnd ((0 : Int) != 0) a b = b := fun a b => rfl
  have n0 : ((0 : Int) != 0) = false := rfl
  simp only [Option.bind_some, eF, eB, eta2, cF, cB, n0, cond_false, both_eq]
  rw [r_debits hok]
  simp only [Option.bind_some, r_refDebits hok, r_same31 _ (Nat.le_trans (debs_len hok) (by omega)), r_ports hok, r_refPorts hok, r_same16 _ (Nat.le_trans (ports_len (good_ok hok).1) (by omega)), r_lives, cond_true]
end Go.Proofs.Ytnldhkhnfodplaa

namespace Go.Vc
open Go Go.RowKit
/-! what a well formed argument is known to be -/
def DT.okD : (t : DT) → t.den → Prop
  | .int k, n => (Lit.int k n).wf = true
  | .bool, _ => True
  | .str, s => s.size ≤ maxLen
  | .slc t, l => (∀ x ∈ l, t.okD x) ∧ l.length ≤ maxLen
  | .unit, _ => True
  | .pair a b, x => a.okD x.1 ∧ b.okD x.2
theorem wf_i64 {n : Int} (h : (Lit.int .i64 n).wf = true) : -9223372036854775808 ≤ n ∧ n ≤ 9223372036854775807 := by
  simp [Lit.wf, IntKind.min, IntKind.max, IntKind.signed, IntKind.bits] at h; omega
theorem wf_u64 {n : Int} (h : (Lit.int .u64 n).wf = true) : 0 ≤ n ∧ n ≤ 18446744073709551615 := by
  simp [Lit.wf, IntKind.min, IntKind.max, IntKind.signed, IntKind.bits] at h; omega
theorem wf_u8 {n : Int} (h : (Lit.int .u8 n).wf = true) : 0 ≤ n ∧ n ≤ 255 := by
  simp [Lit.wf, IntKind.min, IntKind.max, IntKind.signed, IntKind.bits] at h; omega
end Go.Vc

namespace Go.Proofs.Ytnldhkhnfodplaa
open Go Go.Vc Go.RowKit
theorem auditSums_true (x0 : DT.den (.slc tADone)) (x1 : Int) (x2 : DT.den tAUnit) (o0 : DT.okD (.slc tADone) x0) (_ : DT.okD (.int .i64) x1) (_ : DT.okD tAUnit x2) : law39_AuditSums x0 x1 x2 = some true := by
  have hm := o0.2
  rw [maxLen_eq] at hm
  refine sums_law hm (fun d hd => ?_) (fun d hd => ?_)
  · have h : DT.okD tADone d := o0.1 d hd
    have := h.2.1.2.2.2.1.2
    rw [maxLen_eq] at this
    exact this
  · have h : DT.okD tADone d := o0.1 d hd
    refine ⟨wf_i64 h.1.2.2.2.2.2.2.2.2.2.1, fun r hr => ?_, fun x hx => ?_⟩
    · have h2 : DT.okD tAReturn r := h.2.1.2.2.2.1.1 r hr
      exact ⟨wf_i64 h2.2.1, fun x hx => wf_i64 (h2.2.2.1.1 x hx).2.2.1⟩
    · have h2 : DT.okD tADebit x := h.2.1.2.2.1.1 x hx
      exact wf_i64 h2.2.2.1
end Go.Proofs.Ytnldhkhnfodplaa

namespace Go.Proofs.Ytnldhkhnfodplaa
open Go Go.Vc Go.RowKit Go.ChangeShapes Go.WideShapes Go.ChangeAt Go.Joins

theorem own : ownKnob Try.prog.godebug = none := by kernel_rfl
theorem laidOut : laidOutB Try.prog = true := by kernel_rfl
theorem trod_places {H : Type} {enc : TypeId × Value → H} {w : World} {spare : Nat → Bool} {held : Bool} {t : TypeId} {v : Value} {d : DataW H} {p : List MemPlace} (h : DataW.Trod enc Try.prog w 0 spare held t v d p) : ∀ x ∈ p, x.block < w.heap.size := by
  obtain ⟨m, hm⟩ := h; exact DataW.trod_lt m _ _ _ hm
end Go.Proofs.Ytnldhkhnfodplaa

/-! A program's closures over a table of who leads to whom (own work): so that 'recurses' is not reckoned by the kernel function by function. -/
namespace Go.Vc
open Go
def closT (T : List (List Nat)) : Nat → List Nat → List Nat → List Nat
  | 0, _, seen => seen.reverse
  | _, [], seen => seen.reverse
  | n + 1, f :: todo, seen => if seen.contains f then closT T n todo seen else closT T n ((T[f]?).getD [] ++ todo) (f :: seen)
theorem lead_eq {P : Program} {T : List (List Nat)} (hT : P.funcs.toList.map P.leadsTo = T) (f : Nat) : (P.funcs[f]?).elim [] P.leadsTo = (T[f]?).getD [] := by
  subst hT
  rw [List.getElem?_map, Array.getElem?_toList]
  cases P.funcs[f]? <;> rfl
theorem closureVia_eq {P : Program} {T : List (List Nat)} (hT : P.funcs.toList.map P.leadsTo = T) : ∀ n todo seen, P.closureVia n todo seen = closT T n todo seen
  | 0, _, _ => by simp only [Program.closureVia, closT]
  | n + 1, [], _ => by simp only [Program.closureVia, closT]
  | n + 1, f :: todo, seen => by
    simp only [Program.closureVia, closT]
    rw [closureVia_eq hT n, closureVia_eq hT n, lead_eq hT f]
theorem closure_eq {P : Program} {T : List (List Nat)} (hT : P.funcs.toList.map P.leadsTo = T) (f : Nat) : P.closure f = closT T (1 + (T.map fun l => l.length + 1).sum) [f] [] := by
  unfold Program.closure
  rw [closureVia_eq hT]
  subst hT
  rw [List.map_map]; rfl
theorem mem_closT {T : List (List Nat)} {p : Nat → Prop} (hp : ∀ x, p x → ∀ y ∈ (T[x]?).getD [], p y) : ∀ n todo seen, (∀ x ∈ todo, p x) → (∀ x ∈ seen, p x) → ∀ x ∈ closT T n todo seen, p x
  | 0, _, _, _, hs => by intro x hx; simp only [closT] at hx; exact hs x (by simpa using hx)
  | n + 1, [], _, _, hs => by intro x hx; simp only [closT] at hx; exact hs x (by simpa using hx)
  | n + 1, f :: todo, seen, ht, hs => by
    intro x hx
    simp only [closT] at hx
    split at hx
    · exact mem_closT hp n todo seen (fun y hy => ht y (by simp [hy])) hs x hx
    · refine mem_closT hp n _ _ (fun y hy => ?_) (fun y hy => ?_) x hx
      · rcases List.mem_append.1 hy with h | h
        · exact hp f (ht f (by simp)) y h
        · exact ht y (by simp [h])
      · rcases List.mem_cons.1 hy with rfl | h
        · exact ht y (by simp)
        · exact hs y h
/-- a rank that falls along every call (0: not ranked) -/
def okRk (T : List (List Nat)) (rk : List Nat) : Bool :=
  (List.range T.length).all fun g => (rk[g]?).getD 0 == 0 || ((T[g]?).getD []).all fun h => decide (0 < (rk[h]?).getD 0) && decide ((rk[h]?).getD 0 < (rk[g]?).getD 0)
theorem okRk_at {T : List (List Nat)} {rk : List Nat} (h : okRk T rk = true) {g y : Nat} (hg : 0 < (rk[g]?).getD 0) (hy : y ∈ (T[g]?).getD []) : 0 < (rk[y]?).getD 0 ∧ (rk[y]?).getD 0 < (rk[g]?).getD 0 := by
  have hlt : g < T.length := by
    rcases Nat.lt_or_ge g T.length with h1 | h1
    · exact h1
    · rw [List.getElem?_eq_none h1] at hy; cases hy
  have := List.all_eq_true.1 h g (List.mem_range.2 hlt)
  simp only [Bool.or_eq_true, beq_iff_eq, List.all_eq_true, Bool.and_eq_true, decide_eq_true_eq] at this
  rcases this with h0 | h0
  · omega
  · exact h0 y hy
theorem recurses_no {P : Program} {T : List (List Nat)} {rk : List Nat} {f : Nat} (hT : P.funcs.toList.map P.leadsTo = T) (hk : okRk T rk = true) (hf : 0 < (rk[f]?).getD 0) (hu : P.unfollowed f = false) : P.recurses f = false := by
  unfold Program.recurses
  rw [hu, Bool.false_or, List.any_eq_false]
  intro g hg
  rw [closure_eq hT] at hg
  have hg0 : 0 < (rk[g]?).getD 0 := mem_closT (p := fun x => 0 < (rk[x]?).getD 0) (fun x hx y hy => (okRk_at hk hx hy).1) _ _ _ (by intro x hx; simp only [List.mem_singleton] at hx; subst hx; exact hf) (by intro x hx; cases hx) g hg
  simp only [Bool.not_eq_true, List.any_eq_false]
  intro h hh
  rw [lead_eq hT] at hh
  obtain ⟨h1, h2⟩ := okRk_at hk hg0 hh
  rw [closure_eq hT]
  cases hc : (closT T (1 + (T.map fun l => l.length + 1).sum) [h] []).contains g with
  | false => rfl
  | true =>
    have hm := List.contains_iff_mem.1 hc
    have := mem_closT (p := fun x => 0 < (rk[x]?).getD 0 ∧ (rk[x]?).getD 0 ≤ (rk[h]?).getD 0) (fun x hx y hy => by have := okRk_at hk hx.1 hy; exact ⟨this.1, by omega⟩) _ _ _ (by intro x hx; simp only [List.mem_singleton] at hx; subst hx; exact ⟨h1, Nat.le_refl _⟩) (by intro x hx; cases hx) g hm
    omega
end Go.Vc

namespace Go.Proofs.Ytnldhkhnfodplaa
open Go Go.Vc
def leadsT : List (List Nat) := [[], [], [1], [15, 16, 17, 18], [18, 19, 20, 18, 20, 20, 20, 18], [15, 21, 16, 22, 17, 23, 20, 24, 18], [25, 27, 26, 27, 28, 30, 29, 30, 31, 33, 32, 34], [27, 30, 35, 25, 26, 29, 33, 36, 37, 38, 39, 36, 25, 40, 37, 41, 26, 39, 33, 32, 34], [27, 26, 30, 29, 33, 37, 38, 40, 41, 39, 34], [42, 43, 44, 45, 46], [43, 47, 50, 49, 51, 48, 52, 49, 48, 53, 49, 48, 55, 56, 54, 58, 59, 57, 46], [60, 61, 62, 32, 63, 64, 65, 66, 67], [35, 60, 68, 69, 70, 61, 32, 61, 67, 68, 70, 67], [71, 35, 72, 73, 74, 32, 75, 73, 75, 67, 74, 32, 67], [76, 76, 77, 77, 78, 79], [80], [80], [80], [15, 16, 16, 19], [], [19], [81], [81], [81], [], [], [82, 84, 83], [], [85], [82, 84, 83], [], [85], [], [82, 86], [25, 26, 29, 33, 36, 32, 37, 37, 38, 39], [], [86], [87, 88, 89, 90], [37, 87, 90], [41], [87], [], [91, 92, 92, 76, 93, 94], [60, 95], [96, 97, 50, 98, 50], [100, 100, 99, 101, 51, 48, 102, 51, 48], [44, 50, 49, 103, 48], [56, 103, 99, 103, 99], [104], [105], [106, 108, 107, 108, 109, 110, 109, 111], [103, 99, 103, 104, 103, 104, 112, 104], [114, 113], [115, 113], [], [106], [], [], [106], [], [], [63, 116], [64, 117, 66, 117, 117, 117, 117, 117, 117, 117, 85, 85, 117, 28], [116, 118, 119], [66, 121, 120, 121, 120, 121, 120, 121, 120, 121, 120, 121, 120, 121, 120, 121, 120, 121, 120, 121, 121, 121], [], [], [61, 68, 32], [118], [122, 122, 66, 122, 122, 122, 122, 122, 122, 122, 122, 122, 122, 122, 123, 122, 124, 64], [125], [95], [25, 26, 26, 26, 126, 126, 26, 26, 126, 26, 26, 33], [36, 127, 128, 129, 41, 130, 130, 37, 129, 41, 131, 39, 72, 132], [117, 28, 117, 117, 85, 117, 117, 85, 117, 117, 85], [125, 54, 133], [], [134, 135, 136, 138, 137], [], [139, 140, 140, 134], [141], [142], [], [], [], [], [], [], [90, 90], [], [], [], [143], [95], [], [], [144, 144, 107, 111], [108, 145], [146, 145], [148, 147, 149, 150, 147, 150, 147], [151, 103, 99], [112, 99], [103, 99], [152, 152, 148], [153, 99], [103, 152, 99], [], [], [], [154, 107], [108, 146], [145], [103, 99], [55, 108, 107, 111], [], [], [25, 26, 65, 155, 33], [85], [36, 37, 129, 65, 156, 39], [157], [], [], [123], [158, 158, 158], [], [], [26], [37], [129, 41, 37], [37], [127, 127], [130, 37, 129, 41, 127, 127, 37], [], [159], [160], [161], [162, 163], [108, 145, 164], [], [165, 134, 77], [], [], [], [], [166, 108, 145], [167, 168], [108, 145], [], [], [], [], [], [], [147], [170, 172, 171, 169], [26, 126, 126, 26, 26, 26, 26, 26, 26, 26, 26], [129, 173, 173, 129, 129, 129, 129, 37, 37, 128], [], [], [], [], [], [175, 174], [160, 160], [176], [108, 108, 177, 164], [], [178, 178], [169], [], [172, 179, 179], [179, 179], [], [129, 129], [180, 181, 182, 183, 184, 185, 186, 187, 174, 174], [188, 189], [108], [167, 167, 108, 167, 168], [], [], [], [190, 190], [191, 192], [193, 193, 193, 194], [], [], [], [], [], [], [], [175], [], [194], [195, 195, 195], [], [], [], [], [], [], [], [], [], [], [], [], [], [], [], [], [], []]
def rankT : List Nat := [1, 1, 2, 5, 5, 5, 6, 6, 6, 9, 9, 11, 11, 11, 0, 3, 3, 3, 4, 1, 2, 3, 3, 3, 1, 1, 2, 1, 2, 2, 1, 2, 1, 2, 5, 1, 2, 3, 4, 2, 2, 1, 3, 2, 7, 5, 8, 3, 4, 4, 6, 4, 6, 6, 1, 2, 1, 1, 2, 1, 1, 9, 3, 8, 2, 1, 1, 10, 8, 4, 2, 2, 4, 7, 3, 3, 1, 0, 1, 0, 2, 2, 1, 1, 1, 1, 1, 1, 2, 1, 1, 1, 2, 2, 1, 1, 5, 4, 5, 2, 3, 4, 3, 2, 3, 3, 1, 1, 1, 4, 5, 4, 3, 5, 1, 1, 5, 2, 7, 2, 1, 1, 3, 2, 1, 1, 3, 4, 5, 4, 5, 6, 1, 2, 2, 2, 0, 4, 1, 0, 1, 1, 1, 1, 4, 3, 4, 1, 1, 1, 1, 1, 1, 2, 3, 4, 6, 1, 1, 1, 1, 1, 0, 2, 3, 4, 1, 2, 2, 1, 2, 2, 1, 5, 0, 2, 2, 3, 1, 1, 1, 2, 4, 4, 1, 1, 1, 1, 1, 1, 1, 3, 1, 3, 2, 1, 1, 1, 1, 1, 1, 1, 1, 1, 1, 1, 1, 1, 1, 1, 1, 1, 1]
set_option maxRecDepth 1000000 in
theorem leads_ok : Try.prog.funcs.toList.map Try.prog.leadsTo = leadsT := by kernel_rfl
set_option maxRecDepth 1000000 in
theorem rank_ok : okRk leadsT rankT = true := by kernel_rfl
end Go.Proofs.Ytnldhkhnfodplaa
