import Derived.Test.YtnldhkhnfodplaaB4
namespace Go.Proofs.Ytnldhkhnfodplaa
open Go Go.Vc Go.RowKit
theorem audit_succ (l : List ADone) (k : Int) (i : Nat) (h : i < l.length) : auditSum (l.take (i + 1)) k = auditSum (l.take i) k + (if (l[i]).reply.err = 0 then doneI (l[i]) k else 0) := by
  unfold auditSum goodL
  rw [show l.take (i + 1) = l.take i ++ [l[i]] by simp, List.filter_append, List.map_append, List.sum_append]
  congr 1
  by_cases hk : (l[i]).reply.err = 0
  · simp [List.filter, hk]
  · have : ((l[i]).reply.err == 0) = false := by simpa using hk
    simp [List.filter, this, hk]
theorem cmd_two (x : ADone) (k : Int) : cmdI x k = (if x.command.asset = k ∧ x.command.op = 17 then x.command.qty else 0) - (if x.command.asset = k ∧ x.command.op = 18 then x.command.qty else 0) := by
  unfold cmdI
  by_cases h1 : x.command.asset = k <;> by_cases h2 : x.command.op = 17 <;> by_cases h3 : x.command.op = 18 <;> simp [h1, h2, h3] <;> omega
set_option maxHeartbeats 4000000 in
set_option maxRecDepth 100000 in
theorem sumB_ct (l : List ADone) (k : Int) (ha0 : ∀ x ∈ l, x.few) (hb0 : l.length ≤ 900) : Ct Try.prog 51 [.sl 18 (l.map ADone.r), .val (.int .i64 k)] (.agg (Novationref01Big.r (big (auditSum l k)))) := by
 refine ct_startT (cuts [9, 11]) [(5, (.rd 0 (.rd 1 (.rd 2 (.rd 3 (.rd 4 (.rd 5 (.rd 6 (.rd 7 (.rd 8 (.rd 9 (.two 10 11 (ofL [(11, false), (12, false), (13, false)]) (ofL [(10, false), (12, false), (13, false)]))))))))))))), (8, (.rd 1 (.rd 2 (.two 0 3 (ofL [(3, false), (4, false), (5, false)]) (ofL [(0, false), (4, false), (5, false)]))))), (10, (.rd 1 (.rd 2 (.two 0 3 (ofL [(3, false), (4, false), (5, false)]) (ofL [(0, false), (4, false), (5, false)]))))), (15, (.rd 1 (.rd 2 (.rd 3 (.rd 4 (.rd 5 (.rd 6 (.two 0 7 (ofL [(7, false), (8, false), (9, false)]) (ofL [(0, false), (8, false), (9, false)]))))))))), (16, (.rd 1 (.rd 2 (.rd 3 (.rd 4 (.rd 5 (.rd 6 (.rd 7 (.two 0 8 (ofL [(8, false), (9, false), (10, false)]) (ofL [(0, false), (9, false), (10, false)]))))))))))] Try.func51 rfl (by decide +kernel) rfl ?_
 intro a1 n2 c3 h4 h4l h4c U w H
 simp only [List.length_map] at h4
 intro b5 hb5
 have H := H.box hb5
 intro b6 hb6
 have H := H.box hb6
 refine ⟨[6, 7, 8, 9, 11, 12, 13, 14, 15, 16, 17, 18, 19, 20, 21, 22, 23, 24, 25, 26, 27, 28, 29, 30, 31, 32, 33, 34, 35, 36, 37, 38, 39, 40, 41, 42, 43, 44, 45, 46, 47, 48, 49, 50, 51, 52, 53, 54, 55, 56, 57, 58, 59, 60, 61, 62, 63, 64, 65, 66, 67, 68, 69, 70, 71, 72, 73, 74, 75, 76, 77, 78, 79, 80, 81, 82, 83, 84, 85],
   { X := (Nat) × (Int) × (Bool) × (Option Addr) × (Nat) × (Nat), slots := [6], vals := fun (i, z, k0, za, zn, zc) => [.int .i64 ((i : Int))], boxes := [1], cells := fun (i, z, k0, za, zn, zc) => [[(bif k0 then XV.bool ((big (z)).neg) else XV.lit ((big (z)).neg)), .slc za zn zc]],
     inv := fun (i, z, k0, za, zn, zc) w' => Ctx w U [] [b5, b6] [] [(.slice a1 n2 c3, .sl 18 ((l).map ADone.r)), (.slice za zn zc, .sl 1 (((big (z)).b).map (fun x => [R.val (.int .u8 x)])))] w' ∧ (i ≤ l.length ∧ z = auditSum (l.take i) k), μ := fun (i, z, k0, za, zn, zc) => l.length - i }, by kernel_rfl, ?_, ?_, ?_⟩
 ·rintro ⟨i, z, k0, za, zn, zc⟩; cases k0 <;> exact ⟨⟨trivial, trivial⟩, ⟨trivial, trivial, trivial⟩, trivial⟩
 ·intro w' t
  have H := nilB H (l := (big (0)).b) (by simp [big, bits0])
  refine ⟨⟨0, 0, false, none, 0, 0⟩, rfl, rfl, rfl, H.fin t 2 _, ?_⟩
  exact ⟨Nat.zero_le _, rfl⟩
 ·rintro ⟨i, z, k0, za, zn, zc⟩ w' ⟨H, hI⟩
  obtain ⟨hi, hz⟩ := hI
  cases k0
  ·apply And.intro <;> intro q7
   ·have q7' := of_decide_eq_true q7
    have hin : i < l.length := by omega
    have hx : (l[i]'hin).few := ha0 _ (List.getElem_mem hin)
    have hq : ok64 (l[i]'hin).command.qty := hx.1.1.2.2.2.2.2.2.2.2.2.1
    have hqi := hq.is
    have hbz := audit_bound (l.take i) k (fun x hx => ha0 x (List.mem_of_mem_take hx)) (by rw [List.length_take]; omega)
    rw [← hz] at hbz
    have hsucc := audit_succ l k i hin
    rw [← hz] at hsucc
    have hbr : ∀ r ∈ (l[i]'hin).reply.returns, -(9223372036854775808 * 1000000) ≤ backI r k ∧ backI r k ≤ (9223372036854775808 * 1000000) := fun r hr => back_bound r k (hx.1.2.2.2.2.1 r hr) (hx.2.2 r hr)
    have h900 := hx.2.1
    refine ⟨by decide +kernel, ([] : List Nat), [2, 3], ?_⟩
    refine H.at (a := a1) (n := n2) (c := c3) (els := (l).map ADone.r) (i := ((i : Int)).toNat) (cs := (ADone.r ((l)[i]'hin))) (by simp [hin]) (Nat.succ_pos _) ?_
    intro ad8 hn9e hn9 a10 n11 c12 h13 h13l h13c a14 n15 c16 h17 h17l h17c a18 n19 c20 h21 h21l h21c a22 n23 c24 h25 h25l h25c H hat26l hat26
    simp only [List.length_map] at h13
    simp only [List.length_map] at h17
    simp only [List.length_map] at h21
    simp only [List.length_map] at h25
    refine ⟨ad8, hn9e, (by first | exact Int.natCast_nonneg _ | omega), (by first | omega | (simp; omega)), ?_⟩
    refine ⟨fun hm => (by first | exact absurd hm (by simp; done) | exact Us.own (Us.ad (Us.ad hn9)) (by simpa [ownBl, Own.row, oblk, Own.obj] using hm)), [.int .i64 (((l)[i]'hin).command.op), .int .i64 (((l)[i]'hin).command.by_), .int .i64 (((l)[i]'hin).command.member), .int .i64 (((l)[i]'hin).command.unit.account), .int .i64 (((l)[i]'hin).command.unit.client), .int .i64 (((l)[i]'hin).command.other.account), .int .i64 (((l)[i]'hin).command.other.client), .int .i64 (((l)[i]'hin).command.inst), .int .i64 (((l)[i]'hin).command.asset), .int .i64 (((l)[i]'hin).command.tag), .int .i64 (((l)[i]'hin).command.id), .int .i64 (((l)[i]'hin).command.qty), .int .i64 (((l)[i]'hin).command.price), .slice a10 n11 c12], rfl, List.cons_ne_nil _ _, cellsAt_part hat26 0 14, Us.box (Us.ad (Us.ad hn9)), ?_⟩
    refine ⟨ad8, hn9e, (by first | exact Int.natCast_nonneg _ | omega), (by first | omega | (simp; omega)), ?_⟩
    refine ⟨fun hm => (by first | exact absurd hm (by simp; done) | exact Us.own (Us.ad (Us.ad hn9)) (by simpa [ownBl, Own.row, oblk, Own.obj] using hm)), [.int .i64 (((l)[i]'hin).reply.err), .slice a14 n15 c16, .slice a18 n19 c20, .slice a22 n23 c24], rfl, List.cons_ne_nil _ _, cellsAt_part hat26 14 4, Us.box (Us.ad (Us.ad hn9)), ?_⟩
    refine ⟨?_, ?_⟩
    all_goals
     intro b27 hb27
     have H := H.box hb27
     refine andE ((ExtS.refl (([] : List Nat)) [2, 3] _ _).box hb27) fun E => ?_
     intro b28 hb28
     have H := H.box hb28
     refine andE (E.box hb28) fun E => ?_
     refine andE (E.store (by repeat (first | exact trivial | exact rfl | refine ⟨?_, ?_⟩))) fun E => ?_
     refine andE (E.store (by repeat (first | exact trivial | exact rfl | refine ⟨?_, ?_⟩))) fun E => ?_
     apply And.intro <;> intro q29
     ·have q29' := q29; simp at q29'
      have hS : auditSum (l.take (i + 1)) k = z := by rw [hsucc, if_neg (by simpa using q29)]; omega
      intro w' t
      refine ⟨⟨i + 1, z, false, za, zn, zc⟩, (by first | rfl | exact xInc (by first | omega | (rw [maxLen_eq]; omega)) | simp), rfl, rfl, ⟨H.fin t 2 _, ?_⟩, ?_⟩
      ·exact ⟨hin, hS.symm⟩
      ·show l.length - (i + 1) < l.length - i; omega
     ·have q29' := q29; simp at q29'
      rw [if_pos (by simpa using q29)] at hsucc
      refine ⟨[30, 31, 32, 33, 34, 35, 36, 37, 38, 39, 40, 41, 42, 43],
        { X := (Int) × (Bool) × (Option Addr) × (Nat) × (Nat), slots := [], vals := fun (u, k1, ua, un, uc) => [], boxes := [1], cells := fun (u, k1, ua, un, uc) => [[(bif k1 then XV.bool ((big (u)).neg) else XV.lit ((big (u)).neg)), .slc ua un uc]],
          inv := fun (u, k1, ua, un, uc) w' => Ctx w U [] [b5, b6, b27, b28] [] [(.slice a1 n2 c3, .sl 18 ((l).map ADone.r)), (.slice a10 n11 c12, .sl 1 ((((l)[i]'hin).command.numbers).map (fun x => [R.val (.int .i64 x)]))), (.slice a14 n15 c16, .sl 1 ((((l)[i]'hin).reply.numbers).map (fun x => [R.val (.int .i64 x)]))), (.slice a18 n19 c20, .sl 5 ((((l)[i]'hin).reply.debits).map ADebit.r)), (.slice a22 n23 c24, .sl 4 ((((l)[i]'hin).reply.returns).map AReturn.r)), (.slice ua un uc, .sl 1 (((big (u)).b).map (fun x => [R.val (.int .u8 x)])))] w' ∧ (u = z + (if (l[i]'hin).command.asset = k ∧ (l[i]'hin).command.op = 17 then (l[i]'hin).command.qty else 0)), μ := fun _ => 0 }, fun (u, k1, ua, un, uc) => [], by kernel_rfl, ?_, ?_, ?_⟩
      ·rintro ⟨u, k1, ua, un, uc⟩; cases k1 <;> exact ⟨trivial, ⟨trivial, trivial, trivial⟩, trivial⟩
      ·apply And.intro <;> intro q30
       ·have q30' := q30; simp at q30'
        have ha : (l[i]'hin).command.asset = k := by simpa using q30
        apply And.intro <;> intro q31
        ·have q31' := q31; simp at q31'
         have h17 : (l[i]'hin).command.op = 17 := by simpa using q31
         refine ⟨by decide +kernel, ([] : List Nat), [1], ?_⟩
         refine ⟨rfl, ?_⟩
         refine ⟨?_, ?_⟩
         ·refine andE (ExtS.refl (([] : List Nat)) [1] _ _) fun E => ?_
          intro w' t
          refine H.cD t E (ofB_ct (((l)[i]'hin).command.qty) (by first | exact hq | exact hr9.2.1)) ?_
          intro a32 n33 c34 h35 h35l h35c w' H E
          simp only [List.length_map] at h35
          refine ⟨E, ?_⟩
          intro w' t
          refine H.cD t E (ct_big (b := big (z + ((l)[i]'hin).command.qty)) (addB_ct ((big (z))) ((big (((l)[i]'hin).command.qty))) (nb_big _) (nb_big _) (big_len' (by omega)) (big_len' (by omega))) (by rw [bv_big, bv_big])) ?_
          intro a36 n37 c38 h39 h39l h39c w' H E
          simp only [List.length_map] at h39
          refine ⟨E, ?_⟩
          refine andE (E.store (by repeat (first | exact trivial | exact rfl | refine ⟨?_, ?_⟩))) fun E => ?_
          intro w' t
          refine ⟨⟨z + ((l)[i]'hin).command.qty, true, a36, n37, c38⟩, rfl, rfl, rfl, rfl, H.fin t 4 _, ?_⟩
          first | (rw [if_pos ⟨ha, h17⟩]; done) | (rw [if_neg (fun hh => h17 hh.2)]; omega) | (rw [if_neg (fun hh => ha hh.1)]; omega)
         ·intro w' t
          refine H.cD t (ExtS.refl (([] : List Nat)) [1] _ _) (ofB_ct (((l)[i]'hin).command.qty) (by first | exact hq | exact hr9.2.1)) ?_
          intro a40 n41 c42 h43 h43l h43c w' H E
          simp only [List.length_map] at h43
          refine ⟨E, ?_⟩
          refine andE E fun E => ?_
          intro w' t
          refine H.cD t E (ct_big (b := big (z + ((l)[i]'hin).command.qty)) (addB_ct ((big (z))) ((big (((l)[i]'hin).command.qty))) (nb_big _) (nb_big _) (big_len' (by omega)) (big_len' (by omega))) (by rw [bv_big, bv_big])) ?_
          intro a44 n45 c46 h47 h47l h47c w' H E
          simp only [List.length_map] at h47
          refine ⟨E, ?_⟩
          refine andE (E.store (by repeat (first | exact trivial | exact rfl | refine ⟨?_, ?_⟩))) fun E => ?_
          intro w' t
          refine ⟨⟨z + ((l)[i]'hin).command.qty, true, a44, n45, c46⟩, rfl, rfl, rfl, rfl, H.fin t 4 _, ?_⟩
          first | (rw [if_pos ⟨ha, h17⟩]; done) | (rw [if_neg (fun hh => h17 hh.2)]; omega) | (rw [if_neg (fun hh => ha hh.1)]; omega)
        ·have q31' := q31; simp at q31'
         have h17 : ¬ (l[i]'hin).command.op = 17 := by simpa using q31
         intro w' t
         refine ⟨⟨z, false, za, zn, zc⟩, rfl, rfl, rfl, rfl, H.fin t 4 _, ?_⟩
         first | (rw [if_pos ⟨ha, h17⟩]; done) | (rw [if_neg (fun hh => h17 hh.2)]; omega) | (rw [if_neg (fun hh => ha hh.1)]; omega)
       ·have q30' := q30; simp at q30'
        have ha : ¬ (l[i]'hin).command.asset = k := by simpa using q30
        intro w' t
        refine ⟨⟨z, false, za, zn, zc⟩, rfl, rfl, rfl, rfl, H.fin t 4 _, ?_⟩
        first | (rw [if_pos ⟨ha, h17⟩]; done) | (rw [if_neg (fun hh => h17 hh.2)]; omega) | (rw [if_neg (fun hh => ha hh.1)]; omega)
      ·rintro ⟨u, k1, ua, un, uc⟩ w' ⟨H, hI⟩
       have hu := hI
       have hbu : z - 9223372036854775808 ≤ u ∧ u ≤ z + 9223372036854775808 := by rw [hu]; split <;> omega
       cases k1
       ·refine ⟨[44, 45, 46, 47, 48, 49, 50, 51, 52, 53, 54, 55, 56, 57],
          { X := (Int) × (Bool) × (Option Addr) × (Nat) × (Nat), slots := [], vals := fun (v, k2, va, vn, vc) => [], boxes := [1], cells := fun (v, k2, va, vn, vc) => [[(bif k2 then XV.bool ((big (v)).neg) else XV.lit ((big (v)).neg)), .slc va vn vc]],
            inv := fun (v, k2, va, vn, vc) w' => Ctx w U [] [b5, b6, b27, b28] [] [(.slice a1 n2 c3, .sl 18 ((l).map ADone.r)), (.slice a10 n11 c12, .sl 1 ((((l)[i]'hin).command.numbers).map (fun x => [R.val (.int .i64 x)]))), (.slice a14 n15 c16, .sl 1 ((((l)[i]'hin).reply.numbers).map (fun x => [R.val (.int .i64 x)]))), (.slice a18 n19 c20, .sl 5 ((((l)[i]'hin).reply.debits).map ADebit.r)), (.slice a22 n23 c24, .sl 4 ((((l)[i]'hin).reply.returns).map AReturn.r)), (.slice va vn vc, .sl 1 (((big (v)).b).map (fun x => [R.val (.int .u8 x)])))] w' ∧ (v = u - (if (l[i]'hin).command.asset = k ∧ (l[i]'hin).command.op = 18 then (l[i]'hin).command.qty else 0)), μ := fun _ => 0 }, fun (v, k2, va, vn, vc) => [], by kernel_rfl, ?_, ?_, ?_⟩
        ·rintro ⟨v, k2, va, vn, vc⟩; cases k2 <;> exact ⟨trivial, ⟨trivial, trivial, trivial⟩, trivial⟩
        ·apply And.intro <;> intro q48
         ·have q48' := q48; simp at q48'
          have ha : (l[i]'hin).command.asset = k := by simpa using q48
          apply And.intro <;> intro q49
          ·have q49' := q49; simp at q49'
           have h18 : (l[i]'hin).command.op = 18 := by simpa using q49
           refine ⟨by decide +kernel, ([] : List Nat), [1], ?_⟩
           refine ⟨rfl, ?_⟩
           refine ⟨?_, ?_⟩
           ·refine andE (ExtS.refl (([] : List Nat)) [1] _ _) fun E => ?_
            intro w' t
            refine H.cD t E (ofB_ct (((l)[i]'hin).command.qty) (by first | exact hq | exact hr9.2.1)) ?_
            intro a50 n51 c52 h53 h53l h53c w' H E
            simp only [List.length_map] at h53
            refine ⟨E, ?_⟩
            intro w' t
            refine H.cD t E (ct_big (b := big (u - ((l)[i]'hin).command.qty)) (subB_ct ((big (u))) ((big (((l)[i]'hin).command.qty))) (nb_big _) (nb_big _) (big_len' (by omega)) (big_len' (by omega))) (by rw [bv_big, bv_big])) ?_
            intro a54 n55 c56 h57 h57l h57c w' H E
            simp only [List.length_map] at h57
            refine ⟨E, ?_⟩
            refine andE (E.store (by repeat (first | exact trivial | exact rfl | refine ⟨?_, ?_⟩))) fun E => ?_
            intro w' t
            refine ⟨⟨u - ((l)[i]'hin).command.qty, true, a54, n55, c56⟩, rfl, rfl, rfl, rfl, H.fin t 4 _, ?_⟩
            first | (rw [if_pos ⟨ha, h18⟩]; done) | (rw [if_neg (fun hh => h18 hh.2)]; omega) | (rw [if_neg (fun hh => ha hh.1)]; omega)
           ·intro w' t
            refine H.cD t (ExtS.refl (([] : List Nat)) [1] _ _) (ofB_ct (((l)[i]'hin).command.qty) (by first | exact hq | exact hr9.2.1)) ?_
            intro a58 n59 c60 h61 h61l h61c w' H E
            simp only [List.length_map] at h61
            refine ⟨E, ?_⟩
            refine andE E fun E => ?_
            intro w' t
            refine H.cD t E (ct_big (b := big (u - ((l)[i]'hin).command.qty)) (subB_ct ((big (u))) ((big (((l)[i]'hin).command.qty))) (nb_big _) (nb_big _) (big_len' (by omega)) (big_len' (by omega))) (by rw [bv_big, bv_big])) ?_
            intro a62 n63 c64 h65 h65l h65c w' H E
            simp only [List.length_map] at h65
            refine ⟨E, ?_⟩
            refine andE (E.store (by repeat (first | exact trivial | exact rfl | refine ⟨?_, ?_⟩))) fun E => ?_
            intro w' t
            refine ⟨⟨u - ((l)[i]'hin).command.qty, true, a62, n63, c64⟩, rfl, rfl, rfl, rfl, H.fin t 4 _, ?_⟩
            first | (rw [if_pos ⟨ha, h18⟩]; done) | (rw [if_neg (fun hh => h18 hh.2)]; omega) | (rw [if_neg (fun hh => ha hh.1)]; omega)
          ·have q49' := q49; simp at q49'
           have h18 : ¬ (l[i]'hin).command.op = 18 := by simpa using q49
           intro w' t
           refine ⟨⟨u, false, ua, un, uc⟩, rfl, rfl, rfl, rfl, H.fin t 4 _, ?_⟩
           first | (rw [if_pos ⟨ha, h18⟩]; done) | (rw [if_neg (fun hh => h18 hh.2)]; omega) | (rw [if_neg (fun hh => ha hh.1)]; omega)
         ·have q48' := q48; simp at q48'
          have ha : ¬ (l[i]'hin).command.asset = k := by simpa using q48
          intro w' t
          refine ⟨⟨u, false, ua, un, uc⟩, rfl, rfl, rfl, rfl, H.fin t 4 _, ?_⟩
          first | (rw [if_pos ⟨ha, h18⟩]; done) | (rw [if_neg (fun hh => h18 hh.2)]; omega) | (rw [if_neg (fun hh => ha hh.1)]; omega)
        ·rintro ⟨v, k2, va, vn, vc⟩ w' ⟨H, hI⟩
         have hv := hI
         have hbv : u - 9223372036854775808 ≤ v ∧ v ≤ u + 9223372036854775808 := by rw [hv]; split <;> omega
         cases k2
         ·refine ⟨[9, 58, 59, 60, 61, 62, 63, 64, 65, 66, 67, 68, 69, 70, 71, 72, 73, 74, 75, 76, 77, 78, 79, 80, 81, 82, 83, 84, 85],
            { X := (Nat) × (Int) × (Bool) × (Option Addr) × (Nat) × (Nat), slots := [9], vals := fun (j, y, k3, ya, yn, yc) => [.int .i64 ((j : Int))], boxes := [1], cells := fun (j, y, k3, ya, yn, yc) => [[(bif k3 then XV.bool ((big (y)).neg) else XV.lit ((big (y)).neg)), .slc ya yn yc]],
              inv := fun (j, y, k3, ya, yn, yc) w' => Ctx w U [] [b5, b6, b27, b28] [] [(.slice a1 n2 c3, .sl 18 ((l).map ADone.r)), (.slice a10 n11 c12, .sl 1 ((((l)[i]'hin).command.numbers).map (fun x => [R.val (.int .i64 x)]))), (.slice a14 n15 c16, .sl 1 ((((l)[i]'hin).reply.numbers).map (fun x => [R.val (.int .i64 x)]))), (.slice a18 n19 c20, .sl 5 ((((l)[i]'hin).reply.debits).map ADebit.r)), (.slice a22 n23 c24, .sl 4 ((((l)[i]'hin).reply.returns).map AReturn.r)), (.slice ya yn yc, .sl 1 (((big (y)).b).map (fun x => [R.val (.int .u8 x)])))] w' ∧ (j ≤ (l[i]'hin).reply.returns.length ∧ y = v - (((l[i]'hin).reply.returns.take j).map fun r => backI r k).sum), μ := fun (j, y, k3, ya, yn, yc) => (l[i]'hin).reply.returns.length - j }, by kernel_rfl, ?_, ?_, ?_⟩
          ·rintro ⟨j, y, k3, ya, yn, yc⟩; cases k3 <;> exact ⟨⟨trivial, trivial⟩, ⟨trivial, trivial, trivial⟩, trivial⟩
          ·intro w' t
           refine ⟨⟨0, v, false, va, vn, vc⟩, rfl, rfl, rfl, rfl, rfl, H.fin t 4 _, ?_⟩
           exact ⟨Nat.zero_le _, by simp⟩
          ·rintro ⟨j, y, k3, ya, yn, yc⟩ w' ⟨H, hI⟩
           obtain ⟨hj, hy⟩ := hI
           have hsb := sum_bound (fun r => backI r k) (9223372036854775808 * 1000000) ((l[i]'hin).reply.returns.take j) (fun r hr => hbr r (List.mem_of_mem_take hr))
           have htl : ((l[i]'hin).reply.returns.take j).length ≤ 900 := by rw [List.length_take]; omega
           cases k3
           ·apply And.intro <;> intro q66
            ·have q66' := of_decide_eq_true q66
             have hjn : j < (l[i]'hin).reply.returns.length := by omega
             have hr9 : ((l[i]'hin).reply.returns[j]'hjn).ok := hx.1.2.2.2.2.1 _ (List.getElem_mem hjn)
             have hl9 : ((l[i]'hin).reply.returns[j]'hjn).lots.length ≤ 1000000 := hx.2.2 _ (List.getElem_mem hjn)
             have hcash := (show ok64 ((l[i]'hin).reply.returns[j]'hjn).cash from hr9.2.1).is
             have hlb := lots_bound ((l[i]'hin).reply.returns[j]'hjn).lots k hr9.2.2.1 hl9
             have hS2 : (((l[i]'hin).reply.returns.take (j + 1)).map fun r => backI r k).sum = (((l[i]'hin).reply.returns.take j).map fun r => backI r k).sum + backI ((l[i]'hin).reply.returns[j]'hjn) k := by rw [take_map_succ (fun r => backI r k) _ j hjn]; simp
             apply And.intro <;> intro q67
             ·have q67' := q67; simp at q67'
              have hbk : backI ((l[i]'hin).reply.returns[j]'hjn) k = ((l[i]'hin).reply.returns[j]'hjn).cash := by unfold backI; exact if_pos (by simpa using q67)
              refine ⟨by decide +kernel, ([] : List Nat), [1], ?_⟩
              refine ⟨rfl, ?_⟩
              refine H.at (a := a22) (n := n23) (c := c24) (els := (((l)[i]'hin).reply.returns).map AReturn.r) (i := ((j : Int)).toNat) (cs := (AReturn.r ((((l)[i]'hin).reply.returns)[j]'hjn))) (by simp [hjn]) (Nat.succ_pos _) ?_
              intro ad68 hn69e hn69 a70 n71 c72 h73 h73l h73c H hat74l hat74
              simp only [List.length_map] at h73
              refine ⟨ad68, hn69e, (by first | exact Int.natCast_nonneg _ | omega), (by first | omega | (simp; omega)), ?_⟩
              refine ⟨fun hm => (by first | exact absurd hm (by simp; done) | exact Us.own (Us.ad (Us.ad hn69)) (by simpa [ownBl, Own.row, oblk, Own.obj] using hm)), .int .i64 (((((l)[i]'hin).reply.returns)[j]'hjn).cash), hat74.2.2.1, Us.box (Us.ad (Us.ad hn69)), ?_⟩
              refine ⟨?_, ?_⟩
              ·refine andE (ExtS.refl (([] : List Nat)) [1] _ _) fun E => ?_
               intro w' t
               refine H.cD t E (ofB_ct (((((l)[i]'hin).reply.returns)[j]'hjn).cash) (by first | exact hq | exact hr9.2.1)) ?_
               intro a75 n76 c77 h78 h78l h78c w' H E
               simp only [List.length_map] at h78
               refine ⟨E, ?_⟩
               intro w' t
               refine H.cD t E (ct_big (b := big (y - ((((l)[i]'hin).reply.returns)[j]'hjn).cash)) (subB_ct ((big (y))) ((big (((((l)[i]'hin).reply.returns)[j]'hjn).cash))) (nb_big _) (nb_big _) (big_len' (by omega)) (big_len' (by omega))) (by rw [bv_big, bv_big])) ?_
               intro a79 n80 c81 h82 h82l h82c w' H E
               simp only [List.length_map] at h82
               refine ⟨E, ?_⟩
               refine andE (E.store (by repeat (first | exact trivial | exact rfl | refine ⟨?_, ?_⟩))) fun E => ?_
               intro w' t
               refine ⟨⟨j + 1, y - ((((l)[i]'hin).reply.returns)[j]'hjn).cash, true, a79, n80, c81⟩, (by first | rfl | exact xInc (by first | omega | (rw [maxLen_eq]; omega)) | simp), rfl, rfl, rfl, rfl, ⟨H.fin t 4 _, ?_⟩, ?_⟩
               ·refine ⟨hjn, ?_⟩
                rw [hS2]; omega
               ·show (l[i]'hin).reply.returns.length - (j + 1) < (l[i]'hin).reply.returns.length - j; omega
              ·intro w' t
               refine H.cD t (ExtS.refl (([] : List Nat)) [1] _ _) (ofB_ct (((((l)[i]'hin).reply.returns)[j]'hjn).cash) (by first | exact hq | exact hr9.2.1)) ?_
               intro a83 n84 c85 h86 h86l h86c w' H E
               simp only [List.length_map] at h86
               refine ⟨E, ?_⟩
               refine andE E fun E => ?_
               intro w' t
               refine H.cD t E (ct_big (b := big (y - ((((l)[i]'hin).reply.returns)[j]'hjn).cash)) (subB_ct ((big (y))) ((big (((((l)[i]'hin).reply.returns)[j]'hjn).cash))) (nb_big _) (nb_big _) (big_len' (by omega)) (big_len' (by omega))) (by rw [bv_big, bv_big])) ?_
               intro a87 n88 c89 h90 h90l h90c w' H E
               simp only [List.length_map] at h90
               refine ⟨E, ?_⟩
               refine andE (E.store (by repeat (first | exact trivial | exact rfl | refine ⟨?_, ?_⟩))) fun E => ?_
               intro w' t
               refine ⟨⟨j + 1, y - ((((l)[i]'hin).reply.returns)[j]'hjn).cash, true, a87, n88, c89⟩, (by first | rfl | exact xInc (by first | omega | (rw [maxLen_eq]; omega)) | simp), rfl, rfl, rfl, rfl, ⟨H.fin t 4 _, ?_⟩, ?_⟩
               ·refine ⟨hjn, ?_⟩
                rw [hS2]; omega
               ·show (l[i]'hin).reply.returns.length - (j + 1) < (l[i]'hin).reply.returns.length - j; omega
             ·have q67' := q67; simp at q67'
              have hbk : backI ((l[i]'hin).reply.returns[j]'hjn) k = lotsSum ((l[i]'hin).reply.returns[j]'hjn).lots k := by unfold backI; exact if_neg (by simpa using q67)
              refine ⟨by decide +kernel, ([] : List Nat), [1], ?_⟩
              refine ⟨rfl, ?_⟩
              refine H.at (a := a22) (n := n23) (c := c24) (els := (((l)[i]'hin).reply.returns).map AReturn.r) (i := ((j : Int)).toNat) (cs := (AReturn.r ((((l)[i]'hin).reply.returns)[j]'hjn))) (by simp [hjn]) (Nat.succ_pos _) ?_
              intro ad91 hn92e hn92 a93 n94 c95 h96 h96l h96c H hat97l hat97
              simp only [List.length_map] at h96
              refine ⟨ad91, hn92e, (by first | exact Int.natCast_nonneg _ | omega), (by first | omega | (simp; omega)), ?_⟩
              refine ⟨fun hm => (by first | exact absurd hm (by simp; done) | exact Us.own (Us.ad (Us.ad hn92)) (by simpa [ownBl, Own.row, oblk, Own.obj] using hm)), .slice a93 n94 c95, hat97.2.2.2.1, Us.box (Us.ad (Us.ad hn92)), ?_⟩
              refine ⟨?_, ?_⟩
              ·refine andE (ExtS.refl (([] : List Nat)) [1] _ _) fun E => ?_
               intro w' t
               refine H.cD t E (lotsB_ct (((((l)[i]'hin).reply.returns)[j]'hjn).lots) (k) hr9.2.2.1 hl9) ?_
               intro a98 n99 c100 h101 h101l h101c w' H E
               simp only [List.length_map] at h101
               refine ⟨E, ?_⟩
               intro w' t
               refine H.cD t E (ct_big (b := big (y - lotsSum (((((l)[i]'hin).reply.returns)[j]'hjn).lots) (k))) (subB_ct ((big (y))) ((big (lotsSum (((((l)[i]'hin).reply.returns)[j]'hjn).lots) (k)))) (nb_big _) (nb_big _) (big_len' (by omega)) (big_len' (by omega))) (by rw [bv_big, bv_big])) ?_
               intro a102 n103 c104 h105 h105l h105c w' H E
               simp only [List.length_map] at h105
               refine ⟨E, ?_⟩
               refine andE (E.store (by repeat (first | exact trivial | exact rfl | refine ⟨?_, ?_⟩))) fun E => ?_
               intro w' t
               refine ⟨⟨j + 1, y - lotsSum (((((l)[i]'hin).reply.returns)[j]'hjn).lots) (k), true, a102, n103, c104⟩, (by first | rfl | exact xInc (by first | omega | (rw [maxLen_eq]; omega)) | simp), rfl, rfl, rfl, rfl, ⟨H.fin t 4 _, ?_⟩, ?_⟩
               ·refine ⟨hjn, ?_⟩
                rw [hS2]; omega
               ·show (l[i]'hin).reply.returns.length - (j + 1) < (l[i]'hin).reply.returns.length - j; omega
              ·intro w' t
               refine H.cD t (ExtS.refl (([] : List Nat)) [1] _ _) (lotsB_ct (((((l)[i]'hin).reply.returns)[j]'hjn).lots) (k) hr9.2.2.1 hl9) ?_
               intro a106 n107 c108 h109 h109l h109c w' H E
               simp only [List.length_map] at h109
               refine ⟨E, ?_⟩
               refine andE E fun E => ?_
               intro w' t
               refine H.cD t E (ct_big (b := big (y - lotsSum (((((l)[i]'hin).reply.returns)[j]'hjn).lots) (k))) (subB_ct ((big (y))) ((big (lotsSum (((((l)[i]'hin).reply.returns)[j]'hjn).lots) (k)))) (nb_big _) (nb_big _) (big_len' (by omega)) (big_len' (by omega))) (by rw [bv_big, bv_big])) ?_
               intro a110 n111 c112 h113 h113l h113c w' H E
               simp only [List.length_map] at h113
               refine ⟨E, ?_⟩
               refine andE (E.store (by repeat (first | exact trivial | exact rfl | refine ⟨?_, ?_⟩))) fun E => ?_
               intro w' t
               refine ⟨⟨j + 1, y - lotsSum (((((l)[i]'hin).reply.returns)[j]'hjn).lots) (k), true, a110, n111, c112⟩, (by first | rfl | exact xInc (by first | omega | (rw [maxLen_eq]; omega)) | simp), rfl, rfl, rfl, rfl, ⟨H.fin t 4 _, ?_⟩, ?_⟩
               ·refine ⟨hjn, ?_⟩
                rw [hS2]; omega
               ·show (l[i]'hin).reply.returns.length - (j + 1) < (l[i]'hin).reply.returns.length - j; omega
            ·have q66' := of_decide_eq_false q66
             rw [List.take_of_length_le (by omega)] at hy
             have hct := cmd_two (l[i]'hin) k
             have hS : auditSum (l.take (i + 1)) k = y := by rw [hsucc, hy, hv, hu]; unfold doneI; rw [hct]; omega
             intro w' t
             refine ⟨⟨i + 1, y, false, ya, yn, yc⟩, (by first | rfl | exact xInc (by first | omega | (rw [maxLen_eq]; omega)) | simp), rfl, rfl, ⟨H.fin t 2 _, ?_⟩, ?_⟩
             ·exact ⟨hin, hS.symm⟩
             ·show l.length - (i + 1) < l.length - i; omega
           ·apply And.intro <;> intro q114
            ·have q114' := of_decide_eq_true q114
             have hjn : j < (l[i]'hin).reply.returns.length := by omega
             have hr9 : ((l[i]'hin).reply.returns[j]'hjn).ok := hx.1.2.2.2.2.1 _ (List.getElem_mem hjn)
             have hl9 : ((l[i]'hin).reply.returns[j]'hjn).lots.length ≤ 1000000 := hx.2.2 _ (List.getElem_mem hjn)
             have hcash := (show ok64 ((l[i]'hin).reply.returns[j]'hjn).cash from hr9.2.1).is
             have hlb := lots_bound ((l[i]'hin).reply.returns[j]'hjn).lots k hr9.2.2.1 hl9
             have hS2 : (((l[i]'hin).reply.returns.take (j + 1)).map fun r => backI r k).sum = (((l[i]'hin).reply.returns.take j).map fun r => backI r k).sum + backI ((l[i]'hin).reply.returns[j]'hjn) k := by rw [take_map_succ (fun r => backI r k) _ j hjn]; simp
             apply And.intro <;> intro q115
             ·have q115' := q115; simp at q115'
              have hbk : backI ((l[i]'hin).reply.returns[j]'hjn) k = ((l[i]'hin).reply.returns[j]'hjn).cash := by unfold backI; exact if_pos (by simpa using q115)
              refine ⟨by decide +kernel, ([] : List Nat), [1], ?_⟩
              refine ⟨rfl, ?_⟩
              refine H.at (a := a22) (n := n23) (c := c24) (els := (((l)[i]'hin).reply.returns).map AReturn.r) (i := ((j : Int)).toNat) (cs := (AReturn.r ((((l)[i]'hin).reply.returns)[j]'hjn))) (by simp [hjn]) (Nat.succ_pos _) ?_
              intro ad116 hn117e hn117 a118 n119 c120 h121 h121l h121c H hat122l hat122
              simp only [List.length_map] at h121
              refine ⟨ad116, hn117e, (by first | exact Int.natCast_nonneg _ | omega), (by first | omega | (simp; omega)), ?_⟩
              refine ⟨fun hm => (by first | exact absurd hm (by simp; done) | exact Us.own (Us.ad (Us.ad hn117)) (by simpa [ownBl, Own.row, oblk, Own.obj] using hm)), .int .i64 (((((l)[i]'hin).reply.returns)[j]'hjn).cash), hat122.2.2.1, Us.box (Us.ad (Us.ad hn117)), ?_⟩
              refine ⟨?_, ?_⟩
              ·refine andE (ExtS.refl (([] : List Nat)) [1] _ _) fun E => ?_
               intro w' t
               refine H.cD t E (ofB_ct (((((l)[i]'hin).reply.returns)[j]'hjn).cash) (by first | exact hq | exact hr9.2.1)) ?_
               intro a123 n124 c125 h126 h126l h126c w' H E
               simp only [List.length_map] at h126
               refine ⟨E, ?_⟩
               intro w' t
               refine H.cD t E (ct_big (b := big (y - ((((l)[i]'hin).reply.returns)[j]'hjn).cash)) (subB_ct ((big (y))) ((big (((((l)[i]'hin).reply.returns)[j]'hjn).cash))) (nb_big _) (nb_big _) (big_len' (by omega)) (big_len' (by omega))) (by rw [bv_big, bv_big])) ?_
               intro a127 n128 c129 h130 h130l h130c w' H E
               simp only [List.length_map] at h130
               refine ⟨E, ?_⟩
               refine andE (E.store (by repeat (first | exact trivial | exact rfl | refine ⟨?_, ?_⟩))) fun E => ?_
               intro w' t
               refine ⟨⟨j + 1, y - ((((l)[i]'hin).reply.returns)[j]'hjn).cash, true, a127, n128, c129⟩, (by first | rfl | exact xInc (by first | omega | (rw [maxLen_eq]; omega)) | simp), rfl, rfl, rfl, rfl, ⟨H.fin t 4 _, ?_⟩, ?_⟩
               ·refine ⟨hjn, ?_⟩
                rw [hS2]; omega
               ·show (l[i]'hin).reply.returns.length - (j + 1) < (l[i]'hin).reply.returns.length - j; omega
              ·intro w' t
               refine H.cD t (ExtS.refl (([] : List Nat)) [1] _ _) (ofB_ct (((((l)[i]'hin).reply.returns)[j]'hjn).cash) (by first | exact hq | exact hr9.2.1)) ?_
               intro a131 n132 c133 h134 h134l h134c w' H E
               simp only [List.length_map] at h134
               refine ⟨E, ?_⟩
               refine andE E fun E => ?_
               intro w' t
               refine H.cD t E (ct_big (b := big (y - ((((l)[i]'hin).reply.returns)[j]'hjn).cash)) (subB_ct ((big (y))) ((big (((((l)[i]'hin).reply.returns)[j]'hjn).cash))) (nb_big _) (nb_big _) (big_len' (by omega)) (big_len' (by omega))) (by rw [bv_big, bv_big])) ?_
               intro a135 n136 c137 h138 h138l h138c w' H E
               simp only [List.length_map] at h138
               refine ⟨E, ?_⟩
               refine andE (E.store (by repeat (first | exact trivial | exact rfl | refine ⟨?_, ?_⟩))) fun E => ?_
               intro w' t
               refine ⟨⟨j + 1, y - ((((l)[i]'hin).reply.returns)[j]'hjn).cash, true, a135, n136, c137⟩, (by first | rfl | exact xInc (by first | omega | (rw [maxLen_eq]; omega)) | simp), rfl, rfl, rfl, rfl, ⟨H.fin t 4 _, ?_⟩, ?_⟩
               ·refine ⟨hjn, ?_⟩
                rw [hS2]; omega
               ·show (l[i]'hin).reply.returns.length - (j + 1) < (l[i]'hin).reply.returns.length - j; omega
             ·have q115' := q115; simp at q115'
              have hbk : backI ((l[i]'hin).reply.returns[j]'hjn) k = lotsSum ((l[i]'hin).reply.returns[j]'hjn).lots k := by unfold backI; exact if_neg (by simpa using q115)
              refine ⟨by decide +kernel, ([] : List Nat), [1], ?_⟩
              refine ⟨rfl, ?_⟩
              refine H.at (a := a22) (n := n23) (c := c24) (els := (((l)[i]'hin).reply.returns).map AReturn.r) (i := ((j : Int)).toNat) (cs := (AReturn.r ((((l)[i]'hin).reply.returns)[j]'hjn))) (by simp [hjn]) (Nat.succ_pos _) ?_
              intro ad139 hn140e hn140 a141 n142 c143 h144 h144l h144c H hat145l hat145
              simp only [List.length_map] at h144
              refine ⟨ad139, hn140e, (by first | exact Int.natCast_nonneg _ | omega), (by first | omega | (simp; omega)), ?_⟩
              refine ⟨fun hm => (by first | exact absurd hm (by simp; done) | exact Us.own (Us.ad (Us.ad hn140)) (by simpa [ownBl, Own.row, oblk, Own.obj] using hm)), .slice a141 n142 c143, hat145.2.2.2.1, Us.box (Us.ad (Us.ad hn140)), ?_⟩
              refine ⟨?_, ?_⟩
              ·refine andE (ExtS.refl (([] : List Nat)) [1] _ _) fun E => ?_
               intro w' t
               refine H.cD t E (lotsB_ct (((((l)[i]'hin).reply.returns)[j]'hjn).lots) (k) hr9.2.2.1 hl9) ?_
               intro a146 n147 c148 h149 h149l h149c w' H E
               simp only [List.length_map] at h149
               refine ⟨E, ?_⟩
               intro w' t
               refine H.cD t E (ct_big (b := big (y - lotsSum (((((l)[i]'hin).reply.returns)[j]'hjn).lots) (k))) (subB_ct ((big (y))) ((big (lotsSum (((((l)[i]'hin).reply.returns)[j]'hjn).lots) (k)))) (nb_big _) (nb_big _) (big_len' (by omega)) (big_len' (by omega))) (by rw [bv_big, bv_big])) ?_
               intro a150 n151 c152 h153 h153l h153c w' H E
               simp only [List.length_map] at h153
               refine ⟨E, ?_⟩
               refine andE (E.store (by repeat (first | exact trivial | exact rfl | refine ⟨?_, ?_⟩))) fun E => ?_
               intro w' t
               refine ⟨⟨j + 1, y - lotsSum (((((l)[i]'hin).reply.returns)[j]'hjn).lots) (k), true, a150, n151, c152⟩, (by first | rfl | exact xInc (by first | omega | (rw [maxLen_eq]; omega)) | simp), rfl, rfl, rfl, rfl, ⟨H.fin t 4 _, ?_⟩, ?_⟩
               ·refine ⟨hjn, ?_⟩
                rw [hS2]; omega
               ·show (l[i]'hin).reply.returns.length - (j + 1) < (l[i]'hin).reply.returns.length - j; omega
              ·intro w' t
               refine H.cD t (ExtS.refl (([] : List Nat)) [1] _ _) (lotsB_ct (((((l)[i]'hin).reply.returns)[j]'hjn).lots) (k) hr9.2.2.1 hl9) ?_
               intro a154 n155 c156 h157 h157l h157c w' H E
               simp only [List.length_map] at h157
               refine ⟨E, ?_⟩
               refine andE E fun E => ?_
               intro w' t
               refine H.cD t E (ct_big (b := big (y - lotsSum (((((l)[i]'hin).reply.returns)[j]'hjn).lots) (k))) (subB_ct ((big (y))) ((big (lotsSum (((((l)[i]'hin).reply.returns)[j]'hjn).lots) (k)))) (nb_big _) (nb_big _) (big_len' (by omega)) (big_len' (by omega))) (by rw [bv_big, bv_big])) ?_
               intro a158 n159 c160 h161 h161l h161c w' H E
               simp only [List.length_map] at h161
               refine ⟨E, ?_⟩
               refine andE (E.store (by repeat (first | exact trivial | exact rfl | refine ⟨?_, ?_⟩))) fun E => ?_
               intro w' t
               refine ⟨⟨j + 1, y - lotsSum (((((l)[i]'hin).reply.returns)[j]'hjn).lots) (k), true, a158, n159, c160⟩, (by first | rfl | exact xInc (by first | omega | (rw [maxLen_eq]; omega)) | simp), rfl, rfl, rfl, rfl, ⟨H.fin t 4 _, ?_⟩, ?_⟩
               ·refine ⟨hjn, ?_⟩
                rw [hS2]; omega
               ·show (l[i]'hin).reply.returns.length - (j + 1) < (l[i]'hin).reply.returns.length - j; omega
            ·have q114' := of_decide_eq_false q114
             rw [List.take_of_length_le (by omega)] at hy
             have hct := cmd_two (l[i]'hin) k
             have hS : auditSum (l.take (i + 1)) k = y := by rw [hsucc, hy, hv, hu]; unfold doneI; rw [hct]; omega
             intro w' t
             refine ⟨⟨i + 1, y, true, ya, yn, yc⟩, (by first | rfl | exact xInc (by first | omega | (rw [maxLen_eq]; omega)) | simp), rfl, rfl, ⟨H.fin t 2 _, ?_⟩, ?_⟩
             ·exact ⟨hin, hS.symm⟩
             ·show l.length - (i + 1) < l.length - i; omega
         ·refine ⟨[9, 58, 59, 60, 61, 62, 63, 64, 65, 66, 67, 68, 69, 70, 71, 72, 73, 74, 75, 76, 77, 78, 79, 80, 81, 82, 83, 84, 85],
            { X := (Nat) × (Int) × (Bool) × (Option Addr) × (Nat) × (Nat), slots := [9], vals := fun (j, y, k3, ya, yn, yc) => [.int .i64 ((j : Int))], boxes := [1], cells := fun (j, y, k3, ya, yn, yc) => [[(bif k3 then XV.bool ((big (y)).neg) else XV.lit ((big (y)).neg)), .slc ya yn yc]],
              inv := fun (j, y, k3, ya, yn, yc) w' => Ctx w U [] [b5, b6, b27, b28] [] [(.slice a1 n2 c3, .sl 18 ((l).map ADone.r)), (.slice a10 n11 c12, .sl 1 ((((l)[i]'hin).command.numbers).map (fun x => [R.val (.int .i64 x)]))), (.slice a14 n15 c16, .sl 1 ((((l)[i]'hin).reply.numbers).map (fun x => [R.val (.int .i64 x)]))), (.slice a18 n19 c20, .sl 5 ((((l)[i]'hin).reply.debits).map ADebit.r)), (.slice a22 n23 c24, .sl 4 ((((l)[i]'hin).reply.returns).map AReturn.r)), (.slice ya yn yc, .sl 1 (((big (y)).b).map (fun x => [R.val (.int .u8 x)])))] w' ∧ (j ≤ (l[i]'hin).reply.returns.length ∧ y = v - (((l[i]'hin).reply.returns.take j).map fun r => backI r k).sum), μ := fun (j, y, k3, ya, yn, yc) => (l[i]'hin).reply.returns.length - j }, by kernel_rfl, ?_, ?_, ?_⟩
          ·rintro ⟨j, y, k3, ya, yn, yc⟩; cases k3 <;> exact ⟨⟨trivial, trivial⟩, ⟨trivial, trivial, trivial⟩, trivial⟩
          ·intro w' t
           refine ⟨⟨0, v, true, va, vn, vc⟩, rfl, rfl, rfl, rfl, rfl, H.fin t 4 _, ?_⟩
           exact ⟨Nat.zero_le _, by simp⟩
          ·rintro ⟨j, y, k3, ya, yn, yc⟩ w' ⟨H, hI⟩
           obtain ⟨hj, hy⟩ := hI
           have hsb := sum_bound (fun r => backI r k) (9223372036854775808 * 1000000) ((l[i]'hin).reply.returns.take j) (fun r hr => hbr r (List.mem_of_mem_take hr))
           have htl : ((l[i]'hin).reply.returns.take j).length ≤ 900 := by rw [List.length_take]; omega
           cases k3
           ·apply And.intro <;> intro q162
            ·have q162' := of_decide_eq_true q162
             have hjn : j < (l[i]'hin).reply.returns.length := by omega
             have hr9 : ((l[i]'hin).reply.returns[j]'hjn).ok := hx.1.2.2.2.2.1 _ (List.getElem_mem hjn)
             have hl9 : ((l[i]'hin).reply.returns[j]'hjn).lots.length ≤ 1000000 := hx.2.2 _ (List.getElem_mem hjn)
             have hcash := (show ok64 ((l[i]'hin).reply.returns[j]'hjn).cash from hr9.2.1).is
             have hlb := lots_bound ((l[i]'hin).reply.returns[j]'hjn).lots k hr9.2.2.1 hl9
             have hS2 : (((l[i]'hin).reply.returns.take (j + 1)).map fun r => backI r k).sum = (((l[i]'hin).reply.returns.take j).map fun r => backI r k).sum + backI ((l[i]'hin).reply.returns[j]'hjn) k := by rw [take_map_succ (fun r => backI r k) _ j hjn]; simp
             apply And.intro <;> intro q163
             ·have q163' := q163; simp at q163'
              have hbk : backI ((l[i]'hin).reply.returns[j]'hjn) k = ((l[i]'hin).reply.returns[j]'hjn).cash := by unfold backI; exact if_pos (by simpa using q163)
              refine ⟨by decide +kernel, ([] : List Nat), [1], ?_⟩
              refine ⟨rfl, ?_⟩
              refine H.at (a := a22) (n := n23) (c := c24) (els := (((l)[i]'hin).reply.returns).map AReturn.r) (i := ((j : Int)).toNat) (cs := (AReturn.r ((((l)[i]'hin).reply.returns)[j]'hjn))) (by simp [hjn]) (Nat.succ_pos _) ?_
              intro ad164 hn165e hn165 a166 n167 c168 h169 h169l h169c H hat170l hat170
              simp only [List.length_map] at h169
              refine ⟨ad164, hn165e, (by first | exact Int.natCast_nonneg _ | omega), (by first | omega | (simp; omega)), ?_⟩
              refine ⟨fun hm => (by first | exact absurd hm (by simp; done) | exact Us.own (Us.ad (Us.ad hn165)) (by simpa [ownBl, Own.row, oblk, Own.obj] using hm)), .int .i64 (((((l)[i]'hin).reply.returns)[j]'hjn).cash), hat170.2.2.1, Us.box (Us.ad (Us.ad hn165)), ?_⟩
              refine ⟨?_, ?_⟩
              ·refine andE (ExtS.refl (([] : List Nat)) [1] _ _) fun E => ?_
               intro w' t
               refine H.cD t E (ofB_ct (((((l)[i]'hin).reply.returns)[j]'hjn).cash) (by first | exact hq | exact hr9.2.1)) ?_
               intro a171 n172 c173 h174 h174l h174c w' H E
               simp only [List.length_map] at h174
               refine ⟨E, ?_⟩
               intro w' t
               refine H.cD t E (ct_big (b := big (y - ((((l)[i]'hin).reply.returns)[j]'hjn).cash)) (subB_ct ((big (y))) ((big (((((l)[i]'hin).reply.returns)[j]'hjn).cash))) (nb_big _) (nb_big _) (big_len' (by omega)) (big_len' (by omega))) (by rw [bv_big, bv_big])) ?_
               intro a175 n176 c177 h178 h178l h178c w' H E
               simp only [List.length_map] at h178
               refine ⟨E, ?_⟩
               refine andE (E.store (by repeat (first | exact trivial | exact rfl | refine ⟨?_, ?_⟩))) fun E => ?_
               intro w' t
               refine ⟨⟨j + 1, y - ((((l)[i]'hin).reply.returns)[j]'hjn).cash, true, a175, n176, c177⟩, (by first | rfl | exact xInc (by first | omega | (rw [maxLen_eq]; omega)) | simp), rfl, rfl, rfl, rfl, ⟨H.fin t 4 _, ?_⟩, ?_⟩
               ·refine ⟨hjn, ?_⟩
                rw [hS2]; omega
               ·show (l[i]'hin).reply.returns.length - (j + 1) < (l[i]'hin).reply.returns.length - j; omega
              ·intro w' t
               refine H.cD t (ExtS.refl (([] : List Nat)) [1] _ _) (ofB_ct (((((l)[i]'hin).reply.returns)[j]'hjn).cash) (by first | exact hq | exact hr9.2.1)) ?_
               intro a179 n180 c181 h182 h182l h182c w' H E
               simp only [List.length_map] at h182
               refine ⟨E, ?_⟩
               refine andE E fun E => ?_
               intro w' t
               refine H.cD t E (ct_big (b := big (y - ((((l)[i]'hin).reply.returns)[j]'hjn).cash)) (subB_ct ((big (y))) ((big (((((l)[i]'hin).reply.returns)[j]'hjn).cash))) (nb_big _) (nb_big _) (big_len' (by omega)) (big_len' (by omega))) (by rw [bv_big, bv_big])) ?_
               intro a183 n184 c185 h186 h186l h186c w' H E
               simp only [List.length_map] at h186
               refine ⟨E, ?_⟩
               refine andE (E.store (by repeat (first | exact trivial | exact rfl | refine ⟨?_, ?_⟩))) fun E => ?_
               intro w' t
               refine ⟨⟨j + 1, y - ((((l)[i]'hin).reply.returns)[j]'hjn).cash, true, a183, n184, c185⟩, (by first | rfl | exact xInc (by first | omega | (rw [maxLen_eq]; omega)) | simp), rfl, rfl, rfl, rfl, ⟨H.fin t 4 _, ?_⟩, ?_⟩
               ·refine ⟨hjn, ?_⟩
                rw [hS2]; omega
               ·show (l[i]'hin).reply.returns.length - (j + 1) < (l[i]'hin).reply.returns.length - j; omega
             ·have q163' := q163; simp at q163'
              have hbk : backI ((l[i]'hin).reply.returns[j]'hjn) k = lotsSum ((l[i]'hin).reply.returns[j]'hjn).lots k := by unfold backI; exact if_neg (by simpa using q163)
              refine ⟨by decide +kernel, ([] : List Nat), [1], ?_⟩
              refine ⟨rfl, ?_⟩
              refine H.at (a := a22) (n := n23) (c := c24) (els := (((l)[i]'hin).reply.returns).map AReturn.r) (i := ((j : Int)).toNat) (cs := (AReturn.r ((((l)[i]'hin).reply.returns)[j]'hjn))) (by simp [hjn]) (Nat.succ_pos _) ?_
              intro ad187 hn188e hn188 a189 n190 c191 h192 h192l h192c H hat193l hat193
              simp only [List.length_map] at h192
              refine ⟨ad187, hn188e, (by first | exact Int.natCast_nonneg _ | omega), (by first | omega | (simp; omega)), ?_⟩
              refine ⟨fun hm => (by first | exact absurd hm (by simp; done) | exact Us.own (Us.ad (Us.ad hn188)) (by simpa [ownBl, Own.row, oblk, Own.obj] using hm)), .slice a189 n190 c191, hat193.2.2.2.1, Us.box (Us.ad (Us.ad hn188)), ?_⟩
              refine ⟨?_, ?_⟩
              ·refine andE (ExtS.refl (([] : List Nat)) [1] _ _) fun E => ?_
               intro w' t
               refine H.cD t E (lotsB_ct (((((l)[i]'hin).reply.returns)[j]'hjn).lots) (k) hr9.2.2.1 hl9) ?_
               intro a194 n195 c196 h197 h197l h197c w' H E
               simp only [List.length_map] at h197
               refine ⟨E, ?_⟩
               intro w' t
               refine H.cD t E (ct_big (b := big (y - lotsSum (((((l)[i]'hin).reply.returns)[j]'hjn).lots) (k))) (subB_ct ((big (y))) ((big (lotsSum (((((l)[i]'hin).reply.returns)[j]'hjn).lots) (k)))) (nb_big _) (nb_big _) (big_len' (by omega)) (big_len' (by omega))) (by rw [bv_big, bv_big])) ?_
               intro a198 n199 c200 h201 h201l h201c w' H E
               simp only [List.length_map] at h201
               refine ⟨E, ?_⟩
               refine andE (E.store (by repeat (first | exact trivial | exact rfl | refine ⟨?_, ?_⟩))) fun E => ?_
               intro w' t
               refine ⟨⟨j + 1, y - lotsSum (((((l)[i]'hin).reply.returns)[j]'hjn).lots) (k), true, a198, n199, c200⟩, (by first | rfl | exact xInc (by first | omega | (rw [maxLen_eq]; omega)) | simp), rfl, rfl, rfl, rfl, ⟨H.fin t 4 _, ?_⟩, ?_⟩
               ·refine ⟨hjn, ?_⟩
                rw [hS2]; omega
               ·show (l[i]'hin).reply.returns.length - (j + 1) < (l[i]'hin).reply.returns.length - j; omega
              ·intro w' t
               refine H.cD t (ExtS.refl (([] : List Nat)) [1] _ _) (lotsB_ct (((((l)[i]'hin).reply.returns)[j]'hjn).lots) (k) hr9.2.2.1 hl9) ?_
               intro a202 n203 c204 h205 h205l h205c w' H E
               simp only [List.length_map] at h205
               refine ⟨E, ?_⟩
               refine andE E fun E => ?_
               intro w' t
               refine H.cD t E (ct_big (b := big (y - lotsSum (((((l)[i]'hin).reply.returns)[j]'hjn).lots) (k))) (subB_ct ((big (y))) ((big (lotsSum (((((l)[i]'hin).reply.returns)[j]'hjn).lots) (k)))) (nb_big _) (nb_big _) (big_len' (by omega)) (big_len' (by omega))) (by rw [bv_big, bv_big])) ?_
               intro a206 n207 c208 h209 h209l h209c w' H E
               simp only [List.length_map] at h209
               refine ⟨E, ?_⟩
               refine andE (E.store (by repeat (first | exact trivial | exact rfl | refine ⟨?_, ?_⟩))) fun E => ?_
               intro w' t
               refine ⟨⟨j + 1, y - lotsSum (((((l)[i]'hin).reply.returns)[j]'hjn).lots) (k), true, a206, n207, c208⟩, (by first | rfl | exact xInc (by first | omega | (rw [maxLen_eq]; omega)) | simp), rfl, rfl, rfl, rfl, ⟨H.fin t 4 _, ?_⟩, ?_⟩
               ·refine ⟨hjn, ?_⟩
                rw [hS2]; omega
               ·show (l[i]'hin).reply.returns.length - (j + 1) < (l[i]'hin).reply.returns.length - j; omega
            ·have q162' := of_decide_eq_false q162
             rw [List.take_of_length_le (by omega)] at hy
             have hct := cmd_two (l[i]'hin) k
             have hS : auditSum (l.take (i + 1)) k = y := by rw [hsucc, hy, hv, hu]; unfold doneI; rw [hct]; omega
             intro w' t
             refine ⟨⟨i + 1, y, false, ya, yn, yc⟩, (by first | rfl | exact xInc (by first | omega | (rw [maxLen_eq]; omega)) | simp), rfl, rfl, ⟨H.fin t 2 _, ?_⟩, ?_⟩
             ·exact ⟨hin, hS.symm⟩
             ·show l.length - (i + 1) < l.length - i; omega
           ·apply And.intro <;> intro q210
            ·have q210' := of_decide_eq_true q210
             have hjn : j < (l[i]'hin).reply.returns.length := by omega
             have hr9 : ((l[i]'hin).reply.returns[j]'hjn).ok := hx.1.2.2.2.2.1 _ (List.getElem_mem hjn)
             have hl9 : ((l[i]'hin).reply.returns[j]'hjn).lots.length ≤ 1000000 := hx.2.2 _ (List.getElem_mem hjn)
             have hcash := (show ok64 ((l[i]'hin).reply.returns[j]'hjn).cash from hr9.2.1).is
             have hlb := lots_bound ((l[i]'hin).reply.returns[j]'hjn).lots k hr9.2.2.1 hl9
             have hS2 : (((l[i]'hin).reply.returns.take (j + 1)).map fun r => backI r k).sum = (((l[i]'hin).reply.returns.take j).map fun r => backI r k).sum + backI ((l[i]'hin).reply.returns[j]'hjn) k := by rw [take_map_succ (fun r => backI r k) _ j hjn]; simp
             apply And.intro <;> intro q211
             ·have q211' := q211; simp at q211'
              have hbk : backI ((l[i]'hin).reply.returns[j]'hjn) k = ((l[i]'hin).reply.returns[j]'hjn).cash := by unfold backI; exact if_pos (by simpa using q211)
              refine ⟨by decide +kernel, ([] : List Nat), [1], ?_⟩
              refine ⟨rfl, ?_⟩
              refine H.at (a := a22) (n := n23) (c := c24) (els := (((l)[i]'hin).reply.returns).map AReturn.r) (i := ((j : Int)).toNat) (cs := (AReturn.r ((((l)[i]'hin).reply.returns)[j]'hjn))) (by simp [hjn]) (Nat.succ_pos _) ?_
              intro ad212 hn213e hn213 a214 n215 c216 h217 h217l h217c H hat218l hat218
              simp only [List.length_map] at h217
              refine ⟨ad212, hn213e, (by first | exact Int.natCast_nonneg _ | omega), (by first | omega | (simp; omega)), ?_⟩
              refine ⟨fun hm => (by first | exact absurd hm (by simp; done) | exact Us.own (Us.ad (Us.ad hn213)) (by simpa [ownBl, Own.row, oblk, Own.obj] using hm)), .int .i64 (((((l)[i]'hin).reply.returns)[j]'hjn).cash), hat218.2.2.1, Us.box (Us.ad (Us.ad hn213)), ?_⟩
              refine ⟨?_, ?_⟩
              ·refine andE (ExtS.refl (([] : List Nat)) [1] _ _) fun E => ?_
               intro w' t
               refine H.cD t E (ofB_ct (((((l)[i]'hin).reply.returns)[j]'hjn).cash) (by first | exact hq | exact hr9.2.1)) ?_
               intro a219 n220 c221 h222 h222l h222c w' H E
               simp only [List.length_map] at h222
               refine ⟨E, ?_⟩
               intro w' t
               refine H.cD t E (ct_big (b := big (y - ((((l)[i]'hin).reply.returns)[j]'hjn).cash)) (subB_ct ((big (y))) ((big (((((l)[i]'hin).reply.returns)[j]'hjn).cash))) (nb_big _) (nb_big _) (big_len' (by omega)) (big_len' (by omega))) (by rw [bv_big, bv_big])) ?_
               intro a223 n224 c225 h226 h226l h226c w' H E
               simp only [List.length_map] at h226
               refine ⟨E, ?_⟩
               refine andE (E.store (by repeat (first | exact trivial | exact rfl | refine ⟨?_, ?_⟩))) fun E => ?_
               intro w' t
               refine ⟨⟨j + 1, y - ((((l)[i]'hin).reply.returns)[j]'hjn).cash, true, a223, n224, c225⟩, (by first | rfl | exact xInc (by first | omega | (rw [maxLen_eq]; omega)) | simp), rfl, rfl, rfl, rfl, ⟨H.fin t 4 _, ?_⟩, ?_⟩
               ·refine ⟨hjn, ?_⟩
                rw [hS2]; omega
               ·show (l[i]'hin).reply.returns.length - (j + 1) < (l[i]'hin).reply.returns.length - j; omega
              ·intro w' t
               refine H.cD t (ExtS.refl (([] : List Nat)) [1] _ _) (ofB_ct (((((l)[i]'hin).reply.returns)[j]'hjn).cash) (by first | exact hq | exact hr9.2.1)) ?_
               intro a227 n228 c229 h230 h230l h230c w' H E
               simp only [List.length_map] at h230
               refine ⟨E, ?_⟩
               refine andE E fun E => ?_
               intro w' t
               refine H.cD t E (ct_big (b := big (y - ((((l)[i]'hin).reply.returns)[j]'hjn).cash)) (subB_ct ((big (y))) ((big (((((l)[i]'hin).reply.returns)[j]'hjn).cash))) (nb_big _) (nb_big _) (big_len' (by omega)) (big_len' (by omega))) (by rw [bv_big, bv_big])) ?_
               intro a231 n232 c233 h234 h234l h234c w' H E
               simp only [List.length_map] at h234
               refine ⟨E, ?_⟩
               refine andE (E.store (by repeat (first | exact trivial | exact rfl | refine ⟨?_, ?_⟩))) fun E => ?_
               intro w' t
               refine ⟨⟨j + 1, y - ((((l)[i]'hin).reply.returns)[j]'hjn).cash, true, a231, n232, c233⟩, (by first | rfl | exact xInc (by first | omega | (rw [maxLen_eq]; omega)) | simp), rfl, rfl, rfl, rfl, ⟨H.fin t 4 _, ?_⟩, ?_⟩
               ·refine ⟨hjn, ?_⟩
                rw [hS2]; omega
               ·show (l[i]'hin).reply.returns.length - (j + 1) < (l[i]'hin).reply.returns.length - j; omega
             ·have q211' := q211; simp at q211'
              have hbk : backI ((l[i]'hin).reply.returns[j]'hjn) k = lotsSum ((l[i]'hin).reply.returns[j]'hjn).lots k := by unfold backI; exact if_neg (by simpa using q211)
              refine ⟨by decide +kernel, ([] : List Nat), [1], ?_⟩
              refine ⟨rfl, ?_⟩
              refine H.at (a := a22) (n := n23) (c := c24) (els := (((l)[i]'hin).reply.returns).map AReturn.r) (i := ((j : Int)).toNat) (cs := (AReturn.r ((((l)[i]'hin).reply.returns)[j]'hjn))) (by simp [hjn]) (Nat.succ_pos _) ?_
              intro ad235 hn236e hn236 a237 n238 c239 h240 h240l h240c H hat241l hat241
              simp only [List.length_map] at h240
              refine ⟨ad235, hn236e, (by first | exact Int.natCast_nonneg _ | omega), (by first | omega | (simp; omega)), ?_⟩
              refine ⟨fun hm => (by first | exact absurd hm (by simp; done) | exact Us.own (Us.ad (Us.ad hn236)) (by simpa [ownBl, Own.row, oblk, Own.obj] using hm)), .slice a237 n238 c239, hat241.2.2.2.1, Us.box (Us.ad (Us.ad hn236)), ?_⟩
              refine ⟨?_, ?_⟩
              ·refine andE (ExtS.refl (([] : List Nat)) [1] _ _) fun E => ?_
               intro w' t
               refine H.cD t E (lotsB_ct (((((l)[i]'hin).reply.returns)[j]'hjn).lots) (k) hr9.2.2.1 hl9) ?_
               intro a242 n243 c244 h245 h245l h245c w' H E
               simp only [List.length_map] at h245
               refine ⟨E, ?_⟩
               intro w' t
               refine H.cD t E (ct_big (b := big (y - lotsSum (((((l)[i]'hin).reply.returns)[j]'hjn).lots) (k))) (subB_ct ((big (y))) ((big (lotsSum (((((l)[i]'hin).reply.returns)[j]'hjn).lots) (k)))) (nb_big _) (nb_big _) (big_len' (by omega)) (big_len' (by omega))) (by rw [bv_big, bv_big])) ?_
               intro a246 n247 c248 h249 h249l h249c w' H E
               simp only [List.length_map] at h249
               refine ⟨E, ?_⟩
               refine andE (E.store (by repeat (first | exact trivial | exact rfl | refine ⟨?_, ?_⟩))) fun E => ?_
               intro w' t
               refine ⟨⟨j + 1, y - lotsSum (((((l)[i]'hin).reply.returns)[j]'hjn).lots) (k), true, a246, n247, c248⟩, (by first | rfl | exact xInc (by first | omega | (rw [maxLen_eq]; omega)) | simp), rfl, rfl, rfl, rfl, ⟨H.fin t 4 _, ?_⟩, ?_⟩
               ·refine ⟨hjn, ?_⟩
                rw [hS2]; omega
               ·show (l[i]'hin).reply.returns.length - (j + 1) < (l[i]'hin).reply.returns.length - j; omega
              ·intro w' t
               refine H.cD t (ExtS.refl (([] : List Nat)) [1] _ _) (lotsB_ct (((((l)[i]'hin).reply.returns)[j]'hjn).lots) (k) hr9.2.2.1 hl9) ?_
               intro a250 n251 c252 h253 h253l h253c w' H E
               simp only [List.length_map] at h253
               refine ⟨E, ?_⟩
               refine andE E fun E => ?_
               intro w' t
               refine H.cD t E (ct_big (b := big (y - lotsSum (((((l)[i]'hin).reply.returns)[j]'hjn).lots) (k))) (subB_ct ((big (y))) ((big (lotsSum (((((l)[i]'hin).reply.returns)[j]'hjn).lots) (k)))) (nb_big _) (nb_big _) (big_len' (by omega)) (big_len' (by omega))) (by rw [bv_big, bv_big])) ?_
               intro a254 n255 c256 h257 h257l h257c w' H E
               simp only [List.length_map] at h257
               refine ⟨E, ?_⟩
               refine andE (E.store (by repeat (first | exact trivial | exact rfl | refine ⟨?_, ?_⟩))) fun E => ?_
               intro w' t
               refine ⟨⟨j + 1, y - lotsSum (((((l)[i]'hin).reply.returns)[j]'hjn).lots) (k), true, a254, n255, c256⟩, (by first | rfl | exact xInc (by first | omega | (rw [maxLen_eq]; omega)) | simp), rfl, rfl, rfl, rfl, ⟨H.fin t 4 _, ?_⟩, ?_⟩
               ·refine ⟨hjn, ?_⟩
                rw [hS2]; omega
               ·show (l[i]'hin).reply.returns.length - (j + 1) < (l[i]'hin).reply.returns.length - j; omega
            ·have q210' := of_decide_eq_false q210
             rw [List.take_of_length_le (by omega)] at hy
             have hct := cmd_two (l[i]'hin) k
             have hS : auditSum (l.take (i + 1)) k = y := by rw [hsucc, hy, hv, hu]; unfold doneI; rw [hct]; omega
             intro w' t
             refine ⟨⟨i + 1, y, true, ya, yn, yc⟩, (by first | rfl | exact xInc (by first | omega | (rw [maxLen_eq]; omega)) | simp), rfl, rfl, ⟨H.fin t 2 _, ?_⟩, ?_⟩
             ·exact ⟨hin, hS.symm⟩
             ·show l.length - (i + 1) < l.length - i; omega
       ·refine ⟨[44, 45, 46, 47, 48, 49, 50, 51, 52, 53, 54, 55, 56, 57],
          { X := (Int) × (Bool) × (Option Addr) × (Nat) × (Nat), slots := [], vals := fun (v, k2, va, vn, vc) => [], boxes := [1], cells := fun (v, k2, va, vn, vc) => [[(bif k2 then XV.bool ((big (v)).neg) else XV.lit ((big (v)).neg)), .slc va vn vc]],
            inv := fun (v, k2, va, vn, vc) w' => Ctx w U [] [b5, b6, b27, b28] [] [(.slice a1 n2 c3, .sl 18 ((l).map ADone.r)), (.slice a10 n11 c12, .sl 1 ((((l)[i]'hin).command.numbers).map (fun x => [R.val (.int .i64 x)]))), (.slice a14 n15 c16, .sl 1 ((((l)[i]'hin).reply.numbers).map (fun x => [R.val (.int .i64 x)]))), (.slice a18 n19 c20, .sl 5 ((((l)[i]'hin).reply.debits).map ADebit.r)), (.slice a22 n23 c24, .sl 4 ((((l)[i]'hin).reply.returns).map AReturn.r)), (.slice va vn vc, .sl 1 (((big (v)).b).map (fun x => [R.val (.int .u8 x)])))] w' ∧ (v = u - (if (l[i]'hin).command.asset = k ∧ (l[i]'hin).command.op = 18 then (l[i]'hin).command.qty else 0)), μ := fun _ => 0 }, fun (v, k2, va, vn, vc) => [], by kernel_rfl, ?_, ?_, ?_⟩
        ·rintro ⟨v, k2, va, vn, vc⟩; cases k2 <;> exact ⟨trivial, ⟨trivial, trivial, trivial⟩, trivial⟩
        ·apply And.intro <;> intro q258
         ·have q258' := q258; simp at q258'
          have ha : (l[i]'hin).command.asset = k := by simpa using q258
          apply And.intro <;> intro q259
          ·have q259' := q259; simp at q259'
           have h18 : (l[i]'hin).command.op = 18 := by simpa using q259
           refine ⟨by decide +kernel, ([] : List Nat), [1], ?_⟩
           refine ⟨rfl, ?_⟩
           refine ⟨?_, ?_⟩
           ·refine andE (ExtS.refl (([] : List Nat)) [1] _ _) fun E => ?_
            intro w' t
            refine H.cD t E (ofB_ct (((l)[i]'hin).command.qty) (by first | exact hq | exact hr9.2.1)) ?_
            intro a260 n261 c262 h263 h263l h263c w' H E
            simp only [List.length_map] at h263
            refine ⟨E, ?_⟩
            intro w' t
            refine H.cD t E (ct_big (b := big (u - ((l)[i]'hin).command.qty)) (subB_ct ((big (u))) ((big (((l)[i]'hin).command.qty))) (nb_big _) (nb_big _) (big_len' (by omega)) (big_len' (by omega))) (by rw [bv_big, bv_big])) ?_
            intro a264 n265 c266 h267 h267l h267c w' H E
            simp only [List.length_map] at h267
            refine ⟨E, ?_⟩
            refine andE (E.store (by repeat (first | exact trivial | exact rfl | refine ⟨?_, ?_⟩))) fun E => ?_
            intro w' t
            refine ⟨⟨u - ((l)[i]'hin).command.qty, true, a264, n265, c266⟩, rfl, rfl, rfl, rfl, H.fin t 4 _, ?_⟩
            first | (rw [if_pos ⟨ha, h18⟩]; done) | (rw [if_neg (fun hh => h18 hh.2)]; omega) | (rw [if_neg (fun hh => ha hh.1)]; omega)
           ·intro w' t
            refine H.cD t (ExtS.refl (([] : List Nat)) [1] _ _) (ofB_ct (((l)[i]'hin).command.qty) (by first | exact hq | exact hr9.2.1)) ?_
            intro a268 n269 c270 h271 h271l h271c w' H E
            simp only [List.length_map] at h271
            refine ⟨E, ?_⟩
            refine andE E fun E => ?_
            intro w' t
            refine H.cD t E (ct_big (b := big (u - ((l)[i]'hin).command.qty)) (subB_ct ((big (u))) ((big (((l)[i]'hin).command.qty))) (nb_big _) (nb_big _) (big_len' (by omega)) (big_len' (by omega))) (by rw [bv_big, bv_big])) ?_
            intro a272 n273 c274 h275 h275l h275c w' H E
            simp only [List.length_map] at h275
            refine ⟨E, ?_⟩
            refine andE (E.store (by repeat (first | exact trivial | exact rfl | refine ⟨?_, ?_⟩))) fun E => ?_
            intro w' t
            refine ⟨⟨u - ((l)[i]'hin).command.qty, true, a272, n273, c274⟩, rfl, rfl, rfl, rfl, H.fin t 4 _, ?_⟩
            first | (rw [if_pos ⟨ha, h18⟩]; done) | (rw [if_neg (fun hh => h18 hh.2)]; omega) | (rw [if_neg (fun hh => ha hh.1)]; omega)
          ·have q259' := q259; simp at q259'
           have h18 : ¬ (l[i]'hin).command.op = 18 := by simpa using q259
           intro w' t
           refine ⟨⟨u, true, ua, un, uc⟩, rfl, rfl, rfl, rfl, H.fin t 4 _, ?_⟩
           first | (rw [if_pos ⟨ha, h18⟩]; done) | (rw [if_neg (fun hh => h18 hh.2)]; omega) | (rw [if_neg (fun hh => ha hh.1)]; omega)
         ·have q258' := q258; simp at q258'
          have ha : ¬ (l[i]'hin).command.asset = k := by simpa using q258
          intro w' t
          refine ⟨⟨u, true, ua, un, uc⟩, rfl, rfl, rfl, rfl, H.fin t 4 _, ?_⟩
          first | (rw [if_pos ⟨ha, h18⟩]; done) | (rw [if_neg (fun hh => h18 hh.2)]; omega) | (rw [if_neg (fun hh => ha hh.1)]; omega)
        ·rintro ⟨v, k2, va, vn, vc⟩ w' ⟨H, hI⟩
         have hv := hI
         have hbv : u - 9223372036854775808 ≤ v ∧ v ≤ u + 9223372036854775808 := by rw [hv]; split <;> omega
         cases k2
         ·refine ⟨[9, 58, 59, 60, 61, 62, 63, 64, 65, 66, 67, 68, 69, 70, 71, 72, 73, 74, 75, 76, 77, 78, 79, 80, 81, 82, 83, 84, 85],
            { X := (Nat) × (Int) × (Bool) × (Option Addr) × (Nat) × (Nat), slots := [9], vals := fun (j, y, k3, ya, yn, yc) => [.int .i64 ((j : Int))], boxes := [1], cells := fun (j, y, k3, ya, yn, yc) => [[(bif k3 then XV.bool ((big (y)).neg) else XV.lit ((big (y)).neg)), .slc ya yn yc]],
              inv := fun (j, y, k3, ya, yn, yc) w' => Ctx w U [] [b5, b6, b27, b28] [] [(.slice a1 n2 c3, .sl 18 ((l).map ADone.r)), (.slice a10 n11 c12, .sl 1 ((((l)[i]'hin).command.numbers).map (fun x => [R.val (.int .i64 x)]))), (.slice a14 n15 c16, .sl 1 ((((l)[i]'hin).reply.numbers).map (fun x => [R.val (.int .i64 x)]))), (.slice a18 n19 c20, .sl 5 ((((l)[i]'hin).reply.debits).map ADebit.r)), (.slice a22 n23 c24, .sl 4 ((((l)[i]'hin).reply.returns).map AReturn.r)), (.slice ya yn yc, .sl 1 (((big (y)).b).map (fun x => [R.val (.int .u8 x)])))] w' ∧ (j ≤ (l[i]'hin).reply.returns.length ∧ y = v - (((l[i]'hin).reply.returns.take j).map fun r => backI r k).sum), μ := fun (j, y, k3, ya, yn, yc) => (l[i]'hin).reply.returns.length - j }, by kernel_rfl, ?_, ?_, ?_⟩
          ·rintro ⟨j, y, k3, ya, yn, yc⟩; cases k3 <;> exact ⟨⟨trivial, trivial⟩, ⟨trivial, trivial, trivial⟩, trivial⟩
          ·intro w' t
           refine ⟨⟨0, v, false, va, vn, vc⟩, rfl, rfl, rfl, rfl, rfl, H.fin t 4 _, ?_⟩
           exact ⟨Nat.zero_le _, by simp⟩
          ·rintro ⟨j, y, k3, ya, yn, yc⟩ w' ⟨H, hI⟩
           obtain ⟨hj, hy⟩ := hI
           have hsb := sum_bound (fun r => backI r k) (9223372036854775808 * 1000000) ((l[i]'hin).reply.returns.take j) (fun r hr => hbr r (List.mem_of_mem_take hr))
           have htl : ((l[i]'hin).reply.returns.take j).length ≤ 900 := by rw [List.length_take]; omega
           cases k3
           ·apply And.intro <;> intro q276
            ·have q276' := of_decide_eq_true q276
             have hjn : j < (l[i]'hin).reply.returns.length := by omega
             have hr9 : ((l[i]'hin).reply.returns[j]'hjn).ok := hx.1.2.2.2.2.1 _ (List.getElem_mem hjn)
             have hl9 : ((l[i]'hin).reply.returns[j]'hjn).lots.length ≤ 1000000 := hx.2.2 _ (List.getElem_mem hjn)
             have hcash := (show ok64 ((l[i]'hin).reply.returns[j]'hjn).cash from hr9.2.1).is
             have hlb := lots_bound ((l[i]'hin).reply.returns[j]'hjn).lots k hr9.2.2.1 hl9
             have hS2 : (((l[i]'hin).reply.returns.take (j + 1)).map fun r => backI r k).sum = (((l[i]'hin).reply.returns.take j).map fun r => backI r k).sum + backI ((l[i]'hin).reply.returns[j]'hjn) k := by rw [take_map_succ (fun r => backI r k) _ j hjn]; simp
             apply And.intro <;> intro q277
             ·have q277' := q277; simp at q277'
              have hbk : backI ((l[i]'hin).reply.returns[j]'hjn) k = ((l[i]'hin).reply.returns[j]'hjn).cash := by unfold backI; exact if_pos (by simpa using q277)
              refine ⟨by decide +kernel, ([] : List Nat), [1], ?_⟩
              refine ⟨rfl, ?_⟩
              refine H.at (a := a22) (n := n23) (c := c24) (els := (((l)[i]'hin).reply.returns).map AReturn.r) (i := ((j : Int)).toNat) (cs := (AReturn.r ((((l)[i]'hin).reply.returns)[j]'hjn))) (by simp [hjn]) (Nat.succ_pos _) ?_
              intro ad278 hn279e hn279 a280 n281 c282 h283 h283l h283c H hat284l hat284
              simp only [List.length_map] at h283
              refine ⟨ad278, hn279e, (by first | exact Int.natCast_nonneg _ | omega), (by first | omega | (simp; omega)), ?_⟩
              refine ⟨fun hm => (by first | exact absurd hm (by simp; done) | exact Us.own (Us.ad (Us.ad hn279)) (by simpa [ownBl, Own.row, oblk, Own.obj] using hm)), .int .i64 (((((l)[i]'hin).reply.returns)[j]'hjn).cash), hat284.2.2.1, Us.box (Us.ad (Us.ad hn279)), ?_⟩
              refine ⟨?_, ?_⟩
              ·refine andE (ExtS.refl (([] : List Nat)) [1] _ _) fun E => ?_
               intro w' t
               refine H.cD t E (ofB_ct (((((l)[i]'hin).reply.returns)[j]'hjn).cash) (by first | exact hq | exact hr9.2.1)) ?_
               intro a285 n286 c287 h288 h288l h288c w' H E
               simp only [List.length_map] at h288
               refine ⟨E, ?_⟩
               intro w' t
               refine H.cD t E (ct_big (b := big (y - ((((l)[i]'hin).reply.returns)[j]'hjn).cash)) (subB_ct ((big (y))) ((big (((((l)[i]'hin).reply.returns)[j]'hjn).cash))) (nb_big _) (nb_big _) (big_len' (by omega)) (big_len' (by omega))) (by rw [bv_big, bv_big])) ?_
               intro a289 n290 c291 h292 h292l h292c w' H E
               simp only [List.length_map] at h292
               refine ⟨E, ?_⟩
               refine andE (E.store (by repeat (first | exact trivial | exact rfl | refine ⟨?_, ?_⟩))) fun E => ?_
               intro w' t
               refine ⟨⟨j + 1, y - ((((l)[i]'hin).reply.returns)[j]'hjn).cash, true, a289, n290, c291⟩, (by first | rfl | exact xInc (by first | omega | (rw [maxLen_eq]; omega)) | simp), rfl, rfl, rfl, rfl, ⟨H.fin t 4 _, ?_⟩, ?_⟩
               ·refine ⟨hjn, ?_⟩
                rw [hS2]; omega
               ·show (l[i]'hin).reply.returns.length - (j + 1) < (l[i]'hin).reply.returns.length - j; omega
              ·intro w' t
               refine H.cD t (ExtS.refl (([] : List Nat)) [1] _ _) (ofB_ct (((((l)[i]'hin).reply.returns)[j]'hjn).cash) (by first | exact hq | exact hr9.2.1)) ?_
               intro a293 n294 c295 h296 h296l h296c w' H E
               simp only [List.length_map] at h296
               refine ⟨E, ?_⟩
               refine andE E fun E => ?_
               intro w' t
               refine H.cD t E (ct_big (b := big (y - ((((l)[i]'hin).reply.returns)[j]'hjn).cash)) (subB_ct ((big (y))) ((big (((((l)[i]'hin).reply.returns)[j]'hjn).cash))) (nb_big _) (nb_big _) (big_len' (by omega)) (big_len' (by omega))) (by rw [bv_big, bv_big])) ?_
               intro a297 n298 c299 h300 h300l h300c w' H E
               simp only [List.length_map] at h300
               refine ⟨E, ?_⟩
               refine andE (E.store (by repeat (first | exact trivial | exact rfl | refine ⟨?_, ?_⟩))) fun E => ?_
               intro w' t
               refine ⟨⟨j + 1, y - ((((l)[i]'hin).reply.returns)[j]'hjn).cash, true, a297, n298, c299⟩, (by first | rfl | exact xInc (by first | omega | (rw [maxLen_eq]; omega)) | simp), rfl, rfl, rfl, rfl, ⟨H.fin t 4 _, ?_⟩, ?_⟩
               ·refine ⟨hjn, ?_⟩
                rw [hS2]; omega
               ·show (l[i]'hin).reply.returns.length - (j + 1) < (l[i]'hin).reply.returns.length - j; omega
             ·have q277' := q277; simp at q277'
              have hbk : backI ((l[i]'hin).reply.returns[j]'hjn) k = lotsSum ((l[i]'hin).reply.returns[j]'hjn).lots k := by unfold backI; exact if_neg (by simpa using q277)
              refine ⟨by decide +kernel, ([] : List Nat), [1], ?_⟩
              refine ⟨rfl, ?_⟩
              refine H.at (a := a22) (n := n23) (c := c24) (els := (((l)[i]'hin).reply.returns).map AReturn.r) (i := ((j : Int)).toNat) (cs := (AReturn.r ((((l)[i]'hin).reply.returns)[j]'hjn))) (by simp [hjn]) (Nat.succ_pos _) ?_
              intro ad301 hn302e hn302 a303 n304 c305 h306 h306l h306c H hat307l hat307
              simp only [List.length_map] at h306
              refine ⟨ad301, hn302e, (by first | exact Int.natCast_nonneg _ | omega), (by first | omega | (simp; omega)), ?_⟩
              refine ⟨fun hm => (by first | exact absurd hm (by simp; done) | exact Us.own (Us.ad (Us.ad hn302)) (by simpa [ownBl, Own.row, oblk, Own.obj] using hm)), .slice a303 n304 c305, hat307.2.2.2.1, Us.box (Us.ad (Us.ad hn302)), ?_⟩
              refine ⟨?_, ?_⟩
              ·refine andE (ExtS.refl (([] : List Nat)) [1] _ _) fun E => ?_
               intro w' t
               refine H.cD t E (lotsB_ct (((((l)[i]'hin).reply.returns)[j]'hjn).lots) (k) hr9.2.2.1 hl9) ?_
               intro a308 n309 c310 h311 h311l h311c w' H E
               simp only [List.length_map] at h311
               refine ⟨E, ?_⟩
               intro w' t
               refine H.cD t E (ct_big (b := big (y - lotsSum (((((l)[i]'hin).reply.returns)[j]'hjn).lots) (k))) (subB_ct ((big (y))) ((big (lotsSum (((((l)[i]'hin).reply.returns)[j]'hjn).lots) (k)))) (nb_big _) (nb_big _) (big_len' (by omega)) (big_len' (by omega))) (by rw [bv_big, bv_big])) ?_
               intro a312 n313 c314 h315 h315l h315c w' H E
               simp only [List.length_map] at h315
               refine ⟨E, ?_⟩
               refine andE (E.store (by repeat (first | exact trivial | exact rfl | refine ⟨?_, ?_⟩))) fun E => ?_
               intro w' t
               refine ⟨⟨j + 1, y - lotsSum (((((l)[i]'hin).reply.returns)[j]'hjn).lots) (k), true, a312, n313, c314⟩, (by first | rfl | exact xInc (by first | omega | (rw [maxLen_eq]; omega)) | simp), rfl, rfl, rfl, rfl, ⟨H.fin t 4 _, ?_⟩, ?_⟩
               ·refine ⟨hjn, ?_⟩
                rw [hS2]; omega
               ·show (l[i]'hin).reply.returns.length - (j + 1) < (l[i]'hin).reply.returns.length - j; omega
              ·intro w' t
               refine H.cD t (ExtS.refl (([] : List Nat)) [1] _ _) (lotsB_ct (((((l)[i]'hin).reply.returns)[j]'hjn).lots) (k) hr9.2.2.1 hl9) ?_
               intro a316 n317 c318 h319 h319l h319c w' H E
               simp only [List.length_map] at h319
               refine ⟨E, ?_⟩
               refine andE E fun E => ?_
               intro w' t
               refine H.cD t E (ct_big (b := big (y - lotsSum (((((l)[i]'hin).reply.returns)[j]'hjn).lots) (k))) (subB_ct ((big (y))) ((big (lotsSum (((((l)[i]'hin).reply.returns)[j]'hjn).lots) (k)))) (nb_big _) (nb_big _) (big_len' (by omega)) (big_len' (by omega))) (by rw [bv_big, bv_big])) ?_
               intro a320 n321 c322 h323 h323l h323c w' H E
               simp only [List.length_map] at h323
               refine ⟨E, ?_⟩
               refine andE (E.store (by repeat (first | exact trivial | exact rfl | refine ⟨?_, ?_⟩))) fun E => ?_
               intro w' t
               refine ⟨⟨j + 1, y - lotsSum (((((l)[i]'hin).reply.returns)[j]'hjn).lots) (k), true, a320, n321, c322⟩, (by first | rfl | exact xInc (by first | omega | (rw [maxLen_eq]; omega)) | simp), rfl, rfl, rfl, rfl, ⟨H.fin t 4 _, ?_⟩, ?_⟩
               ·refine ⟨hjn, ?_⟩
                rw [hS2]; omega
               ·show (l[i]'hin).reply.returns.length - (j + 1) < (l[i]'hin).reply.returns.length - j; omega
            ·have q276' := of_decide_eq_false q276
             rw [List.take_of_length_le (by omega)] at hy
             have hct := cmd_two (l[i]'hin) k
             have hS : auditSum (l.take (i + 1)) k = y := by rw [hsucc, hy, hv, hu]; unfold doneI; rw [hct]; omega
             intro w' t
             refine ⟨⟨i + 1, y, false, ya, yn, yc⟩, (by first | rfl | exact xInc (by first | omega | (rw [maxLen_eq]; omega)) | simp), rfl, rfl, ⟨H.fin t 2 _, ?_⟩, ?_⟩
             ·exact ⟨hin, hS.symm⟩
             ·show l.length - (i + 1) < l.length - i; omega
           ·apply And.intro <;> intro q324
            ·have q324' := of_decide_eq_true q324
             have hjn : j < (l[i]'hin).reply.returns.length := by omega
             have hr9 : ((l[i]'hin).reply.returns[j]'hjn).ok := hx.1.2.2.2.2.1 _ (List.getElem_mem hjn)
             have hl9 : ((l[i]'hin).reply.returns[j]'hjn).lots.length ≤ 1000000 := hx.2.2 _ (List.getElem_mem hjn)
             have hcash := (show ok64 ((l[i]'hin).reply.returns[j]'hjn).cash from hr9.2.1).is
             have hlb := lots_bound ((l[i]'hin).reply.returns[j]'hjn).lots k hr9.2.2.1 hl9
             have hS2 : (((l[i]'hin).reply.returns.take (j + 1)).map fun r => backI r k).sum = (((l[i]'hin).reply.returns.take j).map fun r => backI r k).sum + backI ((l[i]'hin).reply.returns[j]'hjn) k := by rw [take_map_succ (fun r => backI r k) _ j hjn]; simp
             apply And.intro <;> intro q325
             ·have q325' := q325; simp at q325'
              have hbk : backI ((l[i]'hin).reply.returns[j]'hjn) k = ((l[i]'hin).reply.returns[j]'hjn).cash := by unfold backI; exact if_pos (by simpa using q325)
              refine ⟨by decide +kernel, ([] : List Nat), [1], ?_⟩
              refine ⟨rfl, ?_⟩
              refine H.at (a := a22) (n := n23) (c := c24) (els := (((l)[i]'hin).reply.returns).map AReturn.r) (i := ((j : Int)).toNat) (cs := (AReturn.r ((((l)[i]'hin).reply.returns)[j]'hjn))) (by simp [hjn]) (Nat.succ_pos _) ?_
              intro ad326 hn327e hn327 a328 n329 c330 h331 h331l h331c H hat332l hat332
              simp only [List.length_map] at h331
              refine ⟨ad326, hn327e, (by first | exact Int.natCast_nonneg _ | omega), (by first | omega | (simp; omega)), ?_⟩
              refine ⟨fun hm => (by first | exact absurd hm (by simp; done) | exact Us.own (Us.ad (Us.ad hn327)) (by simpa [ownBl, Own.row, oblk, Own.obj] using hm)), .int .i64 (((((l)[i]'hin).reply.returns)[j]'hjn).cash), hat332.2.2.1, Us.box (Us.ad (Us.ad hn327)), ?_⟩
              refine ⟨?_, ?_⟩
              ·refine andE (ExtS.refl (([] : List Nat)) [1] _ _) fun E => ?_
               intro w' t
               refine H.cD t E (ofB_ct (((((l)[i]'hin).reply.returns)[j]'hjn).cash) (by first | exact hq | exact hr9.2.1)) ?_
               intro a333 n334 c335 h336 h336l h336c w' H E
               simp only [List.length_map] at h336
               refine ⟨E, ?_⟩
               intro w' t
               refine H.cD t E (ct_big (b := big (y - ((((l)[i]'hin).reply.returns)[j]'hjn).cash)) (subB_ct ((big (y))) ((big (((((l)[i]'hin).reply.returns)[j]'hjn).cash))) (nb_big _) (nb_big _) (big_len' (by omega)) (big_len' (by omega))) (by rw [bv_big, bv_big])) ?_
               intro a337 n338 c339 h340 h340l h340c w' H E
               simp only [List.length_map] at h340
               refine ⟨E, ?_⟩
               refine andE (E.store (by repeat (first | exact trivial | exact rfl | refine ⟨?_, ?_⟩))) fun E => ?_
               intro w' t
               refine ⟨⟨j + 1, y - ((((l)[i]'hin).reply.returns)[j]'hjn).cash, true, a337, n338, c339⟩, (by first | rfl | exact xInc (by first | omega | (rw [maxLen_eq]; omega)) | simp), rfl, rfl, rfl, rfl, ⟨H.fin t 4 _, ?_⟩, ?_⟩
               ·refine ⟨hjn, ?_⟩
                rw [hS2]; omega
               ·show (l[i]'hin).reply.returns.length - (j + 1) < (l[i]'hin).reply.returns.length - j; omega
              ·intro w' t
               refine H.cD t (ExtS.refl (([] : List Nat)) [1] _ _) (ofB_ct (((((l)[i]'hin).reply.returns)[j]'hjn).cash) (by first | exact hq | exact hr9.2.1)) ?_
               intro a341 n342 c343 h344 h344l h344c w' H E
               simp only [List.length_map] at h344
               refine ⟨E, ?_⟩
               refine andE E fun E => ?_
               intro w' t
               refine H.cD t E (ct_big (b := big (y - ((((l)[i]'hin).reply.returns)[j]'hjn).cash)) (subB_ct ((big (y))) ((big (((((l)[i]'hin).reply.returns)[j]'hjn).cash))) (nb_big _) (nb_big _) (big_len' (by omega)) (big_len' (by omega))) (by rw [bv_big, bv_big])) ?_
               intro a345 n346 c347 h348 h348l h348c w' H E
               simp only [List.length_map] at h348
               refine ⟨E, ?_⟩
               refine andE (E.store (by repeat (first | exact trivial | exact rfl | refine ⟨?_, ?_⟩))) fun E => ?_
               intro w' t
               refine ⟨⟨j + 1, y - ((((l)[i]'hin).reply.returns)[j]'hjn).cash, true, a345, n346, c347⟩, (by first | rfl | exact xInc (by first | omega | (rw [maxLen_eq]; omega)) | simp), rfl, rfl, rfl, rfl, ⟨H.fin t 4 _, ?_⟩, ?_⟩
               ·refine ⟨hjn, ?_⟩
                rw [hS2]; omega
               ·show (l[i]'hin).reply.returns.length - (j + 1) < (l[i]'hin).reply.returns.length - j; omega
             ·have q325' := q325; simp at q325'
              have hbk : backI ((l[i]'hin).reply.returns[j]'hjn) k = lotsSum ((l[i]'hin).reply.returns[j]'hjn).lots k := by unfold backI; exact if_neg (by simpa using q325)
              refine ⟨by decide +kernel, ([] : List Nat), [1], ?_⟩
              refine ⟨rfl, ?_⟩
              refine H.at (a := a22) (n := n23) (c := c24) (els := (((l)[i]'hin).reply.returns).map AReturn.r) (i := ((j : Int)).toNat) (cs := (AReturn.r ((((l)[i]'hin).reply.returns)[j]'hjn))) (by simp [hjn]) (Nat.succ_pos _) ?_
              intro ad349 hn350e hn350 a351 n352 c353 h354 h354l h354c H hat355l hat355
              simp only [List.length_map] at h354
              refine ⟨ad349, hn350e, (by first | exact Int.natCast_nonneg _ | omega), (by first | omega | (simp; omega)), ?_⟩
              refine ⟨fun hm => (by first | exact absurd hm (by simp; done) | exact Us.own (Us.ad (Us.ad hn350)) (by simpa [ownBl, Own.row, oblk, Own.obj] using hm)), .slice a351 n352 c353, hat355.2.2.2.1, Us.box (Us.ad (Us.ad hn350)), ?_⟩
              refine ⟨?_, ?_⟩
              ·refine andE (ExtS.refl (([] : List Nat)) [1] _ _) fun E => ?_
               intro w' t
               refine H.cD t E (lotsB_ct (((((l)[i]'hin).reply.returns)[j]'hjn).lots) (k) hr9.2.2.1 hl9) ?_
               intro a356 n357 c358 h359 h359l h359c w' H E
               simp only [List.length_map] at h359
               refine ⟨E, ?_⟩
               intro w' t
               refine H.cD t E (ct_big (b := big (y - lotsSum (((((l)[i]'hin).reply.returns)[j]'hjn).lots) (k))) (subB_ct ((big (y))) ((big (lotsSum (((((l)[i]'hin).reply.returns)[j]'hjn).lots) (k)))) (nb_big _) (nb_big _) (big_len' (by omega)) (big_len' (by omega))) (by rw [bv_big, bv_big])) ?_
               intro a360 n361 c362 h363 h363l h363c w' H E
               simp only [List.length_map] at h363
               refine ⟨E, ?_⟩
               refine andE (E.store (by repeat (first | exact trivial | exact rfl | refine ⟨?_, ?_⟩))) fun E => ?_
               intro w' t
               refine ⟨⟨j + 1, y - lotsSum (((((l)[i]'hin).reply.returns)[j]'hjn).lots) (k), true, a360, n361, c362⟩, (by first | rfl | exact xInc (by first | omega | (rw [maxLen_eq]; omega)) | simp), rfl, rfl, rfl, rfl, ⟨H.fin t 4 _, ?_⟩, ?_⟩
               ·refine ⟨hjn, ?_⟩
                rw [hS2]; omega
               ·show (l[i]'hin).reply.returns.length - (j + 1) < (l[i]'hin).reply.returns.length - j; omega
              ·intro w' t
               refine H.cD t (ExtS.refl (([] : List Nat)) [1] _ _) (lotsB_ct (((((l)[i]'hin).reply.returns)[j]'hjn).lots) (k) hr9.2.2.1 hl9) ?_
               intro a364 n365 c366 h367 h367l h367c w' H E
               simp only [List.length_map] at h367
               refine ⟨E, ?_⟩
               refine andE E fun E => ?_
               intro w' t
               refine H.cD t E (ct_big (b := big (y - lotsSum (((((l)[i]'hin).reply.returns)[j]'hjn).lots) (k))) (subB_ct ((big (y))) ((big (lotsSum (((((l)[i]'hin).reply.returns)[j]'hjn).lots) (k)))) (nb_big _) (nb_big _) (big_len' (by omega)) (big_len' (by omega))) (by rw [bv_big, bv_big])) ?_
               intro a368 n369 c370 h371 h371l h371c w' H E
               simp only [List.length_map] at h371
               refine ⟨E, ?_⟩
               refine andE (E.store (by repeat (first | exact trivial | exact rfl | refine ⟨?_, ?_⟩))) fun E => ?_
               intro w' t
               refine ⟨⟨j + 1, y - lotsSum (((((l)[i]'hin).reply.returns)[j]'hjn).lots) (k), true, a368, n369, c370⟩, (by first | rfl | exact xInc (by first | omega | (rw [maxLen_eq]; omega)) | simp), rfl, rfl, rfl, rfl, ⟨H.fin t 4 _, ?_⟩, ?_⟩
               ·refine ⟨hjn, ?_⟩
                rw [hS2]; omega
               ·show (l[i]'hin).reply.returns.length - (j + 1) < (l[i]'hin).reply.returns.length - j; omega
            ·have q324' := of_decide_eq_false q324
             rw [List.take_of_length_le (by omega)] at hy
             have hct := cmd_two (l[i]'hin) k
             have hS : auditSum (l.take (i + 1)) k = y := by rw [hsucc, hy, hv, hu]; unfold doneI; rw [hct]; omega
             intro w' t
             refine ⟨⟨i + 1, y, true, ya, yn, yc⟩, (by first | rfl | exact xInc (by first | omega | (rw [maxLen_eq]; omega)) | simp), rfl, rfl, ⟨H.fin t 2 _, ?_⟩, ?_⟩
             ·exact ⟨hin, hS.symm⟩
             ·show l.length - (i + 1) < l.length - i; omega
         ·refine ⟨[9, 58, 59, 60, 61, 62, 63, 64, 65, 66, 67, 68, 69, 70, 71, 72, 73, 74, 75, 76, 77, 78, 79, 80, 81, 82, 83, 84, 85],
            { X := (Nat) × (Int) × (Bool) × (Option Addr) × (Nat) × (Nat), slots := [9], vals := fun (j, y, k3, ya, yn, yc) => [.int .i64 ((j : Int))], boxes := [1], cells := fun (j, y, k3, ya, yn, yc) => [[(bif k3 then XV.bool ((big (y)).neg) else XV.lit ((big (y)).neg)), .slc ya yn yc]],
              inv := fun (j, y, k3, ya, yn, yc) w' => Ctx w U [] [b5, b6, b27, b28] [] [(.slice a1 n2 c3, .sl 18 ((l).map ADone.r)), (.slice a10 n11 c12, .sl 1 ((((l)[i]'hin).command.numbers).map (fun x => [R.val (.int .i64 x)]))), (.slice a14 n15 c16, .sl 1 ((((l)[i]'hin).reply.numbers).map (fun x => [R.val (.int .i64 x)]))), (.slice a18 n19 c20, .sl 5 ((((l)[i]'hin).reply.debits).map ADebit.r)), (.slice a22 n23 c24, .sl 4 ((((l)[i]'hin).reply.returns).map AReturn.r)), (.slice ya yn yc, .sl 1 (((big (y)).b).map (fun x => [R.val (.int .u8 x)])))] w' ∧ (j ≤ (l[i]'hin).reply.returns.length ∧ y = v - (((l[i]'hin).reply.returns.take j).map fun r => backI r k).sum), μ := fun (j, y, k3, ya, yn, yc) => (l[i]'hin).reply.returns.length - j }, by kernel_rfl, ?_, ?_, ?_⟩
          ·rintro ⟨j, y, k3, ya, yn, yc⟩; cases k3 <;> exact ⟨⟨trivial, trivial⟩, ⟨trivial, trivial, trivial⟩, trivial⟩
          ·intro w' t
           refine ⟨⟨0, v, true, va, vn, vc⟩, rfl, rfl, rfl, rfl, rfl, H.fin t 4 _, ?_⟩
           exact ⟨Nat.zero_le _, by simp⟩
          ·rintro ⟨j, y, k3, ya, yn, yc⟩ w' ⟨H, hI⟩
           obtain ⟨hj, hy⟩ := hI
           have hsb := sum_bound (fun r => backI r k) (9223372036854775808 * 1000000) ((l[i]'hin).reply.returns.take j) (fun r hr => hbr r (List.mem_of_mem_take hr))
           have htl : ((l[i]'hin).reply.returns.take j).length ≤ 900 := by rw [List.length_take]; omega
           cases k3
           ·apply And.intro <;> intro q372
            ·have q372' := of_decide_eq_true q372
             have hjn : j < (l[i]'hin).reply.returns.length := by omega
             have hr9 : ((l[i]'hin).reply.returns[j]'hjn).ok := hx.1.2.2.2.2.1 _ (List.getElem_mem hjn)
             have hl9 : ((l[i]'hin).reply.returns[j]'hjn).lots.length ≤ 1000000 := hx.2.2 _ (List.getElem_mem hjn)
             have hcash := (show ok64 ((l[i]'hin).reply.returns[j]'hjn).cash from hr9.2.1).is
             have hlb := lots_bound ((l[i]'hin).reply.returns[j]'hjn).lots k hr9.2.2.1 hl9
             have hS2 : (((l[i]'hin).reply.returns.take (j + 1)).map fun r => backI r k).sum = (((l[i]'hin).reply.returns.take j).map fun r => backI r k).sum + backI ((l[i]'hin).reply.returns[j]'hjn) k := by rw [take_map_succ (fun r => backI r k) _ j hjn]; simp
             apply And.intro <;> intro q373
             ·have q373' := q373; simp at q373'
              have hbk : backI ((l[i]'hin).reply.returns[j]'hjn) k = ((l[i]'hin).reply.returns[j]'hjn).cash := by unfold backI; exact if_pos (by simpa using q373)
              refine ⟨by decide +kernel, ([] : List Nat), [1], ?_⟩
              refine ⟨rfl, ?_⟩
              refine H.at (a := a22) (n := n23) (c := c24) (els := (((l)[i]'hin).reply.returns).map AReturn.r) (i := ((j : Int)).toNat) (cs := (AReturn.r ((((l)[i]'hin).reply.returns)[j]'hjn))) (by simp [hjn]) (Nat.succ_pos _) ?_
              intro ad374 hn375e hn375 a376 n377 c378 h379 h379l h379c H hat380l hat380
              simp only [List.length_map] at h379
              refine ⟨ad374, hn375e, (by first | exact Int.natCast_nonneg _ | omega), (by first | omega | (simp; omega)), ?_⟩
              refine ⟨fun hm => (by first | exact absurd hm (by simp; done) | exact Us.own (Us.ad (Us.ad hn375)) (by simpa [ownBl, Own.row, oblk, Own.obj] using hm)), .int .i64 (((((l)[i]'hin).reply.returns)[j]'hjn).cash), hat380.2.2.1, Us.box (Us.ad (Us.ad hn375)), ?_⟩
              refine ⟨?_, ?_⟩
              ·refine andE (ExtS.refl (([] : List Nat)) [1] _ _) fun E => ?_
               intro w' t
               refine H.cD t E (ofB_ct (((((l)[i]'hin).reply.returns)[j]'hjn).cash) (by first | exact hq | exact hr9.2.1)) ?_
               intro a381 n382 c383 h384 h384l h384c w' H E
               simp only [List.length_map] at h384
               refine ⟨E, ?_⟩
               intro w' t
               refine H.cD t E (ct_big (b := big (y - ((((l)[i]'hin).reply.returns)[j]'hjn).cash)) (subB_ct ((big (y))) ((big (((((l)[i]'hin).reply.returns)[j]'hjn).cash))) (nb_big _) (nb_big _) (big_len' (by omega)) (big_len' (by omega))) (by rw [bv_big, bv_big])) ?_
               intro a385 n386 c387 h388 h388l h388c w' H E
               simp only [List.length_map] at h388
               refine ⟨E, ?_⟩
               refine andE (E.store (by repeat (first | exact trivial | exact rfl | refine ⟨?_, ?_⟩))) fun E => ?_
               intro w' t
               refine ⟨⟨j + 1, y - ((((l)[i]'hin).reply.returns)[j]'hjn).cash, true, a385, n386, c387⟩, (by first | rfl | exact xInc (by first | omega | (rw [maxLen_eq]; omega)) | simp), rfl, rfl, rfl, rfl, ⟨H.fin t 4 _, ?_⟩, ?_⟩
               ·refine ⟨hjn, ?_⟩
                rw [hS2]; omega
               ·show (l[i]'hin).reply.returns.length - (j + 1) < (l[i]'hin).reply.returns.length - j; omega
              ·intro w' t
               refine H.cD t (ExtS.refl (([] : List Nat)) [1] _ _) (ofB_ct (((((l)[i]'hin).reply.returns)[j]'hjn).cash) (by first | exact hq | exact hr9.2.1)) ?_
               intro a389 n390 c391 h392 h392l h392c w' H E
               simp only [List.length_map] at h392
               refine ⟨E, ?_⟩
               refine andE E fun E => ?_
               intro w' t
               refine H.cD t E (ct_big (b := big (y - ((((l)[i]'hin).reply.returns)[j]'hjn).cash)) (subB_ct ((big (y))) ((big (((((l)[i]'hin).reply.returns)[j]'hjn).cash))) (nb_big _) (nb_big _) (big_len' (by omega)) (big_len' (by omega))) (by rw [bv_big, bv_big])) ?_
               intro a393 n394 c395 h396 h396l h396c w' H E
               simp only [List.length_map] at h396
               refine ⟨E, ?_⟩
               refine andE (E.store (by repeat (first | exact trivial | exact rfl | refine ⟨?_, ?_⟩))) fun E => ?_
               intro w' t
               refine ⟨⟨j + 1, y - ((((l)[i]'hin).reply.returns)[j]'hjn).cash, true, a393, n394, c395⟩, (by first | rfl | exact xInc (by first | omega | (rw [maxLen_eq]; omega)) | simp), rfl, rfl, rfl, rfl, ⟨H.fin t 4 _, ?_⟩, ?_⟩
               ·refine ⟨hjn, ?_⟩
                rw [hS2]; omega
               ·show (l[i]'hin).reply.returns.length - (j + 1) < (l[i]'hin).reply.returns.length - j; omega
             ·have q373' := q373; simp at q373'
              have hbk : backI ((l[i]'hin).reply.returns[j]'hjn) k = lotsSum ((l[i]'hin).reply.returns[j]'hjn).lots k := by unfold backI; exact if_neg (by simpa using q373)
              refine ⟨by decide +kernel, ([] : List Nat), [1], ?_⟩
              refine ⟨rfl, ?_⟩
              refine H.at (a := a22) (n := n23) (c := c24) (els := (((l)[i]'hin).reply.returns).map AReturn.r) (i := ((j : Int)).toNat) (cs := (AReturn.r ((((l)[i]'hin).reply.returns)[j]'hjn))) (by simp [hjn]) (Nat.succ_pos _) ?_
              intro ad397 hn398e hn398 a399 n400 c401 h402 h402l h402c H hat403l hat403
              simp only [List.length_map] at h402
              refine ⟨ad397, hn398e, (by first | exact Int.natCast_nonneg _ | omega), (by first | omega | (simp; omega)), ?_⟩
              refine ⟨fun hm => (by first | exact absurd hm (by simp; done) | exact Us.own (Us.ad (Us.ad hn398)) (by simpa [ownBl, Own.row, oblk, Own.obj] using hm)), .slice a399 n400 c401, hat403.2.2.2.1, Us.box (Us.ad (Us.ad hn398)), ?_⟩
              refine ⟨?_, ?_⟩
              ·refine andE (ExtS.refl (([] : List Nat)) [1] _ _) fun E => ?_
               intro w' t
               refine H.cD t E (lotsB_ct (((((l)[i]'hin).reply.returns)[j]'hjn).lots) (k) hr9.2.2.1 hl9) ?_
               intro a404 n405 c406 h407 h407l h407c w' H E
               simp only [List.length_map] at h407
               refine ⟨E, ?_⟩
               intro w' t
               refine H.cD t E (ct_big (b := big (y - lotsSum (((((l)[i]'hin).reply.returns)[j]'hjn).lots) (k))) (subB_ct ((big (y))) ((big (lotsSum (((((l)[i]'hin).reply.returns)[j]'hjn).lots) (k)))) (nb_big _) (nb_big _) (big_len' (by omega)) (big_len' (by omega))) (by rw [bv_big, bv_big])) ?_
               intro a408 n409 c410 h411 h411l h411c w' H E
               simp only [List.length_map] at h411
               refine ⟨E, ?_⟩
               refine andE (E.store (by repeat (first | exact trivial | exact rfl | refine ⟨?_, ?_⟩))) fun E => ?_
               intro w' t
               refine ⟨⟨j + 1, y - lotsSum (((((l)[i]'hin).reply.returns)[j]'hjn).lots) (k), true, a408, n409, c410⟩, (by first | rfl | exact xInc (by first | omega | (rw [maxLen_eq]; omega)) | simp), rfl, rfl, rfl, rfl, ⟨H.fin t 4 _, ?_⟩, ?_⟩
               ·refine ⟨hjn, ?_⟩
                rw [hS2]; omega
               ·show (l[i]'hin).reply.returns.length - (j + 1) < (l[i]'hin).reply.returns.length - j; omega
              ·intro w' t
               refine H.cD t (ExtS.refl (([] : List Nat)) [1] _ _) (lotsB_ct (((((l)[i]'hin).reply.returns)[j]'hjn).lots) (k) hr9.2.2.1 hl9) ?_
               intro a412 n413 c414 h415 h415l h415c w' H E
               simp only [List.length_map] at h415
               refine ⟨E, ?_⟩
               refine andE E fun E => ?_
               intro w' t
               refine H.cD t E (ct_big (b := big (y - lotsSum (((((l)[i]'hin).reply.returns)[j]'hjn).lots) (k))) (subB_ct ((big (y))) ((big (lotsSum (((((l)[i]'hin).reply.returns)[j]'hjn).lots) (k)))) (nb_big _) (nb_big _) (big_len' (by omega)) (big_len' (by omega))) (by rw [bv_big, bv_big])) ?_
               intro a416 n417 c418 h419 h419l h419c w' H E
               simp only [List.length_map] at h419
               refine ⟨E, ?_⟩
               refine andE (E.store (by repeat (first | exact trivial | exact rfl | refine ⟨?_, ?_⟩))) fun E => ?_
               intro w' t
               refine ⟨⟨j + 1, y - lotsSum (((((l)[i]'hin).reply.returns)[j]'hjn).lots) (k), true, a416, n417, c418⟩, (by first | rfl | exact xInc (by first | omega | (rw [maxLen_eq]; omega)) | simp), rfl, rfl, rfl, rfl, ⟨H.fin t 4 _, ?_⟩, ?_⟩
               ·refine ⟨hjn, ?_⟩
                rw [hS2]; omega
               ·show (l[i]'hin).reply.returns.length - (j + 1) < (l[i]'hin).reply.returns.length - j; omega
            ·have q372' := of_decide_eq_false q372
             rw [List.take_of_length_le (by omega)] at hy
             have hct := cmd_two (l[i]'hin) k
             have hS : auditSum (l.take (i + 1)) k = y := by rw [hsucc, hy, hv, hu]; unfold doneI; rw [hct]; omega
             intro w' t
             refine ⟨⟨i + 1, y, false, ya, yn, yc⟩, (by first | rfl | exact xInc (by first | omega | (rw [maxLen_eq]; omega)) | simp), rfl, rfl, ⟨H.fin t 2 _, ?_⟩, ?_⟩
             ·exact ⟨hin, hS.symm⟩
             ·show l.length - (i + 1) < l.length - i; omega
           ·apply And.intro <;> intro q420
            ·have q420' := of_decide_eq_true q420
             have hjn : j < (l[i]'hin).reply.returns.length := by omega
             have hr9 : ((l[i]'hin).reply.returns[j]'hjn).ok := hx.1.2.2.2.2.1 _ (List.getElem_mem hjn)
             have hl9 : ((l[i]'hin).reply.returns[j]'hjn).lots.length ≤ 1000000 := hx.2.2 _ (List.getElem_mem hjn)
             have hcash := (show ok64 ((l[i]'hin).reply.returns[j]'hjn).cash from hr9.2.1).is
             have hlb := lots_bound ((l[i]'hin).reply.returns[j]'hjn).lots k hr9.2.2.1 hl9
             have hS2 : (((l[i]'hin).reply.returns.take (j + 1)).map fun r => backI r k).sum = (((l[i]'hin).reply.returns.take j).map fun r => backI r k).sum + backI ((l[i]'hin).reply.returns[j]'hjn) k := by rw [take_map_succ (fun r => backI r k) _ j hjn]; simp
             apply And.intro <;> intro q421
             ·have q421' := q421; simp at q421'
              have hbk : backI ((l[i]'hin).reply.returns[j]'hjn) k = ((l[i]'hin).reply.returns[j]'hjn).cash := by unfold backI; exact if_pos (by simpa using q421)
              refine ⟨by decide +kernel, ([] : List Nat), [1], ?_⟩
              refine ⟨rfl, ?_⟩
              refine H.at (a := a22) (n := n23) (c := c24) (els := (((l)[i]'hin).reply.returns).map AReturn.r) (i := ((j : Int)).toNat) (cs := (AReturn.r ((((l)[i]'hin).reply.returns)[j]'hjn))) (by simp [hjn]) (Nat.succ_pos _) ?_
              intro ad422 hn423e hn423 a424 n425 c426 h427 h427l h427c H hat428l hat428
              simp only [List.length_map] at h427
              refine ⟨ad422, hn423e, (by first | exact Int.natCast_nonneg _ | omega), (by first | omega | (simp; omega)), ?_⟩
              refine ⟨fun hm => (by first | exact absurd hm (by simp; done) | exact Us.own (Us.ad (Us.ad hn423)) (by simpa [ownBl, Own.row, oblk, Own.obj] using hm)), .int .i64 (((((l)[i]'hin).reply.returns)[j]'hjn).cash), hat428.2.2.1, Us.box (Us.ad (Us.ad hn423)), ?_⟩
              refine ⟨?_, ?_⟩
              ·refine andE (ExtS.refl (([] : List Nat)) [1] _ _) fun E => ?_
               intro w' t
               refine H.cD t E (ofB_ct (((((l)[i]'hin).reply.returns)[j]'hjn).cash) (by first | exact hq | exact hr9.2.1)) ?_
               intro a429 n430 c431 h432 h432l h432c w' H E
               simp only [List.length_map] at h432
               refine ⟨E, ?_⟩
               intro w' t
               refine H.cD t E (ct_big (b := big (y - ((((l)[i]'hin).reply.returns)[j]'hjn).cash)) (subB_ct ((big (y))) ((big (((((l)[i]'hin).reply.returns)[j]'hjn).cash))) (nb_big _) (nb_big _) (big_len' (by omega)) (big_len' (by omega))) (by rw [bv_big, bv_big])) ?_
               intro a433 n434 c435 h436 h436l h436c w' H E
               simp only [List.length_map] at h436
               refine ⟨E, ?_⟩
               refine andE (E.store (by repeat (first | exact trivial | exact rfl | refine ⟨?_, ?_⟩))) fun E => ?_
               intro w' t
               refine ⟨⟨j + 1, y - ((((l)[i]'hin).reply.returns)[j]'hjn).cash, true, a433, n434, c435⟩, (by first | rfl | exact xInc (by first | omega | (rw [maxLen_eq]; omega)) | simp), rfl, rfl, rfl, rfl, ⟨H.fin t 4 _, ?_⟩, ?_⟩
               ·refine ⟨hjn, ?_⟩
                rw [hS2]; omega
               ·show (l[i]'hin).reply.returns.length - (j + 1) < (l[i]'hin).reply.returns.length - j; omega
              ·intro w' t
               refine H.cD t (ExtS.refl (([] : List Nat)) [1] _ _) (ofB_ct (((((l)[i]'hin).reply.returns)[j]'hjn).cash) (by first | exact hq | exact hr9.2.1)) ?_
               intro a437 n438 c439 h440 h440l h440c w' H E
               simp only [List.length_map] at h440
               refine ⟨E, ?_⟩
               refine andE E fun E => ?_
               intro w' t
               refine H.cD t E (ct_big (b := big (y - ((((l)[i]'hin).reply.returns)[j]'hjn).cash)) (subB_ct ((big (y))) ((big (((((l)[i]'hin).reply.returns)[j]'hjn).cash))) (nb_big _) (nb_big _) (big_len' (by omega)) (big_len' (by omega))) (by rw [bv_big, bv_big])) ?_
               intro a441 n442 c443 h444 h444l h444c w' H E
               simp only [List.length_map] at h444
               refine ⟨E, ?_⟩
               refine andE (E.store (by repeat (first | exact trivial | exact rfl | refine ⟨?_, ?_⟩))) fun E => ?_
               intro w' t
               refine ⟨⟨j + 1, y - ((((l)[i]'hin).reply.returns)[j]'hjn).cash, true, a441, n442, c443⟩, (by first | rfl | exact xInc (by first | omega | (rw [maxLen_eq]; omega)) | simp), rfl, rfl, rfl, rfl, ⟨H.fin t 4 _, ?_⟩, ?_⟩
               ·refine ⟨hjn, ?_⟩
                rw [hS2]; omega
               ·show (l[i]'hin).reply.returns.length - (j + 1) < (l[i]'hin).reply.returns.length - j; omega
             ·have q421' := q421; simp at q421'
              have hbk : backI ((l[i]'hin).reply.returns[j]'hjn) k = lotsSum ((l[i]'hin).reply.returns[j]'hjn).lots k := by unfold backI; exact if_neg (by simpa using q421)
              refine ⟨by decide +kernel, ([] : List Nat), [1], ?_⟩
              refine ⟨rfl, ?_⟩
              refine H.at (a := a22) (n := n23) (c := c24) (els := (((l)[i]'hin).reply.returns).map AReturn.r) (i := ((j : Int)).toNat) (cs := (AReturn.r ((((l)[i]'hin).reply.returns)[j]'hjn))) (by simp [hjn]) (Nat.succ_pos _) ?_
              intro ad445 hn446e hn446 a447 n448 c449 h450 h450l h450c H hat451l hat451
              simp only [List.length_map] at h450
              refine ⟨ad445, hn446e, (by first | exact Int.natCast_nonneg _ | omega), (by first | omega | (simp; omega)), ?_⟩
              refine ⟨fun hm => (by first | exact absurd hm (by simp; done) | exact Us.own (Us.ad (Us.ad hn446)) (by simpa [ownBl, Own.row, oblk, Own.obj] using hm)), .slice a447 n448 c449, hat451.2.2.2.1, Us.box (Us.ad (Us.ad hn446)), ?_⟩
              refine ⟨?_, ?_⟩
              ·refine andE (ExtS.refl (([] : List Nat)) [1] _ _) fun E => ?_
               intro w' t
               refine H.cD t E (lotsB_ct (((((l)[i]'hin).reply.returns)[j]'hjn).lots) (k) hr9.2.2.1 hl9) ?_
               intro a452 n453 c454 h455 h455l h455c w' H E
               simp only [List.length_map] at h455
               refine ⟨E, ?_⟩
               intro w' t
               refine H.cD t E (ct_big (b := big (y - lotsSum (((((l)[i]'hin).reply.returns)[j]'hjn).lots) (k))) (subB_ct ((big (y))) ((big (lotsSum (((((l)[i]'hin).reply.returns)[j]'hjn).lots) (k)))) (nb_big _) (nb_big _) (big_len' (by omega)) (big_len' (by omega))) (by rw [bv_big, bv_big])) ?_
               intro a456 n457 c458 h459 h459l h459c w' H E
               simp only [List.length_map] at h459
               refine ⟨E, ?_⟩
               refine andE (E.store (by repeat (first | exact trivial | exact rfl | refine ⟨?_, ?_⟩))) fun E => ?_
               intro w' t
               refine ⟨⟨j + 1, y - lotsSum (((((l)[i]'hin).reply.returns)[j]'hjn).lots) (k), true, a456, n457, c458⟩, (by first | rfl | exact xInc (by first | omega | (rw [maxLen_eq]; omega)) | simp), rfl, rfl, rfl, rfl, ⟨H.fin t 4 _, ?_⟩, ?_⟩
               ·refine ⟨hjn, ?_⟩
                rw [hS2]; omega
               ·show (l[i]'hin).reply.returns.length - (j + 1) < (l[i]'hin).reply.returns.length - j; omega
              ·intro w' t
               refine H.cD t (ExtS.refl (([] : List Nat)) [1] _ _) (lotsB_ct (((((l)[i]'hin).reply.returns)[j]'hjn).lots) (k) hr9.2.2.1 hl9) ?_
               intro a460 n461 c462 h463 h463l h463c w' H E
               simp only [List.length_map] at h463
               refine ⟨E, ?_⟩
               refine andE E fun E => ?_
               intro w' t
               refine H.cD t E (ct_big (b := big (y - lotsSum (((((l)[i]'hin).reply.returns)[j]'hjn).lots) (k))) (subB_ct ((big (y))) ((big (lotsSum (((((l)[i]'hin).reply.returns)[j]'hjn).lots) (k)))) (nb_big _) (nb_big _) (big_len' (by omega)) (big_len' (by omega))) (by rw [bv_big, bv_big])) ?_
               intro a464 n465 c466 h467 h467l h467c w' H E
               simp only [List.length_map] at h467
               refine ⟨E, ?_⟩
               refine andE (E.store (by repeat (first | exact trivial | exact rfl | refine ⟨?_, ?_⟩))) fun E => ?_
               intro w' t
               refine ⟨⟨j + 1, y - lotsSum (((((l)[i]'hin).reply.returns)[j]'hjn).lots) (k), true, a464, n465, c466⟩, (by first | rfl | exact xInc (by first | omega | (rw [maxLen_eq]; omega)) | simp), rfl, rfl, rfl, rfl, ⟨H.fin t 4 _, ?_⟩, ?_⟩
               ·refine ⟨hjn, ?_⟩
                rw [hS2]; omega
               ·show (l[i]'hin).reply.returns.length - (j + 1) < (l[i]'hin).reply.returns.length - j; omega
            ·have q420' := of_decide_eq_false q420
             rw [List.take_of_length_le (by omega)] at hy
             have hct := cmd_two (l[i]'hin) k
             have hS : auditSum (l.take (i + 1)) k = y := by rw [hsucc, hy, hv, hu]; unfold doneI; rw [hct]; omega
             intro w' t
             refine ⟨⟨i + 1, y, true, ya, yn, yc⟩, (by first | rfl | exact xInc (by first | omega | (rw [maxLen_eq]; omega)) | simp), rfl, rfl, ⟨H.fin t 2 _, ?_⟩, ?_⟩
             ·exact ⟨hin, hS.symm⟩
             ·show l.length - (i + 1) < l.length - i; omega
   ·have q7' := of_decide_eq_false q7
    have hie : l.take i = l := List.take_of_length_le (by omega)
    have hr : big (auditSum l k) = big (z) := by rw [hz, hie]
    intro w' t
    rw [hr]
    exact H.r t
  ·apply And.intro <;> intro q909
   ·have q909' := of_decide_eq_true q909
    have hin : i < l.length := by omega
    have hx : (l[i]'hin).few := ha0 _ (List.getElem_mem hin)
    have hq : ok64 (l[i]'hin).command.qty := hx.1.1.2.2.2.2.2.2.2.2.2.1
    have hqi := hq.is
    have hbz := audit_bound (l.take i) k (fun x hx => ha0 x (List.mem_of_mem_take hx)) (by rw [List.length_take]; omega)
    rw [← hz] at hbz
    have hsucc := audit_succ l k i hin
    rw [← hz] at hsucc
    have hbr : ∀ r ∈ (l[i]'hin).reply.returns, -(9223372036854775808 * 1000000) ≤ backI r k ∧ backI r k ≤ (9223372036854775808 * 1000000) := fun r hr => back_bound r k (hx.1.2.2.2.2.1 r hr) (hx.2.2 r hr)
    have h900 := hx.2.1
    refine ⟨by decide +kernel, ([] : List Nat), [2, 3], ?_⟩
    refine H.at (a := a1) (n := n2) (c := c3) (els := (l).map ADone.r) (i := ((i : Int)).toNat) (cs := (ADone.r ((l)[i]'hin))) (by simp [hin]) (Nat.succ_pos _) ?_
    intro ad910 hn911e hn911 a912 n913 c914 h915 h915l h915c a916 n917 c918 h919 h919l h919c a920 n921 c922 h923 h923l h923c a924 n925 c926 h927 h927l h927c H hat928l hat928
    simp only [List.length_map] at h915
    simp only [List.length_map] at h919
    simp only [List.length_map] at h923
    simp only [List.length_map] at h927
    refine ⟨ad910, hn911e, (by first | exact Int.natCast_nonneg _ | omega), (by first | omega | (simp; omega)), ?_⟩
    refine ⟨fun hm => (by first | exact absurd hm (by simp; done) | exact Us.own (Us.ad (Us.ad hn911)) (by simpa [ownBl, Own.row, oblk, Own.obj] using hm)), [.int .i64 (((l)[i]'hin).command.op), .int .i64 (((l)[i]'hin).command.by_), .int .i64 (((l)[i]'hin).command.member), .int .i64 (((l)[i]'hin).command.unit.account), .int .i64 (((l)[i]'hin).command.unit.client), .int .i64 (((l)[i]'hin).command.other.account), .int .i64 (((l)[i]'hin).command.other.client), .int .i64 (((l)[i]'hin).command.inst), .int .i64 (((l)[i]'hin).command.asset), .int .i64 (((l)[i]'hin).command.tag), .int .i64 (((l)[i]'hin).command.id), .int .i64 (((l)[i]'hin).command.qty), .int .i64 (((l)[i]'hin).command.price), .slice a912 n913 c914], rfl, List.cons_ne_nil _ _, cellsAt_part hat928 0 14, Us.box (Us.ad (Us.ad hn911)), ?_⟩
    refine ⟨ad910, hn911e, (by first | exact Int.natCast_nonneg _ | omega), (by first | omega | (simp; omega)), ?_⟩
    refine ⟨fun hm => (by first | exact absurd hm (by simp; done) | exact Us.own (Us.ad (Us.ad hn911)) (by simpa [ownBl, Own.row, oblk, Own.obj] using hm)), [.int .i64 (((l)[i]'hin).reply.err), .slice a916 n917 c918, .slice a920 n921 c922, .slice a924 n925 c926], rfl, List.cons_ne_nil _ _, cellsAt_part hat928 14 4, Us.box (Us.ad (Us.ad hn911)), ?_⟩
    refine ⟨?_, ?_⟩
    all_goals
     intro b929 hb929
     have H := H.box hb929
     refine andE ((ExtS.refl (([] : List Nat)) [2, 3] _ _).box hb929) fun E => ?_
     intro b930 hb930
     have H := H.box hb930
     refine andE (E.box hb930) fun E => ?_
     refine andE (E.store (by repeat (first | exact trivial | exact rfl | refine ⟨?_, ?_⟩))) fun E => ?_
     refine andE (E.store (by repeat (first | exact trivial | exact rfl | refine ⟨?_, ?_⟩))) fun E => ?_
     apply And.intro <;> intro q931
     ·have q931' := q931; simp at q931'
      have hS : auditSum (l.take (i + 1)) k = z := by rw [hsucc, if_neg (by simpa using q931)]; omega
      intro w' t
      refine ⟨⟨i + 1, z, true, za, zn, zc⟩, (by first | rfl | exact xInc (by first | omega | (rw [maxLen_eq]; omega)) | simp), rfl, rfl, ⟨H.fin t 2 _, ?_⟩, ?_⟩
      ·exact ⟨hin, hS.symm⟩
      ·show l.length - (i + 1) < l.length - i; omega
     ·have q931' := q931; simp at q931'
      rw [if_pos (by simpa using q931)] at hsucc
      refine ⟨[30, 31, 32, 33, 34, 35, 36, 37, 38, 39, 40, 41, 42, 43],
        { X := (Int) × (Bool) × (Option Addr) × (Nat) × (Nat), slots := [], vals := fun (u, k1, ua, un, uc) => [], boxes := [1], cells := fun (u, k1, ua, un, uc) => [[(bif k1 then XV.bool ((big (u)).neg) else XV.lit ((big (u)).neg)), .slc ua un uc]],
          inv := fun (u, k1, ua, un, uc) w' => Ctx w U [] [b5, b6, b929, b930] [] [(.slice a1 n2 c3, .sl 18 ((l).map ADone.r)), (.slice a912 n913 c914, .sl 1 ((((l)[i]'hin).command.numbers).map (fun x => [R.val (.int .i64 x)]))), (.slice a916 n917 c918, .sl 1 ((((l)[i]'hin).reply.numbers).map (fun x => [R.val (.int .i64 x)]))), (.slice a920 n921 c922, .sl 5 ((((l)[i]'hin).reply.debits).map ADebit.r)), (.slice a924 n925 c926, .sl 4 ((((l)[i]'hin).reply.returns).map AReturn.r)), (.slice ua un uc, .sl 1 (((big (u)).b).map (fun x => [R.val (.int .u8 x)])))] w' ∧ (u = z + (if (l[i]'hin).command.asset = k ∧ (l[i]'hin).command.op = 17 then (l[i]'hin).command.qty else 0)), μ := fun _ => 0 }, fun (u, k1, ua, un, uc) => [], by kernel_rfl, ?_, ?_, ?_⟩
      ·rintro ⟨u, k1, ua, un, uc⟩; cases k1 <;> exact ⟨trivial, ⟨trivial, trivial, trivial⟩, trivial⟩
      ·apply And.intro <;> intro q932
       ·have q932' := q932; simp at q932'
        have ha : (l[i]'hin).command.asset = k := by simpa using q932
        apply And.intro <;> intro q933
        ·have q933' := q933; simp at q933'
         have h17 : (l[i]'hin).command.op = 17 := by simpa using q933
         refine ⟨by decide +kernel, ([] : List Nat), [1], ?_⟩
         refine ⟨rfl, ?_⟩
         refine ⟨?_, ?_⟩
         ·refine andE (ExtS.refl (([] : List Nat)) [1] _ _) fun E => ?_
          intro w' t
          refine H.cD t E (ofB_ct (((l)[i]'hin).command.qty) (by first | exact hq | exact hr9.2.1)) ?_
          intro a934 n935 c936 h937 h937l h937c w' H E
          simp only [List.length_map] at h937
          refine ⟨E, ?_⟩
          intro w' t
          refine H.cD t E (ct_big (b := big (z + ((l)[i]'hin).command.qty)) (addB_ct ((big (z))) ((big (((l)[i]'hin).command.qty))) (nb_big _) (nb_big _) (big_len' (by omega)) (big_len' (by omega))) (by rw [bv_big, bv_big])) ?_
          intro a938 n939 c940 h941 h941l h941c w' H E
          simp only [List.length_map] at h941
          refine ⟨E, ?_⟩
          refine andE (E.store (by repeat (first | exact trivial | exact rfl | refine ⟨?_, ?_⟩))) fun E => ?_
          intro w' t
          refine ⟨⟨z + ((l)[i]'hin).command.qty, true, a938, n939, c940⟩, rfl, rfl, rfl, rfl, H.fin t 4 _, ?_⟩
          first | (rw [if_pos ⟨ha, h17⟩]; done) | (rw [if_neg (fun hh => h17 hh.2)]; omega) | (rw [if_neg (fun hh => ha hh.1)]; omega)
         ·intro w' t
          refine H.cD t (ExtS.refl (([] : List Nat)) [1] _ _) (ofB_ct (((l)[i]'hin).command.qty) (by first | exact hq | exact hr9.2.1)) ?_
          intro a942 n943 c944 h945 h945l h945c w' H E
          simp only [List.length_map] at h945
          refine ⟨E, ?_⟩
          refine andE E fun E => ?_
          intro w' t
          refine H.cD t E (ct_big (b := big (z + ((l)[i]'hin).command.qty)) (addB_ct ((big (z))) ((big (((l)[i]'hin).command.qty))) (nb_big _) (nb_big _) (big_len' (by omega)) (big_len' (by omega))) (by rw [bv_big, bv_big])) ?_
          intro a946 n947 c948 h949 h949l h949c w' H E
          simp only [List.length_map] at h949
          refine ⟨E, ?_⟩
          refine andE (E.store (by repeat (first | exact trivial | exact rfl | refine ⟨?_, ?_⟩))) fun E => ?_
          intro w' t
          refine ⟨⟨z + ((l)[i]'hin).command.qty, true, a946, n947, c948⟩, rfl, rfl, rfl, rfl, H.fin t 4 _, ?_⟩
          first | (rw [if_pos ⟨ha, h17⟩]; done) | (rw [if_neg (fun hh => h17 hh.2)]; omega) | (rw [if_neg (fun hh => ha hh.1)]; omega)
        ·have q933' := q933; simp at q933'
         have h17 : ¬ (l[i]'hin).command.op = 17 := by simpa using q933
         intro w' t
         refine ⟨⟨z, true, za, zn, zc⟩, rfl, rfl, rfl, rfl, H.fin t 4 _, ?_⟩
         first | (rw [if_pos ⟨ha, h17⟩]; done) | (rw [if_neg (fun hh => h17 hh.2)]; omega) | (rw [if_neg (fun hh => ha hh.1)]; omega)
       ·have q932' := q932; simp at q932'
        have ha : ¬ (l[i]'hin).command.asset = k := by simpa using q932
        intro w' t
        refine ⟨⟨z, true, za, zn, zc⟩, rfl, rfl, rfl, rfl, H.fin t 4 _, ?_⟩
        first | (rw [if_pos ⟨ha, h17⟩]; done) | (rw [if_neg (fun hh => h17 hh.2)]; omega) | (rw [if_neg (fun hh => ha hh.1)]; omega)
      ·rintro ⟨u, k1, ua, un, uc⟩ w' ⟨H, hI⟩
       have hu := hI
       have hbu : z - 9223372036854775808 ≤ u ∧ u ≤ z + 9223372036854775808 := by rw [hu]; split <;> omega
       cases k1
       ·refine ⟨[44, 45, 46, 47, 48, 49, 50, 51, 52, 53, 54, 55, 56, 57],
          { X := (Int) × (Bool) × (Option Addr) × (Nat) × (Nat), slots := [], vals := fun (v, k2, va, vn, vc) => [], boxes := [1], cells := fun (v, k2, va, vn, vc) => [[(bif k2 then XV.bool ((big (v)).neg) else XV.lit ((big (v)).neg)), .slc va vn vc]],
            inv := fun (v, k2, va, vn, vc) w' => Ctx w U [] [b5, b6, b929, b930] [] [(.slice a1 n2 c3, .sl 18 ((l).map ADone.r)), (.slice a912 n913 c914, .sl 1 ((((l)[i]'hin).command.numbers).map (fun x => [R.val (.int .i64 x)]))), (.slice a916 n917 c918, .sl 1 ((((l)[i]'hin).reply.numbers).map (fun x => [R.val (.int .i64 x)]))), (.slice a920 n921 c922, .sl 5 ((((l)[i]'hin).reply.debits).map ADebit.r)), (.slice a924 n925 c926, .sl 4 ((((l)[i]'hin).reply.returns).map AReturn.r)), (.slice va vn vc, .sl 1 (((big (v)).b).map (fun x => [R.val (.int .u8 x)])))] w' ∧ (v = u - (if (l[i]'hin).command.asset = k ∧ (l[i]'hin).command.op = 18 then (l[i]'hin).command.qty else 0)), μ := fun _ => 0 }, fun (v, k2, va, vn, vc) => [], by kernel_rfl, ?_, ?_, ?_⟩
        ·rintro ⟨v, k2, va, vn, vc⟩; cases k2 <;> exact ⟨trivial, ⟨trivial, trivial, trivial⟩, trivial⟩
        ·apply And.intro <;> intro q950
         ·have q950' := q950; simp at q950'
          have ha : (l[i]'hin).command.asset = k := by simpa using q950
          apply And.intro <;> intro q951
          ·have q951' := q951; simp at q951'
           have h18 : (l[i]'hin).command.op = 18 := by simpa using q951
           refine ⟨by decide +kernel, ([] : List Nat), [1], ?_⟩
           refine ⟨rfl, ?_⟩
           refine ⟨?_, ?_⟩
           ·refine andE (ExtS.refl (([] : List Nat)) [1] _ _) fun E => ?_
            intro w' t
            refine H.cD t E (ofB_ct (((l)[i]'hin).command.qty) (by first | exact hq | exact hr9.2.1)) ?_
            intro a952 n953 c954 h955 h955l h955c w' H E
            simp only [List.length_map] at h955
            refine ⟨E, ?_⟩
            intro w' t
            refine H.cD t E (ct_big (b := big (u - ((l)[i]'hin).command.qty)) (subB_ct ((big (u))) ((big (((l)[i]'hin).command.qty))) (nb_big _) (nb_big _) (big_len' (by omega)) (big_len' (by omega))) (by rw [bv_big, bv_big])) ?_
            intro a956 n957 c958 h959 h959l h959c w' H E
            simp only [List.length_map] at h959
            refine ⟨E, ?_⟩
            refine andE (E.store (by repeat (first | exact trivial | exact rfl | refine ⟨?_, ?_⟩))) fun E => ?_
            intro w' t
            refine ⟨⟨u - ((l)[i]'hin).command.qty, true, a956, n957, c958⟩, rfl, rfl, rfl, rfl, H.fin t 4 _, ?_⟩
            first | (rw [if_pos ⟨ha, h18⟩]; done) | (rw [if_neg (fun hh => h18 hh.2)]; omega) | (rw [if_neg (fun hh => ha hh.1)]; omega)
           ·intro w' t
            refine H.cD t (ExtS.refl (([] : List Nat)) [1] _ _) (ofB_ct (((l)[i]'hin).command.qty) (by first | exact hq | exact hr9.2.1)) ?_
            intro a960 n961 c962 h963 h963l h963c w' H E
            simp only [List.length_map] at h963
            refine ⟨E, ?_⟩
            refine andE E fun E => ?_
            intro w' t
            refine H.cD t E (ct_big (b := big (u - ((l)[i]'hin).command.qty)) (subB_ct ((big (u))) ((big (((l)[i]'hin).command.qty))) (nb_big _) (nb_big _) (big_len' (by omega)) (big_len' (by omega))) (by rw [bv_big, bv_big])) ?_
            intro a964 n965 c966 h967 h967l h967c w' H E
            simp only [List.length_map] at h967
            refine ⟨E, ?_⟩
            refine andE (E.store (by repeat (first | exact trivial | exact rfl | refine ⟨?_, ?_⟩))) fun E => ?_
            intro w' t
            refine ⟨⟨u - ((l)[i]'hin).command.qty, true, a964, n965, c966⟩, rfl, rfl, rfl, rfl, H.fin t 4 _, ?_⟩
            first | (rw [if_pos ⟨ha, h18⟩]; done) | (rw [if_neg (fun hh => h18 hh.2)]; omega) | (rw [if_neg (fun hh => ha hh.1)]; omega)
          ·have q951' := q951; simp at q951'
           have h18 : ¬ (l[i]'hin).command.op = 18 := by simpa using q951
           intro w' t
           refine ⟨⟨u, false, ua, un, uc⟩, rfl, rfl, rfl, rfl, H.fin t 4 _, ?_⟩
           first | (rw [if_pos ⟨ha, h18⟩]; done) | (rw [if_neg (fun hh => h18 hh.2)]; omega) | (rw [if_neg (fun hh => ha hh.1)]; omega)
         ·have q950' := q950; simp at q950'
          have ha : ¬ (l[i]'hin).command.asset = k := by simpa using q950
          intro w' t
          refine ⟨⟨u, false, ua, un, uc⟩, rfl, rfl, rfl, rfl, H.fin t 4 _, ?_⟩
          first | (rw [if_pos ⟨ha, h18⟩]; done) | (rw [if_neg (fun hh => h18 hh.2)]; omega) | (rw [if_neg (fun hh => ha hh.1)]; omega)
        ·rintro ⟨v, k2, va, vn, vc⟩ w' ⟨H, hI⟩
         have hv := hI
         have hbv : u - 9223372036854775808 ≤ v ∧ v ≤ u + 9223372036854775808 := by rw [hv]; split <;> omega
         cases k2
         ·refine ⟨[9, 58, 59, 60, 61, 62, 63, 64, 65, 66, 67, 68, 69, 70, 71, 72, 73, 74, 75, 76, 77, 78, 79, 80, 81, 82, 83, 84, 85],
            { X := (Nat) × (Int) × (Bool) × (Option Addr) × (Nat) × (Nat), slots := [9], vals := fun (j, y, k3, ya, yn, yc) => [.int .i64 ((j : Int))], boxes := [1], cells := fun (j, y, k3, ya, yn, yc) => [[(bif k3 then XV.bool ((big (y)).neg) else XV.lit ((big (y)).neg)), .slc ya yn yc]],
              inv := fun (j, y, k3, ya, yn, yc) w' => Ctx w U [] [b5, b6, b929, b930] [] [(.slice a1 n2 c3, .sl 18 ((l).map ADone.r)), (.slice a912 n913 c914, .sl 1 ((((l)[i]'hin).command.numbers).map (fun x => [R.val (.int .i64 x)]))), (.slice a916 n917 c918, .sl 1 ((((l)[i]'hin).reply.numbers).map (fun x => [R.val (.int .i64 x)]))), (.slice a920 n921 c922, .sl 5 ((((l)[i]'hin).reply.debits).map ADebit.r)), (.slice a924 n925 c926, .sl 4 ((((l)[i]'hin).reply.returns).map AReturn.r)), (.slice ya yn yc, .sl 1 (((big (y)).b).map (fun x => [R.val (.int .u8 x)])))] w' ∧ (j ≤ (l[i]'hin).reply.returns.length ∧ y = v - (((l[i]'hin).reply.returns.take j).map fun r => backI r k).sum), μ := fun (j, y, k3, ya, yn, yc) => (l[i]'hin).reply.returns.length - j }, by kernel_rfl, ?_, ?_, ?_⟩
          ·rintro ⟨j, y, k3, ya, yn, yc⟩; cases k3 <;> exact ⟨⟨trivial, trivial⟩, ⟨trivial, trivial, trivial⟩, trivial⟩
          ·intro w' t
           refine ⟨⟨0, v, false, va, vn, vc⟩, rfl, rfl, rfl, rfl, rfl, H.fin t 4 _, ?_⟩
           exact ⟨Nat.zero_le _, by simp⟩
          ·rintro ⟨j, y, k3, ya, yn, yc⟩ w' ⟨H, hI⟩
           obtain ⟨hj, hy⟩ := hI
           have hsb := sum_bound (fun r => backI r k) (9223372036854775808 * 1000000) ((l[i]'hin).reply.returns.take j) (fun r hr => hbr r (List.mem_of_mem_take hr))
           have htl : ((l[i]'hin).reply.returns.take j).length ≤ 900 := by rw [List.length_take]; omega
           cases k3
           ·apply And.intro <;> intro q968
            ·have q968' := of_decide_eq_true q968
             have hjn : j < (l[i]'hin).reply.returns.length := by omega
             have hr9 : ((l[i]'hin).reply.returns[j]'hjn).ok := hx.1.2.2.2.2.1 _ (List.getElem_mem hjn)
             have hl9 : ((l[i]'hin).reply.returns[j]'hjn).lots.length ≤ 1000000 := hx.2.2 _ (List.getElem_mem hjn)
             have hcash := (show ok64 ((l[i]'hin).reply.returns[j]'hjn).cash from hr9.2.1).is
             have hlb := lots_bound ((l[i]'hin).reply.returns[j]'hjn).lots k hr9.2.2.1 hl9
             have hS2 : (((l[i]'hin).reply.returns.take (j + 1)).map fun r => backI r k).sum = (((l[i]'hin).reply.returns.take j).map fun r => backI r k).sum + backI ((l[i]'hin).reply.returns[j]'hjn) k := by rw [take_map_succ (fun r => backI r k) _ j hjn]; simp
             apply And.intro <;> intro q969
             ·have q969' := q969; simp at q969'
              have hbk : backI ((l[i]'hin).reply.returns[j]'hjn) k = ((l[i]'hin).reply.returns[j]'hjn).cash := by unfold backI; exact if_pos (by simpa using q969)
              refine ⟨by decide +kernel, ([] : List Nat), [1], ?_⟩
              refine ⟨rfl, ?_⟩
              refine H.at (a := a924) (n := n925) (c := c926) (els := (((l)[i]'hin).reply.returns).map AReturn.r) (i := ((j : Int)).toNat) (cs := (AReturn.r ((((l)[i]'hin).reply.returns)[j]'hjn))) (by simp [hjn]) (Nat.succ_pos _) ?_
              intro ad970 hn971e hn971 a972 n973 c974 h975 h975l h975c H hat976l hat976
              simp only [List.length_map] at h975
              refine ⟨ad970, hn971e, (by first | exact Int.natCast_nonneg _ | omega), (by first | omega | (simp; omega)), ?_⟩
              refine ⟨fun hm => (by first | exact absurd hm (by simp; done) | exact Us.own (Us.ad (Us.ad hn971)) (by simpa [ownBl, Own.row, oblk, Own.obj] using hm)), .int .i64 (((((l)[i]'hin).reply.returns)[j]'hjn).cash), hat976.2.2.1, Us.box (Us.ad (Us.ad hn971)), ?_⟩
              refine ⟨?_, ?_⟩
              ·refine andE (ExtS.refl (([] : List Nat)) [1] _ _) fun E => ?_
               intro w' t
               refine H.cD t E (ofB_ct (((((l)[i]'hin).reply.returns)[j]'hjn).cash) (by first | exact hq | exact hr9.2.1)) ?_
               intro a977 n978 c979 h980 h980l h980c w' H E
               simp only [List.length_map] at h980
               refine ⟨E, ?_⟩
               intro w' t
               refine H.cD t E (ct_big (b := big (y - ((((l)[i]'hin).reply.returns)[j]'hjn).cash)) (subB_ct ((big (y))) ((big (((((l)[i]'hin).reply.returns)[j]'hjn).cash))) (nb_big _) (nb_big _) (big_len' (by omega)) (big_len' (by omega))) (by rw [bv_big, bv_big])) ?_
               intro a981 n982 c983 h984 h984l h984c w' H E
               simp only [List.length_map] at h984
               refine ⟨E, ?_⟩
               refine andE (E.store (by repeat (first | exact trivial | exact rfl | refine ⟨?_, ?_⟩))) fun E => ?_
               intro w' t
               refine ⟨⟨j + 1, y - ((((l)[i]'hin).reply.returns)[j]'hjn).cash, true, a981, n982, c983⟩, (by first | rfl | exact xInc (by first | omega | (rw [maxLen_eq]; omega)) | simp), rfl, rfl, rfl, rfl, ⟨H.fin t 4 _, ?_⟩, ?_⟩
               ·refine ⟨hjn, ?_⟩
                rw [hS2]; omega
               ·show (l[i]'hin).reply.returns.length - (j + 1) < (l[i]'hin).reply.returns.length - j; omega
              ·intro w' t
               refine H.cD t (ExtS.refl (([] : List Nat)) [1] _ _) (ofB_ct (((((l)[i]'hin).reply.returns)[j]'hjn).cash) (by first | exact hq | exact hr9.2.1)) ?_
               intro a985 n986 c987 h988 h988l h988c w' H E
               simp only [List.length_map] at h988
               refine ⟨E, ?_⟩
               refine andE E fun E => ?_
               intro w' t
               refine H.cD t E (ct_big (b := big (y - ((((l)[i]'hin).reply.returns)[j]'hjn).cash)) (subB_ct ((big (y))) ((big (((((l)[i]'hin).reply.returns)[j]'hjn).cash))) (nb_big _) (nb_big _) (big_len' (by omega)) (big_len' (by omega))) (by rw [bv_big, bv_big])) ?_
               intro a989 n990 c991 h992 h992l h992c w' H E
               simp only [List.length_map] at h992
               refine ⟨E, ?_⟩
               refine andE (E.store (by repeat (first | exact trivial | exact rfl | refine ⟨?_, ?_⟩))) fun E => ?_
               intro w' t
               refine ⟨⟨j + 1, y - ((((l)[i]'hin).reply.returns)[j]'hjn).cash, true, a989, n990, c991⟩, (by first | rfl | exact xInc (by first | omega | (rw [maxLen_eq]; omega)) | simp), rfl, rfl, rfl, rfl, ⟨H.fin t 4 _, ?_⟩, ?_⟩
               ·refine ⟨hjn, ?_⟩
                rw [hS2]; omega
               ·show (l[i]'hin).reply.returns.length - (j + 1) < (l[i]'hin).reply.returns.length - j; omega
             ·have q969' := q969; simp at q969'
              have hbk : backI ((l[i]'hin).reply.returns[j]'hjn) k = lotsSum ((l[i]'hin).reply.returns[j]'hjn).lots k := by unfold backI; exact if_neg (by simpa using q969)
              refine ⟨by decide +kernel, ([] : List Nat), [1], ?_⟩
              refine ⟨rfl, ?_⟩
              refine H.at (a := a924) (n := n925) (c := c926) (els := (((l)[i]'hin).reply.returns).map AReturn.r) (i := ((j : Int)).toNat) (cs := (AReturn.r ((((l)[i]'hin).reply.returns)[j]'hjn))) (by simp [hjn]) (Nat.succ_pos _) ?_
              intro ad993 hn994e hn994 a995 n996 c997 h998 h998l h998c H hat999l hat999
              simp only [List.length_map] at h998
              refine ⟨ad993, hn994e, (by first | exact Int.natCast_nonneg _ | omega), (by first | omega | (simp; omega)), ?_⟩
              refine ⟨fun hm => (by first | exact absurd hm (by simp; done) | exact Us.own (Us.ad (Us.ad hn994)) (by simpa [ownBl, Own.row, oblk, Own.obj] using hm)), .slice a995 n996 c997, hat999.2.2.2.1, Us.box (Us.ad (Us.ad hn994)), ?_⟩
              refine ⟨?_, ?_⟩
              ·refine andE (ExtS.refl (([] : List Nat)) [1] _ _) fun E => ?_
               intro w' t
               refine H.cD t E (lotsB_ct (((((l)[i]'hin).reply.returns)[j]'hjn).lots) (k) hr9.2.2.1 hl9) ?_
               intro a1000 n1001 c1002 h1003 h1003l h1003c w' H E
               simp only [List.length_map] at h1003
               refine ⟨E, ?_⟩
               intro w' t
               refine H.cD t E (ct_big (b := big (y - lotsSum (((((l)[i]'hin).reply.returns)[j]'hjn).lots) (k))) (subB_ct ((big (y))) ((big (lotsSum (((((l)[i]'hin).reply.returns)[j]'hjn).lots) (k)))) (nb_big _) (nb_big _) (big_len' (by omega)) (big_len' (by omega))) (by rw [bv_big, bv_big])) ?_
               intro a1004 n1005 c1006 h1007 h1007l h1007c w' H E
               simp only [List.length_map] at h1007
               refine ⟨E, ?_⟩
               refine andE (E.store (by repeat (first | exact trivial | exact rfl | refine ⟨?_, ?_⟩))) fun E => ?_
               intro w' t
               refine ⟨⟨j + 1, y - lotsSum (((((l)[i]'hin).reply.returns)[j]'hjn).lots) (k), true, a1004, n1005, c1006⟩, (by first | rfl | exact xInc (by first | omega | (rw [maxLen_eq]; omega)) | simp), rfl, rfl, rfl, rfl, ⟨H.fin t 4 _, ?_⟩, ?_⟩
               ·refine ⟨hjn, ?_⟩
                rw [hS2]; omega
               ·show (l[i]'hin).reply.returns.length - (j + 1) < (l[i]'hin).reply.returns.length - j; omega
              ·intro w' t
               refine H.cD t (ExtS.refl (([] : List Nat)) [1] _ _) (lotsB_ct (((((l)[i]'hin).reply.returns)[j]'hjn).lots) (k) hr9.2.2.1 hl9) ?_
               intro a1008 n1009 c1010 h1011 h1011l h1011c w' H E
               simp only [List.length_map] at h1011
               refine ⟨E, ?_⟩
               refine andE E fun E => ?_
               intro w' t
               refine H.cD t E (ct_big (b := big (y - lotsSum (((((l)[i]'hin).reply.returns)[j]'hjn).lots) (k))) (subB_ct ((big (y))) ((big (lotsSum (((((l)[i]'hin).reply.returns)[j]'hjn).lots) (k)))) (nb_big _) (nb_big _) (big_len' (by omega)) (big_len' (by omega))) (by rw [bv_big, bv_big])) ?_
               intro a1012 n1013 c1014 h1015 h1015l h1015c w' H E
               simp only [List.length_map] at h1015
               refine ⟨E, ?_⟩
               refine andE (E.store (by repeat (first | exact trivial | exact rfl | refine ⟨?_, ?_⟩))) fun E => ?_
               intro w' t
               refine ⟨⟨j + 1, y - lotsSum (((((l)[i]'hin).reply.returns)[j]'hjn).lots) (k), true, a1012, n1013, c1014⟩, (by first | rfl | exact xInc (by first | omega | (rw [maxLen_eq]; omega)) | simp), rfl, rfl, rfl, rfl, ⟨H.fin t 4 _, ?_⟩, ?_⟩
               ·refine ⟨hjn, ?_⟩
                rw [hS2]; omega
               ·show (l[i]'hin).reply.returns.length - (j + 1) < (l[i]'hin).reply.returns.length - j; omega
            ·have q968' := of_decide_eq_false q968
             rw [List.take_of_length_le (by omega)] at hy
             have hct := cmd_two (l[i]'hin) k
             have hS : auditSum (l.take (i + 1)) k = y := by rw [hsucc, hy, hv, hu]; unfold doneI; rw [hct]; omega
             intro w' t
             refine ⟨⟨i + 1, y, false, ya, yn, yc⟩, (by first | rfl | exact xInc (by first | omega | (rw [maxLen_eq]; omega)) | simp), rfl, rfl, ⟨H.fin t 2 _, ?_⟩, ?_⟩
             ·exact ⟨hin, hS.symm⟩
             ·show l.length - (i + 1) < l.length - i; omega
           ·apply And.intro <;> intro q1016
            ·have q1016' := of_decide_eq_true q1016
             have hjn : j < (l[i]'hin).reply.returns.length := by omega
             have hr9 : ((l[i]'hin).reply.returns[j]'hjn).ok := hx.1.2.2.2.2.1 _ (List.getElem_mem hjn)
             have hl9 : ((l[i]'hin).reply.returns[j]'hjn).lots.length ≤ 1000000 := hx.2.2 _ (List.getElem_mem hjn)
             have hcash := (show ok64 ((l[i]'hin).reply.returns[j]'hjn).cash from hr9.2.1).is
             have hlb := lots_bound ((l[i]'hin).reply.returns[j]'hjn).lots k hr9.2.2.1 hl9
             have hS2 : (((l[i]'hin).reply.returns.take (j + 1)).map fun r => backI r k).sum = (((l[i]'hin).reply.returns.take j).map fun r => backI r k).sum + backI ((l[i]'hin).reply.returns[j]'hjn) k := by rw [take_map_succ (fun r => backI r k) _ j hjn]; simp
             apply And.intro <;> intro q1017
             ·have q1017' := q1017; simp at q1017'
              have hbk : backI ((l[i]'hin).reply.returns[j]'hjn) k = ((l[i]'hin).reply.returns[j]'hjn).cash := by unfold backI; exact if_pos (by simpa using q1017)
              refine ⟨by decide +kernel, ([] : List Nat), [1], ?_⟩
              refine ⟨rfl, ?_⟩
              refine H.at (a := a924) (n := n925) (c := c926) (els := (((l)[i]'hin).reply.returns).map AReturn.r) (i := ((j : Int)).toNat) (cs := (AReturn.r ((((l)[i]'hin).reply.returns)[j]'hjn))) (by simp [hjn]) (Nat.succ_pos _) ?_
              intro ad1018 hn1019e hn1019 a1020 n1021 c1022 h1023 h1023l h1023c H hat1024l hat1024
              simp only [List.length_map] at h1023
              refine ⟨ad1018, hn1019e, (by first | exact Int.natCast_nonneg _ | omega), (by first | omega | (simp; omega)), ?_⟩
              refine ⟨fun hm => (by first | exact absurd hm (by simp; done) | exact Us.own (Us.ad (Us.ad hn1019)) (by simpa [ownBl, Own.row, oblk, Own.obj] using hm)), .int .i64 (((((l)[i]'hin).reply.returns)[j]'hjn).cash), hat1024.2.2.1, Us.box (Us.ad (Us.ad hn1019)), ?_⟩
              refine ⟨?_, ?_⟩
              ·refine andE (ExtS.refl (([] : List Nat)) [1] _ _) fun E => ?_
               intro w' t
               refine H.cD t E (ofB_ct (((((l)[i]'hin).reply.returns)[j]'hjn).cash) (by first | exact hq | exact hr9.2.1)) ?_
               intro a1025 n1026 c1027 h1028 h1028l h1028c w' H E
               simp only [List.length_map] at h1028
               refine ⟨E, ?_⟩
               intro w' t
               refine H.cD t E (ct_big (b := big (y - ((((l)[i]'hin).reply.returns)[j]'hjn).cash)) (subB_ct ((big (y))) ((big (((((l)[i]'hin).reply.returns)[j]'hjn).cash))) (nb_big _) (nb_big _) (big_len' (by omega)) (big_len' (by omega))) (by rw [bv_big, bv_big])) ?_
               intro a1029 n1030 c1031 h1032 h1032l h1032c w' H E
               simp only [List.length_map] at h1032
               refine ⟨E, ?_⟩
               refine andE (E.store (by repeat (first | exact trivial | exact rfl | refine ⟨?_, ?_⟩))) fun E => ?_
               intro w' t
               refine ⟨⟨j + 1, y - ((((l)[i]'hin).reply.returns)[j]'hjn).cash, true, a1029, n1030, c1031⟩, (by first | rfl | exact xInc (by first | omega | (rw [maxLen_eq]; omega)) | simp), rfl, rfl, rfl, rfl, ⟨H.fin t 4 _, ?_⟩, ?_⟩
               ·refine ⟨hjn, ?_⟩
                rw [hS2]; omega
               ·show (l[i]'hin).reply.returns.length - (j + 1) < (l[i]'hin).reply.returns.length - j; omega
              ·intro w' t
               refine H.cD t (ExtS.refl (([] : List Nat)) [1] _ _) (ofB_ct (((((l)[i]'hin).reply.returns)[j]'hjn).cash) (by first | exact hq | exact hr9.2.1)) ?_
               intro a1033 n1034 c1035 h1036 h1036l h1036c w' H E
               simp only [List.length_map] at h1036
               refine ⟨E, ?_⟩
               refine andE E fun E => ?_
               intro w' t
               refine H.cD t E (ct_big (b := big (y - ((((l)[i]'hin).reply.returns)[j]'hjn).cash)) (subB_ct ((big (y))) ((big (((((l)[i]'hin).reply.returns)[j]'hjn).cash))) (nb_big _) (nb_big _) (big_len' (by omega)) (big_len' (by omega))) (by rw [bv_big, bv_big])) ?_
               intro a1037 n1038 c1039 h1040 h1040l h1040c w' H E
               simp only [List.length_map] at h1040
               refine ⟨E, ?_⟩
               refine andE (E.store (by repeat (first | exact trivial | exact rfl | refine ⟨?_, ?_⟩))) fun E => ?_
               intro w' t
               refine ⟨⟨j + 1, y - ((((l)[i]'hin).reply.returns)[j]'hjn).cash, true, a1037, n1038, c1039⟩, (by first | rfl | exact xInc (by first | omega | (rw [maxLen_eq]; omega)) | simp), rfl, rfl, rfl, rfl, ⟨H.fin t 4 _, ?_⟩, ?_⟩
               ·refine ⟨hjn, ?_⟩
                rw [hS2]; omega
               ·show (l[i]'hin).reply.returns.length - (j + 1) < (l[i]'hin).reply.returns.length - j; omega
             ·have q1017' := q1017; simp at q1017'
              have hbk : backI ((l[i]'hin).reply.returns[j]'hjn) k = lotsSum ((l[i]'hin).reply.returns[j]'hjn).lots k := by unfold backI; exact if_neg (by simpa using q1017)
              refine ⟨by decide +kernel, ([] : List Nat), [1], ?_⟩
              refine ⟨rfl, ?_⟩
              refine H.at (a := a924) (n := n925) (c := c926) (els := (((l)[i]'hin).reply.returns).map AReturn.r) (i := ((j : Int)).toNat) (cs := (AReturn.r ((((l)[i]'hin).reply.returns)[j]'hjn))) (by simp [hjn]) (Nat.succ_pos _) ?_
              intro ad1041 hn1042e hn1042 a1043 n1044 c1045 h1046 h1046l h1046c H hat1047l hat1047
              simp only [List.length_map] at h1046
              refine ⟨ad1041, hn1042e, (by first | exact Int.natCast_nonneg _ | omega), (by first | omega | (simp; omega)), ?_⟩
              refine ⟨fun hm => (by first | exact absurd hm (by simp; done) | exact Us.own (Us.ad (Us.ad hn1042)) (by simpa [ownBl, Own.row, oblk, Own.obj] using hm)), .slice a1043 n1044 c1045, hat1047.2.2.2.1, Us.box (Us.ad (Us.ad hn1042)), ?_⟩
              refine ⟨?_, ?_⟩
              ·refine andE (ExtS.refl (([] : List Nat)) [1] _ _) fun E => ?_
               intro w' t
               refine H.cD t E (lotsB_ct (((((l)[i]'hin).reply.returns)[j]'hjn).lots) (k) hr9.2.2.1 hl9) ?_
               intro a1048 n1049 c1050 h1051 h1051l h1051c w' H E
               simp only [List.length_map] at h1051
               refine ⟨E, ?_⟩
               intro w' t
               refine H.cD t E (ct_big (b := big (y - lotsSum (((((l)[i]'hin).reply.returns)[j]'hjn).lots) (k))) (subB_ct ((big (y))) ((big (lotsSum (((((l)[i]'hin).reply.returns)[j]'hjn).lots) (k)))) (nb_big _) (nb_big _) (big_len' (by omega)) (big_len' (by omega))) (by rw [bv_big, bv_big])) ?_
               intro a1052 n1053 c1054 h1055 h1055l h1055c w' H E
               simp only [List.length_map] at h1055
               refine ⟨E, ?_⟩
               refine andE (E.store (by repeat (first | exact trivial | exact rfl | refine ⟨?_, ?_⟩))) fun E => ?_
               intro w' t
               refine ⟨⟨j + 1, y - lotsSum (((((l)[i]'hin).reply.returns)[j]'hjn).lots) (k), true, a1052, n1053, c1054⟩, (by first | rfl | exact xInc (by first | omega | (rw [maxLen_eq]; omega)) | simp), rfl, rfl, rfl, rfl, ⟨H.fin t 4 _, ?_⟩, ?_⟩
               ·refine ⟨hjn, ?_⟩
                rw [hS2]; omega
               ·show (l[i]'hin).reply.returns.length - (j + 1) < (l[i]'hin).reply.returns.length - j; omega
              ·intro w' t
               refine H.cD t (ExtS.refl (([] : List Nat)) [1] _ _) (lotsB_ct (((((l)[i]'hin).reply.returns)[j]'hjn).lots) (k) hr9.2.2.1 hl9) ?_
               intro a1056 n1057 c1058 h1059 h1059l h1059c w' H E
               simp only [List.length_map] at h1059
               refine ⟨E, ?_⟩
               refine andE E fun E => ?_
               intro w' t
               refine H.cD t E (ct_big (b := big (y - lotsSum (((((l)[i]'hin).reply.returns)[j]'hjn).lots) (k))) (subB_ct ((big (y))) ((big (lotsSum (((((l)[i]'hin).reply.returns)[j]'hjn).lots) (k)))) (nb_big _) (nb_big _) (big_len' (by omega)) (big_len' (by omega))) (by rw [bv_big, bv_big])) ?_
               intro a1060 n1061 c1062 h1063 h1063l h1063c w' H E
               simp only [List.length_map] at h1063
               refine ⟨E, ?_⟩
               refine andE (E.store (by repeat (first | exact trivial | exact rfl | refine ⟨?_, ?_⟩))) fun E => ?_
               intro w' t
               refine ⟨⟨j + 1, y - lotsSum (((((l)[i]'hin).reply.returns)[j]'hjn).lots) (k), true, a1060, n1061, c1062⟩, (by first | rfl | exact xInc (by first | omega | (rw [maxLen_eq]; omega)) | simp), rfl, rfl, rfl, rfl, ⟨H.fin t 4 _, ?_⟩, ?_⟩
               ·refine ⟨hjn, ?_⟩
                rw [hS2]; omega
               ·show (l[i]'hin).reply.returns.length - (j + 1) < (l[i]'hin).reply.returns.length - j; omega
            ·have q1016' := of_decide_eq_false q1016
             rw [List.take_of_length_le (by omega)] at hy
             have hct := cmd_two (l[i]'hin) k
             have hS : auditSum (l.take (i + 1)) k = y := by rw [hsucc, hy, hv, hu]; unfold doneI; rw [hct]; omega
             intro w' t
             refine ⟨⟨i + 1, y, true, ya, yn, yc⟩, (by first | rfl | exact xInc (by first | omega | (rw [maxLen_eq]; omega)) | simp), rfl, rfl, ⟨H.fin t 2 _, ?_⟩, ?_⟩
             ·exact ⟨hin, hS.symm⟩
             ·show l.length - (i + 1) < l.length - i; omega
         ·refine ⟨[9, 58, 59, 60, 61, 62, 63, 64, 65, 66, 67, 68, 69, 70, 71, 72, 73, 74, 75, 76, 77, 78, 79, 80, 81, 82, 83, 84, 85],
            { X := (Nat) × (Int) × (Bool) × (Option Addr) × (Nat) × (Nat), slots := [9], vals := fun (j, y, k3, ya, yn, yc) => [.int .i64 ((j : Int))], boxes := [1], cells := fun (j, y, k3, ya, yn, yc) => [[(bif k3 then XV.bool ((big (y)).neg) else XV.lit ((big (y)).neg)), .slc ya yn yc]],
              inv := fun (j, y, k3, ya, yn, yc) w' => Ctx w U [] [b5, b6, b929, b930] [] [(.slice a1 n2 c3, .sl 18 ((l).map ADone.r)), (.slice a912 n913 c914, .sl 1 ((((l)[i]'hin).command.numbers).map (fun x => [R.val (.int .i64 x)]))), (.slice a916 n917 c918, .sl 1 ((((l)[i]'hin).reply.numbers).map (fun x => [R.val (.int .i64 x)]))), (.slice a920 n921 c922, .sl 5 ((((l)[i]'hin).reply.debits).map ADebit.r)), (.slice a924 n925 c926, .sl 4 ((((l)[i]'hin).reply.returns).map AReturn.r)), (.slice ya yn yc, .sl 1 (((big (y)).b).map (fun x => [R.val (.int .u8 x)])))] w' ∧ (j ≤ (l[i]'hin).reply.returns.length ∧ y = v - (((l[i]'hin).reply.returns.take j).map fun r => backI r k).sum), μ := fun (j, y, k3, ya, yn, yc) => (l[i]'hin).reply.returns.length - j }, by kernel_rfl, ?_, ?_, ?_⟩
          ·rintro ⟨j, y, k3, ya, yn, yc⟩; cases k3 <;> exact ⟨⟨trivial, trivial⟩, ⟨trivial, trivial, trivial⟩, trivial⟩
          ·intro w' t
           refine ⟨⟨0, v, true, va, vn, vc⟩, rfl, rfl, rfl, rfl, rfl, H.fin t 4 _, ?_⟩
           exact ⟨Nat.zero_le _, by simp⟩
          ·rintro ⟨j, y, k3, ya, yn, yc⟩ w' ⟨H, hI⟩
           obtain ⟨hj, hy⟩ := hI
           have hsb := sum_bound (fun r => backI r k) (9223372036854775808 * 1000000) ((l[i]'hin).reply.returns.take j) (fun r hr => hbr r (List.mem_of_mem_take hr))
           have htl : ((l[i]'hin).reply.returns.take j).length ≤ 900 := by rw [List.length_take]; omega
           cases k3
           ·apply And.intro <;> intro q1064
            ·have q1064' := of_decide_eq_true q1064
             have hjn : j < (l[i]'hin).reply.returns.length := by omega
             have hr9 : ((l[i]'hin).reply.returns[j]'hjn).ok := hx.1.2.2.2.2.1 _ (List.getElem_mem hjn)
             have hl9 : ((l[i]'hin).reply.returns[j]'hjn).lots.length ≤ 1000000 := hx.2.2 _ (List.getElem_mem hjn)
             have hcash := (show ok64 ((l[i]'hin).reply.returns[j]'hjn).cash from hr9.2.1).is
             have hlb := lots_bound ((l[i]'hin).reply.returns[j]'hjn).lots k hr9.2.2.1 hl9
             have hS2 : (((l[i]'hin).reply.returns.take (j + 1)).map fun r => backI r k).sum = (((l[i]'hin).reply.returns.take j).map fun r => backI r k).sum + backI ((l[i]'hin).reply.returns[j]'hjn) k := by rw [take_map_succ (fun r => backI r k) _ j hjn]; simp
             apply And.intro <;> intro q1065
             ·have q1065' := q1065; simp at q1065'
              have hbk : backI ((l[i]'hin).reply.returns[j]'hjn) k = ((l[i]'hin).reply.returns[j]'hjn).cash := by unfold backI; exact if_pos (by simpa using q1065)
              refine ⟨by decide +kernel, ([] : List Nat), [1], ?_⟩
              refine ⟨rfl, ?_⟩
              refine H.at (a := a924) (n := n925) (c := c926) (els := (((l)[i]'hin).reply.returns).map AReturn.r) (i := ((j : Int)).toNat) (cs := (AReturn.r ((((l)[i]'hin).reply.returns)[j]'hjn))) (by simp [hjn]) (Nat.succ_pos _) ?_
              intro ad1066 hn1067e hn1067 a1068 n1069 c1070 h1071 h1071l h1071c H hat1072l hat1072
              simp only [List.length_map] at h1071
              refine ⟨ad1066, hn1067e, (by first | exact Int.natCast_nonneg _ | omega), (by first | omega | (simp; omega)), ?_⟩
              refine ⟨fun hm => (by first | exact absurd hm (by simp; done) | exact Us.own (Us.ad (Us.ad hn1067)) (by simpa [ownBl, Own.row, oblk, Own.obj] using hm)), .int .i64 (((((l)[i]'hin).reply.returns)[j]'hjn).cash), hat1072.2.2.1, Us.box (Us.ad (Us.ad hn1067)), ?_⟩
              refine ⟨?_, ?_⟩
              ·refine andE (ExtS.refl (([] : List Nat)) [1] _ _) fun E => ?_
               intro w' t
               refine H.cD t E (ofB_ct (((((l)[i]'hin).reply.returns)[j]'hjn).cash) (by first | exact hq | exact hr9.2.1)) ?_
               intro a1073 n1074 c1075 h1076 h1076l h1076c w' H E
               simp only [List.length_map] at h1076
               refine ⟨E, ?_⟩
               intro w' t
               refine H.cD t E (ct_big (b := big (y - ((((l)[i]'hin).reply.returns)[j]'hjn).cash)) (subB_ct ((big (y))) ((big (((((l)[i]'hin).reply.returns)[j]'hjn).cash))) (nb_big _) (nb_big _) (big_len' (by omega)) (big_len' (by omega))) (by rw [bv_big, bv_big])) ?_
               intro a1077 n1078 c1079 h1080 h1080l h1080c w' H E
               simp only [List.length_map] at h1080
               refine ⟨E, ?_⟩
               refine andE (E.store (by repeat (first | exact trivial | exact rfl | refine ⟨?_, ?_⟩))) fun E => ?_
               intro w' t
               refine ⟨⟨j + 1, y - ((((l)[i]'hin).reply.returns)[j]'hjn).cash, true, a1077, n1078, c1079⟩, (by first | rfl | exact xInc (by first | omega | (rw [maxLen_eq]; omega)) | simp), rfl, rfl, rfl, rfl, ⟨H.fin t 4 _, ?_⟩, ?_⟩
               ·refine ⟨hjn, ?_⟩
                rw [hS2]; omega
               ·show (l[i]'hin).reply.returns.length - (j + 1) < (l[i]'hin).reply.returns.length - j; omega
              ·intro w' t
               refine H.cD t (ExtS.refl (([] : List Nat)) [1] _ _) (ofB_ct (((((l)[i]'hin).reply.returns)[j]'hjn).cash) (by first | exact hq | exact hr9.2.1)) ?_
               intro a1081 n1082 c1083 h1084 h1084l h1084c w' H E
               simp only [List.length_map] at h1084
               refine ⟨E, ?_⟩
               refine andE E fun E => ?_
               intro w' t
               refine H.cD t E (ct_big (b := big (y - ((((l)[i]'hin).reply.returns)[j]'hjn).cash)) (subB_ct ((big (y))) ((big (((((l)[i]'hin).reply.returns)[j]'hjn).cash))) (nb_big _) (nb_big _) (big_len' (by omega)) (big_len' (by omega))) (by rw [bv_big, bv_big])) ?_
               intro a1085 n1086 c1087 h1088 h1088l h1088c w' H E
               simp only [List.length_map] at h1088
               refine ⟨E, ?_⟩
               refine andE (E.store (by repeat (first | exact trivial | exact rfl | refine ⟨?_, ?_⟩))) fun E => ?_
               intro w' t
               refine ⟨⟨j + 1, y - ((((l)[i]'hin).reply.returns)[j]'hjn).cash, true, a1085, n1086, c1087⟩, (by first | rfl | exact xInc (by first | omega | (rw [maxLen_eq]; omega)) | simp), rfl, rfl, rfl, rfl, ⟨H.fin t 4 _, ?_⟩, ?_⟩
               ·refine ⟨hjn, ?_⟩
                rw [hS2]; omega
               ·show (l[i]'hin).reply.returns.length - (j + 1) < (l[i]'hin).reply.returns.length - j; omega
             ·have q1065' := q1065; simp at q1065'
              have hbk : backI ((l[i]'hin).reply.returns[j]'hjn) k = lotsSum ((l[i]'hin).reply.returns[j]'hjn).lots k := by unfold backI; exact if_neg (by simpa using q1065)
              refine ⟨by decide +kernel, ([] : List Nat), [1], ?_⟩
              refine ⟨rfl, ?_⟩
              refine H.at (a := a924) (n := n925) (c := c926) (els := (((l)[i]'hin).reply.returns).map AReturn.r) (i := ((j : Int)).toNat) (cs := (AReturn.r ((((l)[i]'hin).reply.returns)[j]'hjn))) (by simp [hjn]) (Nat.succ_pos _) ?_
              intro ad1089 hn1090e hn1090 a1091 n1092 c1093 h1094 h1094l h1094c H hat1095l hat1095
              simp only [List.length_map] at h1094
              refine ⟨ad1089, hn1090e, (by first | exact Int.natCast_nonneg _ | omega), (by first | omega | (simp; omega)), ?_⟩
              refine ⟨fun hm => (by first | exact absurd hm (by simp; done) | exact Us.own (Us.ad (Us.ad hn1090)) (by simpa [ownBl, Own.row, oblk, Own.obj] using hm)), .slice a1091 n1092 c1093, hat1095.2.2.2.1, Us.box (Us.ad (Us.ad hn1090)), ?_⟩
              refine ⟨?_, ?_⟩
              ·refine andE (ExtS.refl (([] : List Nat)) [1] _ _) fun E => ?_
               intro w' t
               refine H.cD t E (lotsB_ct (((((l)[i]'hin).reply.returns)[j]'hjn).lots) (k) hr9.2.2.1 hl9) ?_
               intro a1096 n1097 c1098 h1099 h1099l h1099c w' H E
               simp only [List.length_map] at h1099
               refine ⟨E, ?_⟩
               intro w' t
               refine H.cD t E (ct_big (b := big (y - lotsSum (((((l)[i]'hin).reply.returns)[j]'hjn).lots) (k))) (subB_ct ((big (y))) ((big (lotsSum (((((l)[i]'hin).reply.returns)[j]'hjn).lots) (k)))) (nb_big _) (nb_big _) (big_len' (by omega)) (big_len' (by omega))) (by rw [bv_big, bv_big])) ?_
               intro a1100 n1101 c1102 h1103 h1103l h1103c w' H E
               simp only [List.length_map] at h1103
               refine ⟨E, ?_⟩
               refine andE (E.store (by repeat (first | exact trivial | exact rfl | refine ⟨?_, ?_⟩))) fun E => ?_
               intro w' t
               refine ⟨⟨j + 1, y - lotsSum (((((l)[i]'hin).reply.returns)[j]'hjn).lots) (k), true, a1100, n1101, c1102⟩, (by first | rfl | exact xInc (by first | omega | (rw [maxLen_eq]; omega)) | simp), rfl, rfl, rfl, rfl, ⟨H.fin t 4 _, ?_⟩, ?_⟩
               ·refine ⟨hjn, ?_⟩
                rw [hS2]; omega
               ·show (l[i]'hin).reply.returns.length - (j + 1) < (l[i]'hin).reply.returns.length - j; omega
              ·intro w' t
               refine H.cD t (ExtS.refl (([] : List Nat)) [1] _ _) (lotsB_ct (((((l)[i]'hin).reply.returns)[j]'hjn).lots) (k) hr9.2.2.1 hl9) ?_
               intro a1104 n1105 c1106 h1107 h1107l h1107c w' H E
               simp only [List.length_map] at h1107
               refine ⟨E, ?_⟩
               refine andE E fun E => ?_
               intro w' t
               refine H.cD t E (ct_big (b := big (y - lotsSum (((((l)[i]'hin).reply.returns)[j]'hjn).lots) (k))) (subB_ct ((big (y))) ((big (lotsSum (((((l)[i]'hin).reply.returns)[j]'hjn).lots) (k)))) (nb_big _) (nb_big _) (big_len' (by omega)) (big_len' (by omega))) (by rw [bv_big, bv_big])) ?_
               intro a1108 n1109 c1110 h1111 h1111l h1111c w' H E
               simp only [List.length_map] at h1111
               refine ⟨E, ?_⟩
               refine andE (E.store (by repeat (first | exact trivial | exact rfl | refine ⟨?_, ?_⟩))) fun E => ?_
               intro w' t
               refine ⟨⟨j + 1, y - lotsSum (((((l)[i]'hin).reply.returns)[j]'hjn).lots) (k), true, a1108, n1109, c1110⟩, (by first | rfl | exact xInc (by first | omega | (rw [maxLen_eq]; omega)) | simp), rfl, rfl, rfl, rfl, ⟨H.fin t 4 _, ?_⟩, ?_⟩
               ·refine ⟨hjn, ?_⟩
                rw [hS2]; omega
               ·show (l[i]'hin).reply.returns.length - (j + 1) < (l[i]'hin).reply.returns.length - j; omega
            ·have q1064' := of_decide_eq_false q1064
             rw [List.take_of_length_le (by omega)] at hy
             have hct := cmd_two (l[i]'hin) k
             have hS : auditSum (l.take (i + 1)) k = y := by rw [hsucc, hy, hv, hu]; unfold doneI; rw [hct]; omega
             intro w' t
             refine ⟨⟨i + 1, y, false, ya, yn, yc⟩, (by first | rfl | exact xInc (by first | omega | (rw [maxLen_eq]; omega)) | simp), rfl, rfl, ⟨H.fin t 2 _, ?_⟩, ?_⟩
             ·exact ⟨hin, hS.symm⟩
             ·show l.length - (i + 1) < l.length - i; omega
           ·apply And.intro <;> intro q1112
            ·have q1112' := of_decide_eq_true q1112
             have hjn : j < (l[i]'hin).reply.returns.length := by omega
             have hr9 : ((l[i]'hin).reply.returns[j]'hjn).ok := hx.1.2.2.2.2.1 _ (List.getElem_mem hjn)
             have hl9 : ((l[i]'hin).reply.returns[j]'hjn).lots.length ≤ 1000000 := hx.2.2 _ (List.getElem_mem hjn)
             have hcash := (show ok64 ((l[i]'hin).reply.returns[j]'hjn).cash from hr9.2.1).is
             have hlb := lots_bound ((l[i]'hin).reply.returns[j]'hjn).lots k hr9.2.2.1 hl9
             have hS2 : (((l[i]'hin).reply.returns.take (j + 1)).map fun r => backI r k).sum = (((l[i]'hin).reply.returns.take j).map fun r => backI r k).sum + backI ((l[i]'hin).reply.returns[j]'hjn) k := by rw [take_map_succ (fun r => backI r k) _ j hjn]; simp
             apply And.intro <;> intro q1113
             ·have q1113' := q1113; simp at q1113'
              have hbk : backI ((l[i]'hin).reply.returns[j]'hjn) k = ((l[i]'hin).reply.returns[j]'hjn).cash := by unfold backI; exact if_pos (by simpa using q1113)
              refine ⟨by decide +kernel, ([] : List Nat), [1], ?_⟩
              refine ⟨rfl, ?_⟩
              refine H.at (a := a924) (n := n925) (c := c926) (els := (((l)[i]'hin).reply.returns).map AReturn.r) (i := ((j : Int)).toNat) (cs := (AReturn.r ((((l)[i]'hin).reply.returns)[j]'hjn))) (by simp [hjn]) (Nat.succ_pos _) ?_
              intro ad1114 hn1115e hn1115 a1116 n1117 c1118 h1119 h1119l h1119c H hat1120l hat1120
              simp only [List.length_map] at h1119
              refine ⟨ad1114, hn1115e, (by first | exact Int.natCast_nonneg _ | omega), (by first | omega | (simp; omega)), ?_⟩
              refine ⟨fun hm => (by first | exact absurd hm (by simp; done) | exact Us.own (Us.ad (Us.ad hn1115)) (by simpa [ownBl, Own.row, oblk, Own.obj] using hm)), .int .i64 (((((l)[i]'hin).reply.returns)[j]'hjn).cash), hat1120.2.2.1, Us.box (Us.ad (Us.ad hn1115)), ?_⟩
              refine ⟨?_, ?_⟩
              ·refine andE (ExtS.refl (([] : List Nat)) [1] _ _) fun E => ?_
               intro w' t
               refine H.cD t E (ofB_ct (((((l)[i]'hin).reply.returns)[j]'hjn).cash) (by first | exact hq | exact hr9.2.1)) ?_
               intro a1121 n1122 c1123 h1124 h1124l h1124c w' H E
               simp only [List.length_map] at h1124
               refine ⟨E, ?_⟩
               intro w' t
               refine H.cD t E (ct_big (b := big (y - ((((l)[i]'hin).reply.returns)[j]'hjn).cash)) (subB_ct ((big (y))) ((big (((((l)[i]'hin).reply.returns)[j]'hjn).cash))) (nb_big _) (nb_big _) (big_len' (by omega)) (big_len' (by omega))) (by rw [bv_big, bv_big])) ?_
               intro a1125 n1126 c1127 h1128 h1128l h1128c w' H E
               simp only [List.length_map] at h1128
               refine ⟨E, ?_⟩
               refine andE (E.store (by repeat (first | exact trivial | exact rfl | refine ⟨?_, ?_⟩))) fun E => ?_
               intro w' t
               refine ⟨⟨j + 1, y - ((((l)[i]'hin).reply.returns)[j]'hjn).cash, true, a1125, n1126, c1127⟩, (by first | rfl | exact xInc (by first | omega | (rw [maxLen_eq]; omega)) | simp), rfl, rfl, rfl, rfl, ⟨H.fin t 4 _, ?_⟩, ?_⟩
               ·refine ⟨hjn, ?_⟩
                rw [hS2]; omega
               ·show (l[i]'hin).reply.returns.length - (j + 1) < (l[i]'hin).reply.returns.length - j; omega
              ·intro w' t
               refine H.cD t (ExtS.refl (([] : List Nat)) [1] _ _) (ofB_ct (((((l)[i]'hin).reply.returns)[j]'hjn).cash) (by first | exact hq | exact hr9.2.1)) ?_
               intro a1129 n1130 c1131 h1132 h1132l h1132c w' H E
               simp only [List.length_map] at h1132
               refine ⟨E, ?_⟩
               refine andE E fun E => ?_
               intro w' t
               refine H.cD t E (ct_big (b := big (y - ((((l)[i]'hin).reply.returns)[j]'hjn).cash)) (subB_ct ((big (y))) ((big (((((l)[i]'hin).reply.returns)[j]'hjn).cash))) (nb_big _) (nb_big _) (big_len' (by omega)) (big_len' (by omega))) (by rw [bv_big, bv_big])) ?_
               intro a1133 n1134 c1135 h1136 h1136l h1136c w' H E
               simp only [List.length_map] at h1136
               refine ⟨E, ?_⟩
               refine andE (E.store (by repeat (first | exact trivial | exact rfl | refine ⟨?_, ?_⟩))) fun E => ?_
               intro w' t
               refine ⟨⟨j + 1, y - ((((l)[i]'hin).reply.returns)[j]'hjn).cash, true, a1133, n1134, c1135⟩, (by first | rfl | exact xInc (by first | omega | (rw [maxLen_eq]; omega)) | simp), rfl, rfl, rfl, rfl, ⟨H.fin t 4 _, ?_⟩, ?_⟩
               ·refine ⟨hjn, ?_⟩
                rw [hS2]; omega
               ·show (l[i]'hin).reply.returns.length - (j + 1) < (l[i]'hin).reply.returns.length - j; omega
             ·have q1113' := q1113; simp at q1113'
              have hbk : backI ((l[i]'hin).reply.returns[j]'hjn) k = lotsSum ((l[i]'hin).reply.returns[j]'hjn).lots k := by unfold backI; exact if_neg (by simpa using q1113)
              refine ⟨by decide +kernel, ([] : List Nat), [1], ?_⟩
              refine ⟨rfl, ?_⟩
              refine H.at (a := a924) (n := n925) (c := c926) (els := (((l)[i]'hin).reply.returns).map AReturn.r) (i := ((j : Int)).toNat) (cs := (AReturn.r ((((l)[i]'hin).reply.returns)[j]'hjn))) (by simp [hjn]) (Nat.succ_pos _) ?_
              intro ad1137 hn1138e hn1138 a1139 n1140 c1141 h1142 h1142l h1142c H hat1143l hat1143
              simp only [List.length_map] at h1142
              refine ⟨ad1137, hn1138e, (by first | exact Int.natCast_nonneg _ | omega), (by first | omega | (simp; omega)), ?_⟩
              refine ⟨fun hm => (by first | exact absurd hm (by simp; done) | exact Us.own (Us.ad (Us.ad hn1138)) (by simpa [ownBl, Own.row, oblk, Own.obj] using hm)), .slice a1139 n1140 c1141, hat1143.2.2.2.1, Us.box (Us.ad (Us.ad hn1138)), ?_⟩
              refine ⟨?_, ?_⟩
              ·refine andE (ExtS.refl (([] : List Nat)) [1] _ _) fun E => ?_
               intro w' t
               refine H.cD t E (lotsB_ct (((((l)[i]'hin).reply.returns)[j]'hjn).lots) (k) hr9.2.2.1 hl9) ?_
               intro a1144 n1145 c1146 h1147 h1147l h1147c w' H E
               simp only [List.length_map] at h1147
               refine ⟨E, ?_⟩
               intro w' t
               refine H.cD t E (ct_big (b := big (y - lotsSum (((((l)[i]'hin).reply.returns)[j]'hjn).lots) (k))) (subB_ct ((big (y))) ((big (lotsSum (((((l)[i]'hin).reply.returns)[j]'hjn).lots) (k)))) (nb_big _) (nb_big _) (big_len' (by omega)) (big_len' (by omega))) (by rw [bv_big, bv_big])) ?_
               intro a1148 n1149 c1150 h1151 h1151l h1151c w' H E
               simp only [List.length_map] at h1151
               refine ⟨E, ?_⟩
               refine andE (E.store (by repeat (first | exact trivial | exact rfl | refine ⟨?_, ?_⟩))) fun E => ?_
               intro w' t
               refine ⟨⟨j + 1, y - lotsSum (((((l)[i]'hin).reply.returns)[j]'hjn).lots) (k), true, a1148, n1149, c1150⟩, (by first | rfl | exact xInc (by first | omega | (rw [maxLen_eq]; omega)) | simp), rfl, rfl, rfl, rfl, ⟨H.fin t 4 _, ?_⟩, ?_⟩
               ·refine ⟨hjn, ?_⟩
                rw [hS2]; omega
               ·show (l[i]'hin).reply.returns.length - (j + 1) < (l[i]'hin).reply.returns.length - j; omega
              ·intro w' t
               refine H.cD t (ExtS.refl (([] : List Nat)) [1] _ _) (lotsB_ct (((((l)[i]'hin).reply.returns)[j]'hjn).lots) (k) hr9.2.2.1 hl9) ?_
               intro a1152 n1153 c1154 h1155 h1155l h1155c w' H E
               simp only [List.length_map] at h1155
               refine ⟨E, ?_⟩
               refine andE E fun E => ?_
               intro w' t
               refine H.cD t E (ct_big (b := big (y - lotsSum (((((l)[i]'hin).reply.returns)[j]'hjn).lots) (k))) (subB_ct ((big (y))) ((big (lotsSum (((((l)[i]'hin).reply.returns)[j]'hjn).lots) (k)))) (nb_big _) (nb_big _) (big_len' (by omega)) (big_len' (by omega))) (by rw [bv_big, bv_big])) ?_
               intro a1156 n1157 c1158 h1159 h1159l h1159c w' H E
               simp only [List.length_map] at h1159
               refine ⟨E, ?_⟩
               refine andE (E.store (by repeat (first | exact trivial | exact rfl | refine ⟨?_, ?_⟩))) fun E => ?_
               intro w' t
               refine ⟨⟨j + 1, y - lotsSum (((((l)[i]'hin).reply.returns)[j]'hjn).lots) (k), true, a1156, n1157, c1158⟩, (by first | rfl | exact xInc (by first | omega | (rw [maxLen_eq]; omega)) | simp), rfl, rfl, rfl, rfl, ⟨H.fin t 4 _, ?_⟩, ?_⟩
               ·refine ⟨hjn, ?_⟩
                rw [hS2]; omega
               ·show (l[i]'hin).reply.returns.length - (j + 1) < (l[i]'hin).reply.returns.length - j; omega
            ·have q1112' := of_decide_eq_false q1112
             rw [List.take_of_length_le (by omega)] at hy
             have hct := cmd_two (l[i]'hin) k
             have hS : auditSum (l.take (i + 1)) k = y := by rw [hsucc, hy, hv, hu]; unfold doneI; rw [hct]; omega
             intro w' t
             refine ⟨⟨i + 1, y, true, ya, yn, yc⟩, (by first | rfl | exact xInc (by first | omega | (rw [maxLen_eq]; omega)) | simp), rfl, rfl, ⟨H.fin t 2 _, ?_⟩, ?_⟩
             ·exact ⟨hin, hS.symm⟩
             ·show l.length - (i + 1) < l.length - i; omega
       ·refine ⟨[44, 45, 46, 47, 48, 49, 50, 51, 52, 53, 54, 55, 56, 57],
          { X := (Int) × (Bool) × (Option Addr) × (Nat) × (Nat), slots := [], vals := fun (v, k2, va, vn, vc) => [], boxes := [1], cells := fun (v, k2, va, vn, vc) => [[(bif k2 then XV.bool ((big (v)).neg) else XV.lit ((big (v)).neg)), .slc va vn vc]],
            inv := fun (v, k2, va, vn, vc) w' => Ctx w U [] [b5, b6, b929, b930] [] [(.slice a1 n2 c3, .sl 18 ((l).map ADone.r)), (.slice a912 n913 c914, .sl 1 ((((l)[i]'hin).command.numbers).map (fun x => [R.val (.int .i64 x)]))), (.slice a916 n917 c918, .sl 1 ((((l)[i]'hin).reply.numbers).map (fun x => [R.val (.int .i64 x)]))), (.slice a920 n921 c922, .sl 5 ((((l)[i]'hin).reply.debits).map ADebit.r)), (.slice a924 n925 c926, .sl 4 ((((l)[i]'hin).reply.returns).map AReturn.r)), (.slice va vn vc, .sl 1 (((big (v)).b).map (fun x => [R.val (.int .u8 x)])))] w' ∧ (v = u - (if (l[i]'hin).command.asset = k ∧ (l[i]'hin).command.op = 18 then (l[i]'hin).command.qty else 0)), μ := fun _ => 0 }, fun (v, k2, va, vn, vc) => [], by kernel_rfl, ?_, ?_, ?_⟩
        ·rintro ⟨v, k2, va, vn, vc⟩; cases k2 <;> exact ⟨trivial, ⟨trivial, trivial, trivial⟩, trivial⟩
        ·apply And.intro <;> intro q1160
         ·have q1160' := q1160; simp at q1160'
          have ha : (l[i]'hin).command.asset = k := by simpa using q1160
          apply And.intro <;> intro q1161
          ·have q1161' := q1161; simp at q1161'
           have h18 : (l[i]'hin).command.op = 18 := by simpa using q1161
           refine ⟨by decide +kernel, ([] : List Nat), [1], ?_⟩
           refine ⟨rfl, ?_⟩
           refine ⟨?_, ?_⟩
           ·refine andE (ExtS.refl (([] : List Nat)) [1] _ _) fun E => ?_
            intro w' t
            refine H.cD t E (ofB_ct (((l)[i]'hin).command.qty) (by first | exact hq | exact hr9.2.1)) ?_
            intro a1162 n1163 c1164 h1165 h1165l h1165c w' H E
            simp only [List.length_map] at h1165
            refine ⟨E, ?_⟩
            intro w' t
            refine H.cD t E (ct_big (b := big (u - ((l)[i]'hin).command.qty)) (subB_ct ((big (u))) ((big (((l)[i]'hin).command.qty))) (nb_big _) (nb_big _) (big_len' (by omega)) (big_len' (by omega))) (by rw [bv_big, bv_big])) ?_
            intro a1166 n1167 c1168 h1169 h1169l h1169c w' H E
            simp only [List.length_map] at h1169
            refine ⟨E, ?_⟩
            refine andE (E.store (by repeat (first | exact trivial | exact rfl | refine ⟨?_, ?_⟩))) fun E => ?_
            intro w' t
            refine ⟨⟨u - ((l)[i]'hin).command.qty, true, a1166, n1167, c1168⟩, rfl, rfl, rfl, rfl, H.fin t 4 _, ?_⟩
            first | (rw [if_pos ⟨ha, h18⟩]; done) | (rw [if_neg (fun hh => h18 hh.2)]; omega) | (rw [if_neg (fun hh => ha hh.1)]; omega)
           ·intro w' t
            refine H.cD t (ExtS.refl (([] : List Nat)) [1] _ _) (ofB_ct (((l)[i]'hin).command.qty) (by first | exact hq | exact hr9.2.1)) ?_
            intro a1170 n1171 c1172 h1173 h1173l h1173c w' H E
            simp only [List.length_map] at h1173
            refine ⟨E, ?_⟩
            refine andE E fun E => ?_
            intro w' t
            refine H.cD t E (ct_big (b := big (u - ((l)[i]'hin).command.qty)) (subB_ct ((big (u))) ((big (((l)[i]'hin).command.qty))) (nb_big _) (nb_big _) (big_len' (by omega)) (big_len' (by omega))) (by rw [bv_big, bv_big])) ?_
            intro a1174 n1175 c1176 h1177 h1177l h1177c w' H E
            simp only [List.length_map] at h1177
            refine ⟨E, ?_⟩
            refine andE (E.store (by repeat (first | exact trivial | exact rfl | refine ⟨?_, ?_⟩))) fun E => ?_
            intro w' t
            refine ⟨⟨u - ((l)[i]'hin).command.qty, true, a1174, n1175, c1176⟩, rfl, rfl, rfl, rfl, H.fin t 4 _, ?_⟩
            first | (rw [if_pos ⟨ha, h18⟩]; done) | (rw [if_neg (fun hh => h18 hh.2)]; omega) | (rw [if_neg (fun hh => ha hh.1)]; omega)
          ·have q1161' := q1161; simp at q1161'
           have h18 : ¬ (l[i]'hin).command.op = 18 := by simpa using q1161
           intro w' t
           refine ⟨⟨u, true, ua, un, uc⟩, rfl, rfl, rfl, rfl, H.fin t 4 _, ?_⟩
           first | (rw [if_pos ⟨ha, h18⟩]; done) | (rw [if_neg (fun hh => h18 hh.2)]; omega) | (rw [if_neg (fun hh => ha hh.1)]; omega)
         ·have q1160' := q1160; simp at q1160'
          have ha : ¬ (l[i]'hin).command.asset = k := by simpa using q1160
          intro w' t
          refine ⟨⟨u, true, ua, un, uc⟩, rfl, rfl, rfl, rfl, H.fin t 4 _, ?_⟩
          first | (rw [if_pos ⟨ha, h18⟩]; done) | (rw [if_neg (fun hh => h18 hh.2)]; omega) | (rw [if_neg (fun hh => ha hh.1)]; omega)
        ·rintro ⟨v, k2, va, vn, vc⟩ w' ⟨H, hI⟩
         have hv := hI
         have hbv : u - 9223372036854775808 ≤ v ∧ v ≤ u + 9223372036854775808 := by rw [hv]; split <;> omega
         cases k2
         ·refine ⟨[9, 58, 59, 60, 61, 62, 63, 64, 65, 66, 67, 68, 69, 70, 71, 72, 73, 74, 75, 76, 77, 78, 79, 80, 81, 82, 83, 84, 85],
            { X := (Nat) × (Int) × (Bool) × (Option Addr) × (Nat) × (Nat), slots := [9], vals := fun (j, y, k3, ya, yn, yc) => [.int .i64 ((j : Int))], boxes := [1], cells := fun (j, y, k3, ya, yn, yc) => [[(bif k3 then XV.bool ((big (y)).neg) else XV.lit ((big (y)).neg)), .slc ya yn yc]],
              inv := fun (j, y, k3, ya, yn, yc) w' => Ctx w U [] [b5, b6, b929, b930] [] [(.slice a1 n2 c3, .sl 18 ((l).map ADone.r)), (.slice a912 n913 c914, .sl 1 ((((l)[i]'hin).command.numbers).map (fun x => [R.val (.int .i64 x)]))), (.slice a916 n917 c918, .sl 1 ((((l)[i]'hin).reply.numbers).map (fun x => [R.val (.int .i64 x)]))), (.slice a920 n921 c922, .sl 5 ((((l)[i]'hin).reply.debits).map ADebit.r)), (.slice a924 n925 c926, .sl 4 ((((l)[i]'hin).reply.returns).map AReturn.r)), (.slice ya yn yc, .sl 1 (((big (y)).b).map (fun x => [R.val (.int .u8 x)])))] w' ∧ (j ≤ (l[i]'hin).reply.returns.length ∧ y = v - (((l[i]'hin).reply.returns.take j).map fun r => backI r k).sum), μ := fun (j, y, k3, ya, yn, yc) => (l[i]'hin).reply.returns.length - j }, by kernel_rfl, ?_, ?_, ?_⟩
          ·rintro ⟨j, y, k3, ya, yn, yc⟩; cases k3 <;> exact ⟨⟨trivial, trivial⟩, ⟨trivial, trivial, trivial⟩, trivial⟩
          ·intro w' t
           refine ⟨⟨0, v, false, va, vn, vc⟩, rfl, rfl, rfl, rfl, rfl, H.fin t 4 _, ?_⟩
           exact ⟨Nat.zero_le _, by simp⟩
          ·rintro ⟨j, y, k3, ya, yn, yc⟩ w' ⟨H, hI⟩
           obtain ⟨hj, hy⟩ := hI
           have hsb := sum_bound (fun r => backI r k) (9223372036854775808 * 1000000) ((l[i]'hin).reply.returns.take j) (fun r hr => hbr r (List.mem_of_mem_take hr))
           have htl : ((l[i]'hin).reply.returns.take j).length ≤ 900 := by rw [List.length_take]; omega
           cases k3
           ·apply And.intro <;> intro q1178
            ·have q1178' := of_decide_eq_true q1178
             have hjn : j < (l[i]'hin).reply.returns.length := by omega
             have hr9 : ((l[i]'hin).reply.returns[j]'hjn).ok := hx.1.2.2.2.2.1 _ (List.getElem_mem hjn)
             have hl9 : ((l[i]'hin).reply.returns[j]'hjn).lots.length ≤ 1000000 := hx.2.2 _ (List.getElem_mem hjn)
             have hcash := (show ok64 ((l[i]'hin).reply.returns[j]'hjn).cash from hr9.2.1).is
             have hlb := lots_bound ((l[i]'hin).reply.returns[j]'hjn).lots k hr9.2.2.1 hl9
             have hS2 : (((l[i]'hin).reply.returns.take (j + 1)).map fun r => backI r k).sum = (((l[i]'hin).reply.returns.take j).map fun r => backI r k).sum + backI ((l[i]'hin).reply.returns[j]'hjn) k := by rw [take_map_succ (fun r => backI r k) _ j hjn]; simp
             apply And.intro <;> intro q1179
             ·have q1179' := q1179; simp at q1179'
              have hbk : backI ((l[i]'hin).reply.returns[j]'hjn) k = ((l[i]'hin).reply.returns[j]'hjn).cash := by unfold backI; exact if_pos (by simpa using q1179)
              refine ⟨by decide +kernel, ([] : List Nat), [1], ?_⟩
              refine ⟨rfl, ?_⟩
              refine H.at (a := a924) (n := n925) (c := c926) (els := (((l)[i]'hin).reply.returns).map AReturn.r) (i := ((j : Int)).toNat) (cs := (AReturn.r ((((l)[i]'hin).reply.returns)[j]'hjn))) (by simp [hjn]) (Nat.succ_pos _) ?_
              intro ad1180 hn1181e hn1181 a1182 n1183 c1184 h1185 h1185l h1185c H hat1186l hat1186
              simp only [List.length_map] at h1185
              refine ⟨ad1180, hn1181e, (by first | exact Int.natCast_nonneg _ | omega), (by first | omega | (simp; omega)), ?_⟩
              refine ⟨fun hm => (by first | exact absurd hm (by simp; done) | exact Us.own (Us.ad (Us.ad hn1181)) (by simpa [ownBl, Own.row, oblk, Own.obj] using hm)), .int .i64 (((((l)[i]'hin).reply.returns)[j]'hjn).cash), hat1186.2.2.1, Us.box (Us.ad (Us.ad hn1181)), ?_⟩
              refine ⟨?_, ?_⟩
              ·refine andE (ExtS.refl (([] : List Nat)) [1] _ _) fun E => ?_
               intro w' t
               refine H.cD t E (ofB_ct (((((l)[i]'hin).reply.returns)[j]'hjn).cash) (by first | exact hq | exact hr9.2.1)) ?_
               intro a1187 n1188 c1189 h1190 h1190l h1190c w' H E
               simp only [List.length_map] at h1190
               refine ⟨E, ?_⟩
               intro w' t
               refine H.cD t E (ct_big (b := big (y - ((((l)[i]'hin).reply.returns)[j]'hjn).cash)) (subB_ct ((big (y))) ((big (((((l)[i]'hin).reply.returns)[j]'hjn).cash))) (nb_big _) (nb_big _) (big_len' (by omega)) (big_len' (by omega))) (by rw [bv_big, bv_big])) ?_
               intro a1191 n1192 c1193 h1194 h1194l h1194c w' H E
               simp only [List.length_map] at h1194
               refine ⟨E, ?_⟩
               refine andE (E.store (by repeat (first | exact trivial | exact rfl | refine ⟨?_, ?_⟩))) fun E => ?_
               intro w' t
               refine ⟨⟨j + 1, y - ((((l)[i]'hin).reply.returns)[j]'hjn).cash, true, a1191, n1192, c1193⟩, (by first | rfl | exact xInc (by first | omega | (rw [maxLen_eq]; omega)) | simp), rfl, rfl, rfl, rfl, ⟨H.fin t 4 _, ?_⟩, ?_⟩
               ·refine ⟨hjn, ?_⟩
                rw [hS2]; omega
               ·show (l[i]'hin).reply.returns.length - (j + 1) < (l[i]'hin).reply.returns.length - j; omega
              ·intro w' t
               refine H.cD t (ExtS.refl (([] : List Nat)) [1] _ _) (ofB_ct (((((l)[i]'hin).reply.returns)[j]'hjn).cash) (by first | exact hq | exact hr9.2.1)) ?_
               intro a1195 n1196 c1197 h1198 h1198l h1198c w' H E
               simp only [List.length_map] at h1198
               refine ⟨E, ?_⟩
               refine andE E fun E => ?_
               intro w' t
               refine H.cD t E (ct_big (b := big (y - ((((l)[i]'hin).reply.returns)[j]'hjn).cash)) (subB_ct ((big (y))) ((big (((((l)[i]'hin).reply.returns)[j]'hjn).cash))) (nb_big _) (nb_big _) (big_len' (by omega)) (big_len' (by omega))) (by rw [bv_big, bv_big])) ?_
               intro a1199 n1200 c1201 h1202 h1202l h1202c w' H E
               simp only [List.length_map] at h1202
               refine ⟨E, ?_⟩
               refine andE (E.store (by repeat (first | exact trivial | exact rfl | refine ⟨?_, ?_⟩))) fun E => ?_
               intro w' t
               refine ⟨⟨j + 1, y - ((((l)[i]'hin).reply.returns)[j]'hjn).cash, true, a1199, n1200, c1201⟩, (by first | rfl | exact xInc (by first | omega | (rw [maxLen_eq]; omega)) | simp), rfl, rfl, rfl, rfl, ⟨H.fin t 4 _, ?_⟩, ?_⟩
               ·refine ⟨hjn, ?_⟩
                rw [hS2]; omega
               ·show (l[i]'hin).reply.returns.length - (j + 1) < (l[i]'hin).reply.returns.length - j; omega
             ·have q1179' := q1179; simp at q1179'
              have hbk : backI ((l[i]'hin).reply.returns[j]'hjn) k = lotsSum ((l[i]'hin).reply.returns[j]'hjn).lots k := by unfold backI; exact if_neg (by simpa using q1179)
              refine ⟨by decide +kernel, ([] : List Nat), [1], ?_⟩
              refine ⟨rfl, ?_⟩
              refine H.at (a := a924) (n := n925) (c := c926) (els := (((l)[i]'hin).reply.returns).map AReturn.r) (i := ((j : Int)).toNat) (cs := (AReturn.r ((((l)[i]'hin).reply.returns)[j]'hjn))) (by simp [hjn]) (Nat.succ_pos _) ?_
              intro ad1203 hn1204e hn1204 a1205 n1206 c1207 h1208 h1208l h1208c H hat1209l hat1209
              simp only [List.length_map] at h1208
              refine ⟨ad1203, hn1204e, (by first | exact Int.natCast_nonneg _ | omega), (by first | omega | (simp; omega)), ?_⟩
              refine ⟨fun hm => (by first | exact absurd hm (by simp; done) | exact Us.own (Us.ad (Us.ad hn1204)) (by simpa [ownBl, Own.row, oblk, Own.obj] using hm)), .slice a1205 n1206 c1207, hat1209.2.2.2.1, Us.box (Us.ad (Us.ad hn1204)), ?_⟩
              refine ⟨?_, ?_⟩
              ·refine andE (ExtS.refl (([] : List Nat)) [1] _ _) fun E => ?_
               intro w' t
               refine H.cD t E (lotsB_ct (((((l)[i]'hin).reply.returns)[j]'hjn).lots) (k) hr9.2.2.1 hl9) ?_
               intro a1210 n1211 c1212 h1213 h1213l h1213c w' H E
               simp only [List.length_map] at h1213
               refine ⟨E, ?_⟩
               intro w' t
               refine H.cD t E (ct_big (b := big (y - lotsSum (((((l)[i]'hin).reply.returns)[j]'hjn).lots) (k))) (subB_ct ((big (y))) ((big (lotsSum (((((l)[i]'hin).reply.returns)[j]'hjn).lots) (k)))) (nb_big _) (nb_big _) (big_len' (by omega)) (big_len' (by omega))) (by rw [bv_big, bv_big])) ?_
               intro a1214 n1215 c1216 h1217 h1217l h1217c w' H E
               simp only [List.length_map] at h1217
               refine ⟨E, ?_⟩
               refine andE (E.store (by repeat (first | exact trivial | exact rfl | refine ⟨?_, ?_⟩))) fun E => ?_
               intro w' t
               refine ⟨⟨j + 1, y - lotsSum (((((l)[i]'hin).reply.returns)[j]'hjn).lots) (k), true, a1214, n1215, c1216⟩, (by first | rfl | exact xInc (by first | omega | (rw [maxLen_eq]; omega)) | simp), rfl, rfl, rfl, rfl, ⟨H.fin t 4 _, ?_⟩, ?_⟩
               ·refine ⟨hjn, ?_⟩
                rw [hS2]; omega
               ·show (l[i]'hin).reply.returns.length - (j + 1) < (l[i]'hin).reply.returns.length - j; omega
              ·intro w' t
               refine H.cD t (ExtS.refl (([] : List Nat)) [1] _ _) (lotsB_ct (((((l)[i]'hin).reply.returns)[j]'hjn).lots) (k) hr9.2.2.1 hl9) ?_
               intro a1218 n1219 c1220 h1221 h1221l h1221c w' H E
               simp only [List.length_map] at h1221
               refine ⟨E, ?_⟩
               refine andE E fun E => ?_
               intro w' t
               refine H.cD t E (ct_big (b := big (y - lotsSum (((((l)[i]'hin).reply.returns)[j]'hjn).lots) (k))) (subB_ct ((big (y))) ((big (lotsSum (((((l)[i]'hin).reply.returns)[j]'hjn).lots) (k)))) (nb_big _) (nb_big _) (big_len' (by omega)) (big_len' (by omega))) (by rw [bv_big, bv_big])) ?_
               intro a1222 n1223 c1224 h1225 h1225l h1225c w' H E
               simp only [List.length_map] at h1225
               refine ⟨E, ?_⟩
               refine andE (E.store (by repeat (first | exact trivial | exact rfl | refine ⟨?_, ?_⟩))) fun E => ?_
               intro w' t
               refine ⟨⟨j + 1, y - lotsSum (((((l)[i]'hin).reply.returns)[j]'hjn).lots) (k), true, a1222, n1223, c1224⟩, (by first | rfl | exact xInc (by first | omega | (rw [maxLen_eq]; omega)) | simp), rfl, rfl, rfl, rfl, ⟨H.fin t 4 _, ?_⟩, ?_⟩
               ·refine ⟨hjn, ?_⟩
                rw [hS2]; omega
               ·show (l[i]'hin).reply.returns.length - (j + 1) < (l[i]'hin).reply.returns.length - j; omega
            ·have q1178' := of_decide_eq_false q1178
             rw [List.take_of_length_le (by omega)] at hy
             have hct := cmd_two (l[i]'hin) k
             have hS : auditSum (l.take (i + 1)) k = y := by rw [hsucc, hy, hv, hu]; unfold doneI; rw [hct]; omega
             intro w' t
             refine ⟨⟨i + 1, y, false, ya, yn, yc⟩, (by first | rfl | exact xInc (by first | omega | (rw [maxLen_eq]; omega)) | simp), rfl, rfl, ⟨H.fin t 2 _, ?_⟩, ?_⟩
             ·exact ⟨hin, hS.symm⟩
             ·show l.length - (i + 1) < l.length - i; omega
           ·apply And.intro <;> intro q1226
            ·have q1226' := of_decide_eq_true q1226
             have hjn : j < (l[i]'hin).reply.returns.length := by omega
             have hr9 : ((l[i]'hin).reply.returns[j]'hjn).ok := hx.1.2.2.2.2.1 _ (List.getElem_mem hjn)
             have hl9 : ((l[i]'hin).reply.returns[j]'hjn).lots.length ≤ 1000000 := hx.2.2 _ (List.getElem_mem hjn)
             have hcash := (show ok64 ((l[i]'hin).reply.returns[j]'hjn).cash from hr9.2.1).is
             have hlb := lots_bound ((l[i]'hin).reply.returns[j]'hjn).lots k hr9.2.2.1 hl9
             have hS2 : (((l[i]'hin).reply.returns.take (j + 1)).map fun r => backI r k).sum = (((l[i]'hin).reply.returns.take j).map fun r => backI r k).sum + backI ((l[i]'hin).reply.returns[j]'hjn) k := by rw [take_map_succ (fun r => backI r k) _ j hjn]; simp
             apply And.intro <;> intro q1227
             ·have q1227' := q1227; simp at q1227'
              have hbk : backI ((l[i]'hin).reply.returns[j]'hjn) k = ((l[i]'hin).reply.returns[j]'hjn).cash := by unfold backI; exact if_pos (by simpa using q1227)
              refine ⟨by decide +kernel, ([] : List Nat), [1], ?_⟩
              refine ⟨rfl, ?_⟩
              refine H.at (a := a924) (n := n925) (c := c926) (els := (((l)[i]'hin).reply.returns).map AReturn.r) (i := ((j : Int)).toNat) (cs := (AReturn.r ((((l)[i]'hin).reply.returns)[j]'hjn))) (by simp [hjn]) (Nat.succ_pos _) ?_
              intro ad1228 hn1229e hn1229 a1230 n1231 c1232 h1233 h1233l h1233c H hat1234l hat1234
              simp only [List.length_map] at h1233
              refine ⟨ad1228, hn1229e, (by first | exact Int.natCast_nonneg _ | omega), (by first | omega | (simp; omega)), ?_⟩
              refine ⟨fun hm => (by first | exact absurd hm (by simp; done) | exact Us.own (Us.ad (Us.ad hn1229)) (by simpa [ownBl, Own.row, oblk, Own.obj] using hm)), .int .i64 (((((l)[i]'hin).reply.returns)[j]'hjn).cash), hat1234.2.2.1, Us.box (Us.ad (Us.ad hn1229)), ?_⟩
              refine ⟨?_, ?_⟩
              ·refine andE (ExtS.refl (([] : List Nat)) [1] _ _) fun E => ?_
               intro w' t
               refine H.cD t E (ofB_ct (((((l)[i]'hin).reply.returns)[j]'hjn).cash) (by first | exact hq | exact hr9.2.1)) ?_
               intro a1235 n1236 c1237 h1238 h1238l h1238c w' H E
               simp only [List.length_map] at h1238
               refine ⟨E, ?_⟩
               intro w' t
               refine H.cD t E (ct_big (b := big (y - ((((l)[i]'hin).reply.returns)[j]'hjn).cash)) (subB_ct ((big (y))) ((big (((((l)[i]'hin).reply.returns)[j]'hjn).cash))) (nb_big _) (nb_big _) (big_len' (by omega)) (big_len' (by omega))) (by rw [bv_big, bv_big])) ?_
               intro a1239 n1240 c1241 h1242 h1242l h1242c w' H E
               simp only [List.length_map] at h1242
               refine ⟨E, ?_⟩
               refine andE (E.store (by repeat (first | exact trivial | exact rfl | refine ⟨?_, ?_⟩))) fun E => ?_
               intro w' t
               refine ⟨⟨j + 1, y - ((((l)[i]'hin).reply.returns)[j]'hjn).cash, true, a1239, n1240, c1241⟩, (by first | rfl | exact xInc (by first | omega | (rw [maxLen_eq]; omega)) | simp), rfl, rfl, rfl, rfl, ⟨H.fin t 4 _, ?_⟩, ?_⟩
               ·refine ⟨hjn, ?_⟩
                rw [hS2]; omega
               ·show (l[i]'hin).reply.returns.length - (j + 1) < (l[i]'hin).reply.returns.length - j; omega
              ·intro w' t
               refine H.cD t (ExtS.refl (([] : List Nat)) [1] _ _) (ofB_ct (((((l)[i]'hin).reply.returns)[j]'hjn).cash) (by first | exact hq | exact hr9.2.1)) ?_
               intro a1243 n1244 c1245 h1246 h1246l h1246c w' H E
               simp only [List.length_map] at h1246
               refine ⟨E, ?_⟩
               refine andE E fun E => ?_
               intro w' t
               refine H.cD t E (ct_big (b := big (y - ((((l)[i]'hin).reply.returns)[j]'hjn).cash)) (subB_ct ((big (y))) ((big (((((l)[i]'hin).reply.returns)[j]'hjn).cash))) (nb_big _) (nb_big _) (big_len' (by omega)) (big_len' (by omega))) (by rw [bv_big, bv_big])) ?_
               intro a1247 n1248 c1249 h1250 h1250l h1250c w' H E
               simp only [List.length_map] at h1250
               refine ⟨E, ?_⟩
               refine andE (E.store (by repeat (first | exact trivial | exact rfl | refine ⟨?_, ?_⟩))) fun E => ?_
               intro w' t
               refine ⟨⟨j + 1, y - ((((l)[i]'hin).reply.returns)[j]'hjn).cash, true, a1247, n1248, c1249⟩, (by first | rfl | exact xInc (by first | omega | (rw [maxLen_eq]; omega)) | simp), rfl, rfl, rfl, rfl, ⟨H.fin t 4 _, ?_⟩, ?_⟩
               ·refine ⟨hjn, ?_⟩
                rw [hS2]; omega
               ·show (l[i]'hin).reply.returns.length - (j + 1) < (l[i]'hin).reply.returns.length - j; omega
             ·have q1227' := q1227; simp at q1227'
              have hbk : backI ((l[i]'hin).reply.returns[j]'hjn) k = lotsSum ((l[i]'hin).reply.returns[j]'hjn).lots k := by unfold backI; exact if_neg (by simpa using q1227)
              refine ⟨by decide +kernel, ([] : List Nat), [1], ?_⟩
              refine ⟨rfl, ?_⟩
              refine H.at (a := a924) (n := n925) (c := c926) (els := (((l)[i]'hin).reply.returns).map AReturn.r) (i := ((j : Int)).toNat) (cs := (AReturn.r ((((l)[i]'hin).reply.returns)[j]'hjn))) (by simp [hjn]) (Nat.succ_pos _) ?_
              intro ad1251 hn1252e hn1252 a1253 n1254 c1255 h1256 h1256l h1256c H hat1257l hat1257
              simp only [List.length_map] at h1256
              refine ⟨ad1251, hn1252e, (by first | exact Int.natCast_nonneg _ | omega), (by first | omega | (simp; omega)), ?_⟩
              refine ⟨fun hm => (by first | exact absurd hm (by simp; done) | exact Us.own (Us.ad (Us.ad hn1252)) (by simpa [ownBl, Own.row, oblk, Own.obj] using hm)), .slice a1253 n1254 c1255, hat1257.2.2.2.1, Us.box (Us.ad (Us.ad hn1252)), ?_⟩
              refine ⟨?_, ?_⟩
              ·refine andE (ExtS.refl (([] : List Nat)) [1] _ _) fun E => ?_
               intro w' t
               refine H.cD t E (lotsB_ct (((((l)[i]'hin).reply.returns)[j]'hjn).lots) (k) hr9.2.2.1 hl9) ?_
               intro a1258 n1259 c1260 h1261 h1261l h1261c w' H E
               simp only [List.length_map] at h1261
               refine ⟨E, ?_⟩
               intro w' t
               refine H.cD t E (ct_big (b := big (y - lotsSum (((((l)[i]'hin).reply.returns)[j]'hjn).lots) (k))) (subB_ct ((big (y))) ((big (lotsSum (((((l)[i]'hin).reply.returns)[j]'hjn).lots) (k)))) (nb_big _) (nb_big _) (big_len' (by omega)) (big_len' (by omega))) (by rw [bv_big, bv_big])) ?_
               intro a1262 n1263 c1264 h1265 h1265l h1265c w' H E
               simp only [List.length_map] at h1265
               refine ⟨E, ?_⟩
               refine andE (E.store (by repeat (first | exact trivial | exact rfl | refine ⟨?_, ?_⟩))) fun E => ?_
               intro w' t
               refine ⟨⟨j + 1, y - lotsSum (((((l)[i]'hin).reply.returns)[j]'hjn).lots) (k), true, a1262, n1263, c1264⟩, (by first | rfl | exact xInc (by first | omega | (rw [maxLen_eq]; omega)) | simp), rfl, rfl, rfl, rfl, ⟨H.fin t 4 _, ?_⟩, ?_⟩
               ·refine ⟨hjn, ?_⟩
                rw [hS2]; omega
               ·show (l[i]'hin).reply.returns.length - (j + 1) < (l[i]'hin).reply.returns.length - j; omega
              ·intro w' t
               refine H.cD t (ExtS.refl (([] : List Nat)) [1] _ _) (lotsB_ct (((((l)[i]'hin).reply.returns)[j]'hjn).lots) (k) hr9.2.2.1 hl9) ?_
               intro a1266 n1267 c1268 h1269 h1269l h1269c w' H E
               simp only [List.length_map] at h1269
               refine ⟨E, ?_⟩
               refine andE E fun E => ?_
               intro w' t
               refine H.cD t E (ct_big (b := big (y - lotsSum (((((l)[i]'hin).reply.returns)[j]'hjn).lots) (k))) (subB_ct ((big (y))) ((big (lotsSum (((((l)[i]'hin).reply.returns)[j]'hjn).lots) (k)))) (nb_big _) (nb_big _) (big_len' (by omega)) (big_len' (by omega))) (by rw [bv_big, bv_big])) ?_
               intro a1270 n1271 c1272 h1273 h1273l h1273c w' H E
               simp only [List.length_map] at h1273
               refine ⟨E, ?_⟩
               refine andE (E.store (by repeat (first | exact trivial | exact rfl | refine ⟨?_, ?_⟩))) fun E => ?_
               intro w' t
               refine ⟨⟨j + 1, y - lotsSum (((((l)[i]'hin).reply.returns)[j]'hjn).lots) (k), true, a1270, n1271, c1272⟩, (by first | rfl | exact xInc (by first | omega | (rw [maxLen_eq]; omega)) | simp), rfl, rfl, rfl, rfl, ⟨H.fin t 4 _, ?_⟩, ?_⟩
               ·refine ⟨hjn, ?_⟩
                rw [hS2]; omega
               ·show (l[i]'hin).reply.returns.length - (j + 1) < (l[i]'hin).reply.returns.length - j; omega
            ·have q1226' := of_decide_eq_false q1226
             rw [List.take_of_length_le (by omega)] at hy
             have hct := cmd_two (l[i]'hin) k
             have hS : auditSum (l.take (i + 1)) k = y := by rw [hsucc, hy, hv, hu]; unfold doneI; rw [hct]; omega
             intro w' t
             refine ⟨⟨i + 1, y, true, ya, yn, yc⟩, (by first | rfl | exact xInc (by first | omega | (rw [maxLen_eq]; omega)) | simp), rfl, rfl, ⟨H.fin t 2 _, ?_⟩, ?_⟩
             ·exact ⟨hin, hS.symm⟩
             ·show l.length - (i + 1) < l.length - i; omega
         ·refine ⟨[9, 58, 59, 60, 61, 62, 63, 64, 65, 66, 67, 68, 69, 70, 71, 72, 73, 74, 75, 76, 77, 78, 79, 80, 81, 82, 83, 84, 85],
            { X := (Nat) × (Int) × (Bool) × (Option Addr) × (Nat) × (Nat), slots := [9], vals := fun (j, y, k3, ya, yn, yc) => [.int .i64 ((j : Int))], boxes := [1], cells := fun (j, y, k3, ya, yn, yc) => [[(bif k3 then XV.bool ((big (y)).neg) else XV.lit ((big (y)).neg)), .slc ya yn yc]],
              inv := fun (j, y, k3, ya, yn, yc) w' => Ctx w U [] [b5, b6, b929, b930] [] [(.slice a1 n2 c3, .sl 18 ((l).map ADone.r)), (.slice a912 n913 c914, .sl 1 ((((l)[i]'hin).command.numbers).map (fun x => [R.val (.int .i64 x)]))), (.slice a916 n917 c918, .sl 1 ((((l)[i]'hin).reply.numbers).map (fun x => [R.val (.int .i64 x)]))), (.slice a920 n921 c922, .sl 5 ((((l)[i]'hin).reply.debits).map ADebit.r)), (.slice a924 n925 c926, .sl 4 ((((l)[i]'hin).reply.returns).map AReturn.r)), (.slice ya yn yc, .sl 1 (((big (y)).b).map (fun x => [R.val (.int .u8 x)])))] w' ∧ (j ≤ (l[i]'hin).reply.returns.length ∧ y = v - (((l[i]'hin).reply.returns.take j).map fun r => backI r k).sum), μ := fun (j, y, k3, ya, yn, yc) => (l[i]'hin).reply.returns.length - j }, by kernel_rfl, ?_, ?_, ?_⟩
          ·rintro ⟨j, y, k3, ya, yn, yc⟩; cases k3 <;> exact ⟨⟨trivial, trivial⟩, ⟨trivial, trivial, trivial⟩, trivial⟩
          ·intro w' t
           refine ⟨⟨0, v, true, va, vn, vc⟩, rfl, rfl, rfl, rfl, rfl, H.fin t 4 _, ?_⟩
           exact ⟨Nat.zero_le _, by simp⟩
          ·rintro ⟨j, y, k3, ya, yn, yc⟩ w' ⟨H, hI⟩
           obtain ⟨hj, hy⟩ := hI
           have hsb := sum_bound (fun r => backI r k) (9223372036854775808 * 1000000) ((l[i]'hin).reply.returns.take j) (fun r hr => hbr r (List.mem_of_mem_take hr))
           have htl : ((l[i]'hin).reply.returns.take j).length ≤ 900 := by rw [List.length_take]; omega
           cases k3
           ·apply And.intro <;> intro q1274
            ·have q1274' := of_decide_eq_true q1274
             have hjn : j < (l[i]'hin).reply.returns.length := by omega
             have hr9 : ((l[i]'hin).reply.returns[j]'hjn).ok := hx.1.2.2.2.2.1 _ (List.getElem_mem hjn)
             have hl9 : ((l[i]'hin).reply.returns[j]'hjn).lots.length ≤ 1000000 := hx.2.2 _ (List.getElem_mem hjn)
             have hcash := (show ok64 ((l[i]'hin).reply.returns[j]'hjn).cash from hr9.2.1).is
             have hlb := lots_bound ((l[i]'hin).reply.returns[j]'hjn).lots k hr9.2.2.1 hl9
             have hS2 : (((l[i]'hin).reply.returns.take (j + 1)).map fun r => backI r k).sum = (((l[i]'hin).reply.returns.take j).map fun r => backI r k).sum + backI ((l[i]'hin).reply.returns[j]'hjn) k := by rw [take_map_succ (fun r => backI r k) _ j hjn]; simp
             apply And.intro <;> intro q1275
             ·have q1275' := q1275; simp at q1275'
              have hbk : backI ((l[i]'hin).reply.returns[j]'hjn) k = ((l[i]'hin).reply.returns[j]'hjn).cash := by unfold backI; exact if_pos (by simpa using q1275)
              refine ⟨by decide +kernel, ([] : List Nat), [1], ?_⟩
              refine ⟨rfl, ?_⟩
              refine H.at (a := a924) (n := n925) (c := c926) (els := (((l)[i]'hin).reply.returns).map AReturn.r) (i := ((j : Int)).toNat) (cs := (AReturn.r ((((l)[i]'hin).reply.returns)[j]'hjn))) (by simp [hjn]) (Nat.succ_pos _) ?_
              intro ad1276 hn1277e hn1277 a1278 n1279 c1280 h1281 h1281l h1281c H hat1282l hat1282
              simp only [List.length_map] at h1281
              refine ⟨ad1276, hn1277e, (by first | exact Int.natCast_nonneg _ | omega), (by first | omega | (simp; omega)), ?_⟩
              refine ⟨fun hm => (by first | exact absurd hm (by simp; done) | exact Us.own (Us.ad (Us.ad hn1277)) (by simpa [ownBl, Own.row, oblk, Own.obj] using hm)), .int .i64 (((((l)[i]'hin).reply.returns)[j]'hjn).cash), hat1282.2.2.1, Us.box (Us.ad (Us.ad hn1277)), ?_⟩
              refine ⟨?_, ?_⟩
              ·refine andE (ExtS.refl (([] : List Nat)) [1] _ _) fun E => ?_
               intro w' t
               refine H.cD t E (ofB_ct (((((l)[i]'hin).reply.returns)[j]'hjn).cash) (by first | exact hq | exact hr9.2.1)) ?_
               intro a1283 n1284 c1285 h1286 h1286l h1286c w' H E
               simp only [List.length_map] at h1286
               refine ⟨E, ?_⟩
               intro w' t
               refine H.cD t E (ct_big (b := big (y - ((((l)[i]'hin).reply.returns)[j]'hjn).cash)) (subB_ct ((big (y))) ((big (((((l)[i]'hin).reply.returns)[j]'hjn).cash))) (nb_big _) (nb_big _) (big_len' (by omega)) (big_len' (by omega))) (by rw [bv_big, bv_big])) ?_
               intro a1287 n1288 c1289 h1290 h1290l h1290c w' H E
               simp only [List.length_map] at h1290
               refine ⟨E, ?_⟩
               refine andE (E.store (by repeat (first | exact trivial | exact rfl | refine ⟨?_, ?_⟩))) fun E => ?_
               intro w' t
               refine ⟨⟨j + 1, y - ((((l)[i]'hin).reply.returns)[j]'hjn).cash, true, a1287, n1288, c1289⟩, (by first | rfl | exact xInc (by first | omega | (rw [maxLen_eq]; omega)) | simp), rfl, rfl, rfl, rfl, ⟨H.fin t 4 _, ?_⟩, ?_⟩
               ·refine ⟨hjn, ?_⟩
                rw [hS2]; omega
               ·show (l[i]'hin).reply.returns.length - (j + 1) < (l[i]'hin).reply.returns.length - j; omega
              ·intro w' t
               refine H.cD t (ExtS.refl (([] : List Nat)) [1] _ _) (ofB_ct (((((l)[i]'hin).reply.returns)[j]'hjn).cash) (by first | exact hq | exact hr9.2.1)) ?_
               intro a1291 n1292 c1293 h1294 h1294l h1294c w' H E
               simp only [List.length_map] at h1294
               refine ⟨E, ?_⟩
               refine andE E fun E => ?_
               intro w' t
               refine H.cD t E (ct_big (b := big (y - ((((l)[i]'hin).reply.returns)[j]'hjn).cash)) (subB_ct ((big (y))) ((big (((((l)[i]'hin).reply.returns)[j]'hjn).cash))) (nb_big _) (nb_big _) (big_len' (by omega)) (big_len' (by omega))) (by rw [bv_big, bv_big])) ?_
               intro a1295 n1296 c1297 h1298 h1298l h1298c w' H E
               simp only [List.length_map] at h1298
               refine ⟨E, ?_⟩
               refine andE (E.store (by repeat (first | exact trivial | exact rfl | refine ⟨?_, ?_⟩))) fun E => ?_
               intro w' t
               refine ⟨⟨j + 1, y - ((((l)[i]'hin).reply.returns)[j]'hjn).cash, true, a1295, n1296, c1297⟩, (by first | rfl | exact xInc (by first | omega | (rw [maxLen_eq]; omega)) | simp), rfl, rfl, rfl, rfl, ⟨H.fin t 4 _, ?_⟩, ?_⟩
               ·refine ⟨hjn, ?_⟩
                rw [hS2]; omega
               ·show (l[i]'hin).reply.returns.length - (j + 1) < (l[i]'hin).reply.returns.length - j; omega
             ·have q1275' := q1275; simp at q1275'
              have hbk : backI ((l[i]'hin).reply.returns[j]'hjn) k = lotsSum ((l[i]'hin).reply.returns[j]'hjn).lots k := by unfold backI; exact if_neg (by simpa using q1275)
              refine ⟨by decide +kernel, ([] : List Nat), [1], ?_⟩
              refine ⟨rfl, ?_⟩
              refine H.at (a := a924) (n := n925) (c := c926) (els := (((l)[i]'hin).reply.returns).map AReturn.r) (i := ((j : Int)).toNat) (cs := (AReturn.r ((((l)[i]'hin).reply.returns)[j]'hjn))) (by simp [hjn]) (Nat.succ_pos _) ?_
              intro ad1299 hn1300e hn1300 a1301 n1302 c1303 h1304 h1304l h1304c H hat1305l hat1305
              simp only [List.length_map] at h1304
              refine ⟨ad1299, hn1300e, (by first | exact Int.natCast_nonneg _ | omega), (by first | omega | (simp; omega)), ?_⟩
              refine ⟨fun hm => (by first | exact absurd hm (by simp; done) | exact Us.own (Us.ad (Us.ad hn1300)) (by simpa [ownBl, Own.row, oblk, Own.obj] using hm)), .slice a1301 n1302 c1303, hat1305.2.2.2.1, Us.box (Us.ad (Us.ad hn1300)), ?_⟩
              refine ⟨?_, ?_⟩
              ·refine andE (ExtS.refl (([] : List Nat)) [1] _ _) fun E => ?_
               intro w' t
               refine H.cD t E (lotsB_ct (((((l)[i]'hin).reply.returns)[j]'hjn).lots) (k) hr9.2.2.1 hl9) ?_
               intro a1306 n1307 c1308 h1309 h1309l h1309c w' H E
               simp only [List.length_map] at h1309
               refine ⟨E, ?_⟩
               intro w' t
               refine H.cD t E (ct_big (b := big (y - lotsSum (((((l)[i]'hin).reply.returns)[j]'hjn).lots) (k))) (subB_ct ((big (y))) ((big (lotsSum (((((l)[i]'hin).reply.returns)[j]'hjn).lots) (k)))) (nb_big _) (nb_big _) (big_len' (by omega)) (big_len' (by omega))) (by rw [bv_big, bv_big])) ?_
               intro a1310 n1311 c1312 h1313 h1313l h1313c w' H E
               simp only [List.length_map] at h1313
               refine ⟨E, ?_⟩
               refine andE (E.store (by repeat (first | exact trivial | exact rfl | refine ⟨?_, ?_⟩))) fun E => ?_
               intro w' t
               refine ⟨⟨j + 1, y - lotsSum (((((l)[i]'hin).reply.returns)[j]'hjn).lots) (k), true, a1310, n1311, c1312⟩, (by first | rfl | exact xInc (by first | omega | (rw [maxLen_eq]; omega)) | simp), rfl, rfl, rfl, rfl, ⟨H.fin t 4 _, ?_⟩, ?_⟩
               ·refine ⟨hjn, ?_⟩
                rw [hS2]; omega
               ·show (l[i]'hin).reply.returns.length - (j + 1) < (l[i]'hin).reply.returns.length - j; omega
              ·intro w' t
               refine H.cD t (ExtS.refl (([] : List Nat)) [1] _ _) (lotsB_ct (((((l)[i]'hin).reply.returns)[j]'hjn).lots) (k) hr9.2.2.1 hl9) ?_
               intro a1314 n1315 c1316 h1317 h1317l h1317c w' H E
               simp only [List.length_map] at h1317
               refine ⟨E, ?_⟩
               refine andE E fun E => ?_
               intro w' t
               refine H.cD t E (ct_big (b := big (y - lotsSum (((((l)[i]'hin).reply.returns)[j]'hjn).lots) (k))) (subB_ct ((big (y))) ((big (lotsSum (((((l)[i]'hin).reply.returns)[j]'hjn).lots) (k)))) (nb_big _) (nb_big _) (big_len' (by omega)) (big_len' (by omega))) (by rw [bv_big, bv_big])) ?_
               intro a1318 n1319 c1320 h1321 h1321l h1321c w' H E
               simp only [List.length_map] at h1321
               refine ⟨E, ?_⟩
               refine andE (E.store (by repeat (first | exact trivial | exact rfl | refine ⟨?_, ?_⟩))) fun E => ?_
               intro w' t
               refine ⟨⟨j + 1, y - lotsSum (((((l)[i]'hin).reply.returns)[j]'hjn).lots) (k), true, a1318, n1319, c1320⟩, (by first | rfl | exact xInc (by first | omega | (rw [maxLen_eq]; omega)) | simp), rfl, rfl, rfl, rfl, ⟨H.fin t 4 _, ?_⟩, ?_⟩
               ·refine ⟨hjn, ?_⟩
                rw [hS2]; omega
               ·show (l[i]'hin).reply.returns.length - (j + 1) < (l[i]'hin).reply.returns.length - j; omega
            ·have q1274' := of_decide_eq_false q1274
             rw [List.take_of_length_le (by omega)] at hy
             have hct := cmd_two (l[i]'hin) k
             have hS : auditSum (l.take (i + 1)) k = y := by rw [hsucc, hy, hv, hu]; unfold doneI; rw [hct]; omega
             intro w' t
             refine ⟨⟨i + 1, y, false, ya, yn, yc⟩, (by first | rfl | exact xInc (by first | omega | (rw [maxLen_eq]; omega)) | simp), rfl, rfl, ⟨H.fin t 2 _, ?_⟩, ?_⟩
             ·exact ⟨hin, hS.symm⟩
             ·show l.length - (i + 1) < l.length - i; omega
           ·apply And.intro <;> intro q1322
            ·have q1322' := of_decide_eq_true q1322
             have hjn : j < (l[i]'hin).reply.returns.length := by omega
             have hr9 : ((l[i]'hin).reply.returns[j]'hjn).ok := hx.1.2.2.2.2.1 _ (List.getElem_mem hjn)
             have hl9 : ((l[i]'hin).reply.returns[j]'hjn).lots.length ≤ 1000000 := hx.2.2 _ (List.getElem_mem hjn)
             have hcash := (show ok64 ((l[i]'hin).reply.returns[j]'hjn).cash from hr9.2.1).is
             have hlb := lots_bound ((l[i]'hin).reply.returns[j]'hjn).lots k hr9.2.2.1 hl9
             have hS2 : (((l[i]'hin).reply.returns.take (j + 1)).map fun r => backI r k).sum = (((l[i]'hin).reply.returns.take j).map fun r => backI r k).sum + backI ((l[i]'hin).reply.returns[j]'hjn) k := by rw [take_map_succ (fun r => backI r k) _ j hjn]; simp
             apply And.intro <;> intro q1323
             ·have q1323' := q1323; simp at q1323'
              have hbk : backI ((l[i]'hin).reply.returns[j]'hjn) k = ((l[i]'hin).reply.returns[j]'hjn).cash := by unfold backI; exact if_pos (by simpa using q1323)
              refine ⟨by decide +kernel, ([] : List Nat), [1], ?_⟩
              refine ⟨rfl, ?_⟩
              refine H.at (a := a924) (n := n925) (c := c926) (els := (((l)[i]'hin).reply.returns).map AReturn.r) (i := ((j : Int)).toNat) (cs := (AReturn.r ((((l)[i]'hin).reply.returns)[j]'hjn))) (by simp [hjn]) (Nat.succ_pos _) ?_
              intro ad1324 hn1325e hn1325 a1326 n1327 c1328 h1329 h1329l h1329c H hat1330l hat1330
              simp only [List.length_map] at h1329
              refine ⟨ad1324, hn1325e, (by first | exact Int.natCast_nonneg _ | omega), (by first | omega | (simp; omega)), ?_⟩
              refine ⟨fun hm => (by first | exact absurd hm (by simp; done) | exact Us.own (Us.ad (Us.ad hn1325)) (by simpa [ownBl, Own.row, oblk, Own.obj] using hm)), .int .i64 (((((l)[i]'hin).reply.returns)[j]'hjn).cash), hat1330.2.2.1, Us.box (Us.ad (Us.ad hn1325)), ?_⟩
              refine ⟨?_, ?_⟩
              ·refine andE (ExtS.refl (([] : List Nat)) [1] _ _) fun E => ?_
               intro w' t
               refine H.cD t E (ofB_ct (((((l)[i]'hin).reply.returns)[j]'hjn).cash) (by first | exact hq | exact hr9.2.1)) ?_
               intro a1331 n1332 c1333 h1334 h1334l h1334c w' H E
               simp only [List.length_map] at h1334
               refine ⟨E, ?_⟩
               intro w' t
               refine H.cD t E (ct_big (b := big (y - ((((l)[i]'hin).reply.returns)[j]'hjn).cash)) (subB_ct ((big (y))) ((big (((((l)[i]'hin).reply.returns)[j]'hjn).cash))) (nb_big _) (nb_big _) (big_len' (by omega)) (big_len' (by omega))) (by rw [bv_big, bv_big])) ?_
               intro a1335 n1336 c1337 h1338 h1338l h1338c w' H E
               simp only [List.length_map] at h1338
               refine ⟨E, ?_⟩
               refine andE (E.store (by repeat (first | exact trivial | exact rfl | refine ⟨?_, ?_⟩))) fun E => ?_
               intro w' t
               refine ⟨⟨j + 1, y - ((((l)[i]'hin).reply.returns)[j]'hjn).cash, true, a1335, n1336, c1337⟩, (by first | rfl | exact xInc (by first | omega | (rw [maxLen_eq]; omega)) | simp), rfl, rfl, rfl, rfl, ⟨H.fin t 4 _, ?_⟩, ?_⟩
               ·refine ⟨hjn, ?_⟩
                rw [hS2]; omega
               ·show (l[i]'hin).reply.returns.length - (j + 1) < (l[i]'hin).reply.returns.length - j; omega
              ·intro w' t
               refine H.cD t (ExtS.refl (([] : List Nat)) [1] _ _) (ofB_ct (((((l)[i]'hin).reply.returns)[j]'hjn).cash) (by first | exact hq | exact hr9.2.1)) ?_
               intro a1339 n1340 c1341 h1342 h1342l h1342c w' H E
               simp only [List.length_map] at h1342
               refine ⟨E, ?_⟩
               refine andE E fun E => ?_
               intro w' t
               refine H.cD t E (ct_big (b := big (y - ((((l)[i]'hin).reply.returns)[j]'hjn).cash)) (subB_ct ((big (y))) ((big (((((l)[i]'hin).reply.returns)[j]'hjn).cash))) (nb_big _) (nb_big _) (big_len' (by omega)) (big_len' (by omega))) (by rw [bv_big, bv_big])) ?_
               intro a1343 n1344 c1345 h1346 h1346l h1346c w' H E
               simp only [List.length_map] at h1346
               refine ⟨E, ?_⟩
               refine andE (E.store (by repeat (first | exact trivial | exact rfl | refine ⟨?_, ?_⟩))) fun E => ?_
               intro w' t
               refine ⟨⟨j + 1, y - ((((l)[i]'hin).reply.returns)[j]'hjn).cash, true, a1343, n1344, c1345⟩, (by first | rfl | exact xInc (by first | omega | (rw [maxLen_eq]; omega)) | simp), rfl, rfl, rfl, rfl, ⟨H.fin t 4 _, ?_⟩, ?_⟩
               ·refine ⟨hjn, ?_⟩
                rw [hS2]; omega
               ·show (l[i]'hin).reply.returns.length - (j + 1) < (l[i]'hin).reply.returns.length - j; omega
             ·have q1323' := q1323; simp at q1323'
              have hbk : backI ((l[i]'hin).reply.returns[j]'hjn) k = lotsSum ((l[i]'hin).reply.returns[j]'hjn).lots k := by unfold backI; exact if_neg (by simpa using q1323)
              refine ⟨by decide +kernel, ([] : List Nat), [1], ?_⟩
              refine ⟨rfl, ?_⟩
              refine H.at (a := a924) (n := n925) (c := c926) (els := (((l)[i]'hin).reply.returns).map AReturn.r) (i := ((j : Int)).toNat) (cs := (AReturn.r ((((l)[i]'hin).reply.returns)[j]'hjn))) (by simp [hjn]) (Nat.succ_pos _) ?_
              intro ad1347 hn1348e hn1348 a1349 n1350 c1351 h1352 h1352l h1352c H hat1353l hat1353
              simp only [List.length_map] at h1352
              refine ⟨ad1347, hn1348e, (by first | exact Int.natCast_nonneg _ | omega), (by first | omega | (simp; omega)), ?_⟩
              refine ⟨fun hm => (by first | exact absurd hm (by simp; done) | exact Us.own (Us.ad (Us.ad hn1348)) (by simpa [ownBl, Own.row, oblk, Own.obj] using hm)), .slice a1349 n1350 c1351, hat1353.2.2.2.1, Us.box (Us.ad (Us.ad hn1348)), ?_⟩
              refine ⟨?_, ?_⟩
              ·refine andE (ExtS.refl (([] : List Nat)) [1] _ _) fun E => ?_
               intro w' t
               refine H.cD t E (lotsB_ct (((((l)[i]'hin).reply.returns)[j]'hjn).lots) (k) hr9.2.2.1 hl9) ?_
               intro a1354 n1355 c1356 h1357 h1357l h1357c w' H E
               simp only [List.length_map] at h1357
               refine ⟨E, ?_⟩
               intro w' t
               refine H.cD t E (ct_big (b := big (y - lotsSum (((((l)[i]'hin).reply.returns)[j]'hjn).lots) (k))) (subB_ct ((big (y))) ((big (lotsSum (((((l)[i]'hin).reply.returns)[j]'hjn).lots) (k)))) (nb_big _) (nb_big _) (big_len' (by omega)) (big_len' (by omega))) (by rw [bv_big, bv_big])) ?_
               intro a1358 n1359 c1360 h1361 h1361l h1361c w' H E
               simp only [List.length_map] at h1361
               refine ⟨E, ?_⟩
               refine andE (E.store (by repeat (first | exact trivial | exact rfl | refine ⟨?_, ?_⟩))) fun E => ?_
               intro w' t
               refine ⟨⟨j + 1, y - lotsSum (((((l)[i]'hin).reply.returns)[j]'hjn).lots) (k), true, a1358, n1359, c1360⟩, (by first | rfl | exact xInc (by first | omega | (rw [maxLen_eq]; omega)) | simp), rfl, rfl, rfl, rfl, ⟨H.fin t 4 _, ?_⟩, ?_⟩
               ·refine ⟨hjn, ?_⟩
                rw [hS2]; omega
               ·show (l[i]'hin).reply.returns.length - (j + 1) < (l[i]'hin).reply.returns.length - j; omega
              ·intro w' t
               refine H.cD t (ExtS.refl (([] : List Nat)) [1] _ _) (lotsB_ct (((((l)[i]'hin).reply.returns)[j]'hjn).lots) (k) hr9.2.2.1 hl9) ?_
               intro a1362 n1363 c1364 h1365 h1365l h1365c w' H E
               simp only [List.length_map] at h1365
               refine ⟨E, ?_⟩
               refine andE E fun E => ?_
               intro w' t
               refine H.cD t E (ct_big (b := big (y - lotsSum (((((l)[i]'hin).reply.returns)[j]'hjn).lots) (k))) (subB_ct ((big (y))) ((big (lotsSum (((((l)[i]'hin).reply.returns)[j]'hjn).lots) (k)))) (nb_big _) (nb_big _) (big_len' (by omega)) (big_len' (by omega))) (by rw [bv_big, bv_big])) ?_
               intro a1366 n1367 c1368 h1369 h1369l h1369c w' H E
               simp only [List.length_map] at h1369
               refine ⟨E, ?_⟩
               refine andE (E.store (by repeat (first | exact trivial | exact rfl | refine ⟨?_, ?_⟩))) fun E => ?_
               intro w' t
               refine ⟨⟨j + 1, y - lotsSum (((((l)[i]'hin).reply.returns)[j]'hjn).lots) (k), true, a1366, n1367, c1368⟩, (by first | rfl | exact xInc (by first | omega | (rw [maxLen_eq]; omega)) | simp), rfl, rfl, rfl, rfl, ⟨H.fin t 4 _, ?_⟩, ?_⟩
               ·refine ⟨hjn, ?_⟩
                rw [hS2]; omega
               ·show (l[i]'hin).reply.returns.length - (j + 1) < (l[i]'hin).reply.returns.length - j; omega
            ·have q1322' := of_decide_eq_false q1322
             rw [List.take_of_length_le (by omega)] at hy
             have hct := cmd_two (l[i]'hin) k
             have hS : auditSum (l.take (i + 1)) k = y := by rw [hsucc, hy, hv, hu]; unfold doneI; rw [hct]; omega
             intro w' t
             refine ⟨⟨i + 1, y, true, ya, yn, yc⟩, (by first | rfl | exact xInc (by first | omega | (rw [maxLen_eq]; omega)) | simp), rfl, rfl, ⟨H.fin t 2 _, ?_⟩, ?_⟩
             ·exact ⟨hin, hS.symm⟩
             ·show l.length - (i + 1) < l.length - i; omega
   ·have q909' := of_decide_eq_false q909
    have hie : l.take i = l := List.take_of_length_le (by omega)
    have hr : big (auditSum l k) = big (z) := by rw [hz, hie]
    intro w' t
    rw [hr]
    exact H.r t
end Go.Proofs.Ytnldhkhnfodplaa
