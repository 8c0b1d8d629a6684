import Derived.Test.YtnldhkhnfodplaaB2
import Derived.Laws.Externs
namespace Go.Proofs.Ytnldhkhnfodplaa
open Go Go.Vc Go.RowKit
def trim33 (x : AInst) : AInst := { x with moves := x.moves.take 12 }
def few33 (s : AState) : AState := ⟨s.day, s.members.take 20, (s.insts.take 20).map trim33, s.assets.take 20, (s.accounts.take 20).map short25, s.choices.take 20, s.groups.take 70, s.gives.take 70, few19 s.book, few19 s.sale, s.purse.take 20, few26 s.holds⟩
theorem take_succ' {α : Type} (l : List α) (i : Nat) (h : i < l.length) : l.take (i + 1) = l.take i ++ [l[i]] := List.take_succ_eq_append_getElem h
theorem take_all' {α : Type} (l : List α) (i : Nat) (h : l.length ≤ i) : l.take i = l.take (i + 1) := by rw [List.take_of_length_le h, List.take_of_length_le (by omega)]
set_option maxHeartbeats 4000000 in
set_option maxRecDepth 100000 in
theorem few33_ct (s : AState)  : Ct Try.prog 42 [.agg (AState.r s)] (.agg (AState.r (few33 s))) := by
  refine ct_startT (cuts [2, 4, 7, 9, 11, 18, 21]) [(1, (.rd 0 (.rd 1 (.rd 2 (.rd 3 (.rd 5 (.rd 6 (.rd 8 (.rd 9 (.rd 11 (.rd 12 (.rd 14 (.rd 15 (.two 4 18 ((.two 7 18 ((.two 10 18 ((.two 13 18 ((.two 16 18 (ofL [(17, true), (18, false), (19, false)]) (ofL [(16, false), (17, true), (19, false)]))) (ofL [(13, false), (16, false), (17, true), (19, false)]))) (ofL [(10, false), (13, false), (16, false), (17, true), (19, false)]))) (ofL [(7, false), (10, false), (13, false), (16, false), (17, true), (19, false)]))) (ofL [(4, false), (7, false), (10, false), (13, false), (16, false), (17, true), (19, false)]))))))))))))))), (6, (.rd 0 (.rd 2 (.rd 3 (.rd 4 (.rd 5 (.rd 6 (.two 1 7 (ofL [(7, false), (8, false), (9, true), (10, false)]) (ofL [(1, false), (8, false), (9, true), (10, false)]))))))))), (8, (.rd 0 (.rd 2 (.rd 3 (.rd 4 (.rd 5 (.rd 6 (.two 1 7 (ofL [(7, false), (8, false), (9, true), (10, false)]) (ofL [(1, false), (8, false), (9, true), (10, false)]))))))))), (10, (.rd 0 (.rd 2 (.rd 3 (.rd 4 (.rd 5 (.rd 6 (.two 1 7 (ofL [(7, false), (8, false), (9, false), (10, true), (11, false)]) ((.two 1 8 (ofL [(8, false), (9, false), (10, true), (11, false)]) (ofL [(1, false), (9, false), (10, true), (11, false)]))))))))))), (20, (.rd 0 (.rd 2 (.rd 3 (.rd 4 (.rd 5 (.rd 6 (.two 1 7 (ofL [(7, false), (8, false), (9, true), (10, false)]) (ofL [(1, false), (8, false), (9, true), (10, false)]))))))))), (22, (.rd 0 (.rd 2 (.rd 3 (.rd 4 (.rd 5 (.rd 6 (.two 1 7 (ofL [(7, false), (8, false), (9, true), (10, false)]) (ofL [(1, false), (8, false), (9, true), (10, false)])))))))))] Try.func42 rfl (by decide +kernel) rfl ?_
  intro a1 n2 c3 h4 h4l h4c a5 n6 c7 h8 h8l h8c a9 n10 c11 h12 h12l h12c a13 n14 c15 h16 h16l h16c a17 n18 c19 h20 h20l h20c a21 n22 c23 h24 h24l h24c a25 n26 c27 h28 h28l h28c a29 n30 c31 h32 h32l h32c a33 n34 c35 h36 h36l h36c a37 n38 c39 h40 h40l h40c a41 n42 c43 h44 h44l h44c U w H
  simp only [List.length_map] at h4
  simp only [List.length_map] at h8
  simp only [List.length_map] at h12
  simp only [List.length_map] at h16
  simp only [List.length_map] at h20
  simp only [List.length_map] at h24
  simp only [List.length_map] at h28
  simp only [List.length_map] at h32
  simp only [List.length_map] at h36
  simp only [List.length_map] at h40
  simp only [List.length_map] at h44
  intro b45 hb45
  have H := H.box hb45
  intro b46 hb46
  have H := H.box hb46
  refine ⟨[3, 7, 8, 9, 10, 11, 12, 13, 14, 15, 16, 17, 18, 19, 20, 21, 22, 23, 24],
    { X := (Nat) × (Option Addr) × (Nat) × (Nat) × (Option Addr) × (Nat) × (Nat) × (Option Addr) × (Nat) × (Nat) × (Option Addr) × (Nat) × (Nat) × (Option Addr) × (Nat) × (Nat), slots := [3], vals := fun (bt, hx, hn, hc, bx, bn, bc, lx, ln, lc, px, pn, pc, dx, dn, dc) => [.own 2 bt 0], boxes := [], cells := fun (bt, hx, hn, hc, bx, bn, bc, lx, ln, lc, px, pn, pc, dx, dn, dc) => [],
      inv := fun (bt, hx, hn, hc, bx, bn, bc, lx, ln, lc, px, pn, pc, dx, dn, dc) w' => Ctx w U [] [b45, b46, bt] [] [(.slice a1 n2 c3, .sl 4 ((s.members).map AMember.r)), (.slice a5 n6 c7, .sl 5 ((s.insts).map AInst.r)), (.slice a9 n10 c11, .sl 3 ((s.assets).map AAsset.r)), (.slice a13 n14 c15, .sl 4 ((s.accounts).map AAccount.r)), (.slice a17 n18 c19, .sl 5 ((s.choices).map AChoice.r)), (.slice a21 n22 c23, .sl 6 ((s.groups).map AGroup.r)), (.slice a25 n26 c27, .sl 11 ((s.gives).map AGive.r)), (.slice a29 n30 c31, .sl 3 ((s.book).map APos.r)), (.slice a33 n34 c35, .sl 3 ((s.sale).map APos.r)), (.slice a37 n38 c39, .sl 3 ((s.purse).map AFlow.r)), (.slice a41 n42 c43, .sl 3 ((s.holds).map AHold.r)), (.slice hx hn hc, .sl 5 ((s.choices.take 20).map AChoice.r)), (.slice bx bn bc, .sl 3 ((few19 s.book).map APos.r)), (.slice lx ln lc, .sl 3 ((few19 s.sale).map APos.r)), (.slice px pn pc, .sl 3 ((s.purse.take 20).map AFlow.r)), (.slice dx dn dc, .sl 3 ((few26 s.holds).map AHold.r))] w' ∧ (True), μ := fun _ => 0 }, fun (bt, hx, hn, hc, bx, bn, bc, lx, ln, lc, px, pn, pc, dx, dn, dc) => [⟨bt, 78, [.int .i64 (s.day), .slc none 0 0, .slc none 0 0, .slc none 0 0, .slc none 0 0, .slc hx hn hc, .slc none 0 0, .slc none 0 0, .slc bx bn bc, .slc lx ln lc, .slc px pn pc, .slc dx dn dc]⟩], by kernel_rfl, ?_, ?_, ?_⟩
  · rintro ⟨bt, hx, hn, hc, bx, bn, bc, lx, ln, lc, px, pn, pc, dx, dn, dc⟩; exact ⟨⟨rfl, trivial⟩, ⟨trivial, trivial, trivial, trivial, trivial, trivial, trivial, trivial, trivial, trivial, trivial, trivial, trivial⟩, trivial⟩
  · refine ⟨by decide +kernel, ([] : List Nat), [2], ?_⟩
    refine ⟨rfl, ?_⟩
    refine ⟨rfl, ?_⟩
    refine ⟨rfl, ?_⟩
    refine ⟨rfl, ?_⟩
    refine ⟨rfl, ?_⟩
    refine ⟨rfl, ?_⟩
    refine ⟨?_, ?_⟩
    · intro w' t
      refine H.cD t (ExtS.refl (([] : List Nat)) [2] _ _) (few16_ct (s.choices)) ?_
      intro a47 n48 c49 h50 h50l h50c w' H E
      simp only [List.length_map] at h50
      refine ⟨E, ?_⟩
      refine ⟨?_, ?_⟩
      · intro w' t
        refine H.cD t E (few19_ct (s.book)) ?_
        intro a51 n52 c53 h54 h54l h54c w' H E
        simp only [List.length_map] at h54
        refine ⟨E, ?_⟩
        refine ⟨?_, ?_⟩
        · intro w' t
          refine H.cD t E (few19_ct (s.sale)) ?_
          intro a55 n56 c57 h58 h58l h58c w' H E
          simp only [List.length_map] at h58
          refine ⟨E, ?_⟩
          refine ⟨?_, ?_⟩
          · intro w' t
            refine H.cD t E (few17_ct (s.purse)) ?_
            intro a59 n60 c61 h62 h62l h62c w' H E
            simp only [List.length_map] at h62
            refine ⟨E, ?_⟩
            refine ⟨?_, ?_⟩
            · intro w' t
              refine H.cD t E (few26_ct (s.holds)) ?_
              intro a63 n64 c65 h66 h66l h66c w' H E
              simp only [List.length_map] at h66
              refine ⟨E, ?_⟩
              intro b67 hb67
              have H := H.box hb67
              refine andE (E.box hb67) fun E => ?_
              refine andE (E.store (by repeat (first | exact trivial | exact rfl | refine ⟨?_, ?_⟩))) fun E => ?_
              intro w' t
              refine ⟨⟨b67, a47, n48, c49, a51, n52, c53, a55, n56, c57, a59, n60, c61, a63, n64, c65⟩, (by first | rfl | simp), rfl, rfl, rfl, H.fin t 3 _, ?_⟩
              trivial
            · intro b68 hb68
              have H := H.box hb68
              refine andE (E.box hb68) fun E => ?_
              intro w' t
              refine H.cD t E (few26_ct (s.holds)) ?_
              intro a69 n70 c71 h72 h72l h72c w' H E
              simp only [List.length_map] at h72
              refine ⟨E, ?_⟩
              refine andE (E.store (by repeat (first | exact trivial | exact rfl | refine ⟨?_, ?_⟩))) fun E => ?_
              intro w' t
              refine ⟨⟨b68, a47, n48, c49, a51, n52, c53, a55, n56, c57, a59, n60, c61, a69, n70, c71⟩, (by first | rfl | simp), rfl, rfl, rfl, H.fin t 3 _, ?_⟩
              trivial
          · intro b73 hb73
            have H := H.box hb73
            refine andE (E.box hb73) fun E => ?_
            intro w' t
            refine H.cD t E (few17_ct (s.purse)) ?_
            intro a74 n75 c76 h77 h77l h77c w' H E
            simp only [List.length_map] at h77
            refine ⟨E, ?_⟩
            intro w' t
            refine H.cD t E (few26_ct (s.holds)) ?_
            intro a78 n79 c80 h81 h81l h81c w' H E
            simp only [List.length_map] at h81
            refine ⟨E, ?_⟩
            refine andE (E.store (by repeat (first | exact trivial | exact rfl | refine ⟨?_, ?_⟩))) fun E => ?_
            intro w' t
            refine ⟨⟨b73, a47, n48, c49, a51, n52, c53, a55, n56, c57, a74, n75, c76, a78, n79, c80⟩, (by first | rfl | simp), rfl, rfl, rfl, H.fin t 3 _, ?_⟩
            trivial
        · intro b82 hb82
          have H := H.box hb82
          refine andE (E.box hb82) fun E => ?_
          intro w' t
          refine H.cD t E (few19_ct (s.sale)) ?_
          intro a83 n84 c85 h86 h86l h86c w' H E
          simp only [List.length_map] at h86
          refine ⟨E, ?_⟩
          intro w' t
          refine H.cD t E (few17_ct (s.purse)) ?_
          intro a87 n88 c89 h90 h90l h90c w' H E
          simp only [List.length_map] at h90
          refine ⟨E, ?_⟩
          intro w' t
          refine H.cD t E (few26_ct (s.holds)) ?_
          intro a91 n92 c93 h94 h94l h94c w' H E
          simp only [List.length_map] at h94
          refine ⟨E, ?_⟩
          refine andE (E.store (by repeat (first | exact trivial | exact rfl | refine ⟨?_, ?_⟩))) fun E => ?_
          intro w' t
          refine ⟨⟨b82, a47, n48, c49, a51, n52, c53, a83, n84, c85, a87, n88, c89, a91, n92, c93⟩, (by first | rfl | simp), rfl, rfl, rfl, H.fin t 3 _, ?_⟩
          trivial
      · intro b95 hb95
        have H := H.box hb95
        refine andE (E.box hb95) fun E => ?_
        intro w' t
        refine H.cD t E (few19_ct (s.book)) ?_
        intro a96 n97 c98 h99 h99l h99c w' H E
        simp only [List.length_map] at h99
        refine ⟨E, ?_⟩
        intro w' t
        refine H.cD t E (few19_ct (s.sale)) ?_
        intro a100 n101 c102 h103 h103l h103c w' H E
        simp only [List.length_map] at h103
        refine ⟨E, ?_⟩
        intro w' t
        refine H.cD t E (few17_ct (s.purse)) ?_
        intro a104 n105 c106 h107 h107l h107c w' H E
        simp only [List.length_map] at h107
        refine ⟨E, ?_⟩
        intro w' t
        refine H.cD t E (few26_ct (s.holds)) ?_
        intro a108 n109 c110 h111 h111l h111c w' H E
        simp only [List.length_map] at h111
        refine ⟨E, ?_⟩
        refine andE (E.store (by repeat (first | exact trivial | exact rfl | refine ⟨?_, ?_⟩))) fun E => ?_
        intro w' t
        refine ⟨⟨b95, a47, n48, c49, a96, n97, c98, a100, n101, c102, a104, n105, c106, a108, n109, c110⟩, (by first | rfl | simp), rfl, rfl, rfl, H.fin t 3 _, ?_⟩
        trivial
    · intro b112 hb112
      have H := H.box hb112
      refine andE ((ExtS.refl (([] : List Nat)) [2] _ _).box hb112) fun E => ?_
      intro w' t
      refine H.cD t E (few16_ct (s.choices)) ?_
      intro a113 n114 c115 h116 h116l h116c w' H E
      simp only [List.length_map] at h116
      refine ⟨E, ?_⟩
      intro w' t
      refine H.cD t E (few19_ct (s.book)) ?_
      intro a117 n118 c119 h120 h120l h120c w' H E
      simp only [List.length_map] at h120
      refine ⟨E, ?_⟩
      intro w' t
      refine H.cD t E (few19_ct (s.sale)) ?_
      intro a121 n122 c123 h124 h124l h124c w' H E
      simp only [List.length_map] at h124
      refine ⟨E, ?_⟩
      intro w' t
      refine H.cD t E (few17_ct (s.purse)) ?_
      intro a125 n126 c127 h128 h128l h128c w' H E
      simp only [List.length_map] at h128
      refine ⟨E, ?_⟩
      intro w' t
      refine H.cD t E (few26_ct (s.holds)) ?_
      intro a129 n130 c131 h132 h132l h132c w' H E
      simp only [List.length_map] at h132
      refine ⟨E, ?_⟩
      refine andE (E.store (by repeat (first | exact trivial | exact rfl | refine ⟨?_, ?_⟩))) fun E => ?_
      intro w' t
      refine ⟨⟨b112, a113, n114, c115, a117, n118, c119, a121, n122, c123, a125, n126, c127, a129, n130, c131⟩, (by first | rfl | simp), rfl, rfl, rfl, H.fin t 3 _, ?_⟩
      trivial
  · rintro ⟨bt, hx, hn, hc, bx, bn, bc, lx, ln, lc, px, pn, pc, dx, dn, dc⟩ w' ⟨H, hI⟩
    refine ⟨[4, 5, 25, 26, 27, 28, 29, 30, 31, 32, 33, 34, 35, 36, 37, 38, 39, 40, 41, 42, 43, 44, 45, 46, 47, 48, 49, 50, 51, 52, 53, 54, 55, 56, 57, 58, 59, 60, 61, 62, 63, 64, 65, 66, 67, 68, 69, 70, 71, 72, 73, 74, 75, 76, 77, 78, 79, 80, 81, 82, 83, 84, 85, 86, 87, 88, 89, 90, 91, 92, 93, 94, 95, 96, 97, 98],
      { X := (Nat) × (Option Addr) × (Nat) × (Option Addr) × (Nat) × (Option Addr) × (Nat) × (Option Addr) × (Nat), slots := [4], vals := fun (i, ma, mc, xa, xc, ea, ec, oa, oc) => [.int .i64 ((i : Int))], boxes := [2], cells := fun (i, ma, mc, xa, xc, ea, ec, oa, oc) => [[.int .i64 (s.day), .slc ma (s.members.take i).length mc, .slc xa ((s.insts.take i).map trim33).length xc, .slc ea (s.assets.take i).length ec, .slc oa ((s.accounts.take i).map short25).length oc, .slc hx hn hc, .slc none 0 0, .slc none 0 0, .slc bx bn bc, .slc lx ln lc, .slc px pn pc, .slc dx dn dc]],
        inv := fun (i, ma, mc, xa, xc, ea, ec, oa, oc) w' => Ctx w U [] [b45, b46, bt] [Own.row 23 4 ma mc (((s.members.take i)).map AMember.r), Own.row 152 5 xa xc ((((s.insts.take i).map trim33)).map AInst.r), Own.row 147 3 ea ec (((s.assets.take i)).map AAsset.r), Own.row 149 4 oa oc ((((s.accounts.take i).map short25)).map AAccount.r)] [(.slice a1 n2 c3, .sl 4 ((s.members).map AMember.r)), (.slice a5 n6 c7, .sl 5 ((s.insts).map AInst.r)), (.slice a9 n10 c11, .sl 3 ((s.assets).map AAsset.r)), (.slice a13 n14 c15, .sl 4 ((s.accounts).map AAccount.r)), (.slice a17 n18 c19, .sl 5 ((s.choices).map AChoice.r)), (.slice a21 n22 c23, .sl 6 ((s.groups).map AGroup.r)), (.slice a25 n26 c27, .sl 11 ((s.gives).map AGive.r)), (.slice a29 n30 c31, .sl 3 ((s.book).map APos.r)), (.slice a33 n34 c35, .sl 3 ((s.sale).map APos.r)), (.slice a37 n38 c39, .sl 3 ((s.purse).map AFlow.r)), (.slice a41 n42 c43, .sl 3 ((s.holds).map AHold.r)), (.slice hx hn hc, .sl 5 ((s.choices.take 20).map AChoice.r)), (.slice bx bn bc, .sl 3 ((few19 s.book).map APos.r)), (.slice lx ln lc, .sl 3 ((few19 s.sale).map APos.r)), (.slice px pn pc, .sl 3 ((s.purse.take 20).map AFlow.r)), (.slice dx dn dc, .sl 3 ((few26 s.holds).map AHold.r))] w' ∧ (i ≤ 20), μ := fun (i, ma, mc, xa, xc, ea, ec, oa, oc) => 20 - i }, by kernel_rfl, ?_, ?_, ?_⟩
    · rintro ⟨i, ma, mc, xa, xc, ea, ec, oa, oc⟩; exact ⟨⟨trivial, trivial⟩, ⟨trivial, trivial, trivial, trivial, trivial, trivial, trivial, trivial, trivial, trivial, trivial, trivial, trivial⟩, trivial⟩
    · intro w' t
      have H := H.newRow 149 4
      have H := H.newRow 147 3
      have H := H.newRow 152 5
      have H := H.newRow 23 4
      refine ⟨⟨0, none, 0, none, 0, none, 0, none, 0⟩, rfl, rfl, rfl, rfl, H.fin t 3 _, ?_⟩
      exact Nat.zero_le _
    · rintro ⟨i, ma, mc, xa, xc, ea, ec, oa, oc⟩ w' ⟨H, hI⟩
      have hi := hI
      apply And.intro <;> intro q133
      · have q133' := of_decide_eq_true q133
        refine ⟨[5, 29, 30, 31, 32, 33, 34, 35, 36, 37, 38, 39, 40, 41, 42, 43, 44, 45, 46, 47, 48, 49, 50, 51, 52, 53, 54, 55, 56, 57, 58, 59, 60, 61, 62, 63, 64, 65, 66, 67, 68, 69, 70, 71, 72, 73, 74, 75, 76, 77, 78, 79, 80, 81, 82, 83, 84, 85, 86, 87, 88, 89, 90, 91, 92, 93, 94, 95, 96, 97, 98],
          { X := (Option Addr) × (Nat) × (Option Addr) × (Nat) × (Option Addr) × (Nat) × (Option Addr) × (Nat), slots := [], vals := fun (ma, mc, xa, xc, ea, ec, oa, oc) => [], boxes := [2], cells := fun (ma, mc, xa, xc, ea, ec, oa, oc) => [[.int .i64 (s.day), .slc ma (s.members.take (i + 1)).length mc, .slc xa ((s.insts.take (i + 1)).map trim33).length xc, .slc ea (s.assets.take (i + 1)).length ec, .slc oa ((s.accounts.take (i + 1)).map short25).length oc, .slc hx hn hc, .slc none 0 0, .slc none 0 0, .slc bx bn bc, .slc lx ln lc, .slc px pn pc, .slc dx dn dc]],
            inv := fun (ma, mc, xa, xc, ea, ec, oa, oc) w' => Ctx w U [] [b45, b46, bt] [Own.row 23 4 ma mc (((s.members.take (i + 1))).map AMember.r), Own.row 152 5 xa xc ((((s.insts.take (i + 1)).map trim33)).map AInst.r), Own.row 147 3 ea ec (((s.assets.take (i + 1))).map AAsset.r), Own.row 149 4 oa oc ((((s.accounts.take (i + 1)).map short25)).map AAccount.r)] [(.slice a1 n2 c3, .sl 4 ((s.members).map AMember.r)), (.slice a5 n6 c7, .sl 5 ((s.insts).map AInst.r)), (.slice a9 n10 c11, .sl 3 ((s.assets).map AAsset.r)), (.slice a13 n14 c15, .sl 4 ((s.accounts).map AAccount.r)), (.slice a17 n18 c19, .sl 5 ((s.choices).map AChoice.r)), (.slice a21 n22 c23, .sl 6 ((s.groups).map AGroup.r)), (.slice a25 n26 c27, .sl 11 ((s.gives).map AGive.r)), (.slice a29 n30 c31, .sl 3 ((s.book).map APos.r)), (.slice a33 n34 c35, .sl 3 ((s.sale).map APos.r)), (.slice a37 n38 c39, .sl 3 ((s.purse).map AFlow.r)), (.slice a41 n42 c43, .sl 3 ((s.holds).map AHold.r)), (.slice hx hn hc, .sl 5 ((s.choices.take 20).map AChoice.r)), (.slice bx bn bc, .sl 3 ((few19 s.book).map APos.r)), (.slice lx ln lc, .sl 3 ((few19 s.sale).map APos.r)), (.slice px pn pc, .sl 3 ((s.purse.take 20).map AFlow.r)), (.slice dx dn dc, .sl 3 ((few26 s.holds).map AHold.r))] w' ∧ (True), μ := fun _ => 0 }, fun (ma, mc, xa, xc, ea, ec, oa, oc) => [], by kernel_rfl, ?_, ?_, ?_⟩
        · rintro ⟨ma, mc, xa, xc, ea, ec, oa, oc⟩; exact ⟨trivial, ⟨trivial, trivial, trivial, trivial, trivial, trivial, trivial, trivial, trivial, trivial, trivial, trivial, trivial⟩, trivial⟩
        · refine ⟨[29, 30, 31, 32, 33, 34, 35, 36, 37, 38, 39, 40, 41, 42, 43],
            { X := (Option Addr) × (Nat), slots := [], vals := fun (ma, mc) => [], boxes := [2], cells := fun (ma, mc) => [[.int .i64 (s.day), .slc ma (s.members.take (i + 1)).length mc, .slc xa ((s.insts.take i).map trim33).length xc, .slc ea (s.assets.take i).length ec, .slc oa ((s.accounts.take i).map short25).length oc, .slc hx hn hc, .slc none 0 0, .slc none 0 0, .slc bx bn bc, .slc lx ln lc, .slc px pn pc, .slc dx dn dc]],
              inv := fun (ma, mc) w' => Ctx w U [] [b45, b46, bt] [Own.row 23 4 ma mc (((s.members.take (i + 1))).map AMember.r), Own.row 152 5 xa xc ((((s.insts.take i).map trim33)).map AInst.r), Own.row 147 3 ea ec (((s.assets.take i)).map AAsset.r), Own.row 149 4 oa oc ((((s.accounts.take i).map short25)).map AAccount.r)] [(.slice a1 n2 c3, .sl 4 ((s.members).map AMember.r)), (.slice a5 n6 c7, .sl 5 ((s.insts).map AInst.r)), (.slice a9 n10 c11, .sl 3 ((s.assets).map AAsset.r)), (.slice a13 n14 c15, .sl 4 ((s.accounts).map AAccount.r)), (.slice a17 n18 c19, .sl 5 ((s.choices).map AChoice.r)), (.slice a21 n22 c23, .sl 6 ((s.groups).map AGroup.r)), (.slice a25 n26 c27, .sl 11 ((s.gives).map AGive.r)), (.slice a29 n30 c31, .sl 3 ((s.book).map APos.r)), (.slice a33 n34 c35, .sl 3 ((s.sale).map APos.r)), (.slice a37 n38 c39, .sl 3 ((s.purse).map AFlow.r)), (.slice a41 n42 c43, .sl 3 ((s.holds).map AHold.r)), (.slice hx hn hc, .sl 5 ((s.choices.take 20).map AChoice.r)), (.slice bx bn bc, .sl 3 ((few19 s.book).map APos.r)), (.slice lx ln lc, .sl 3 ((few19 s.sale).map APos.r)), (.slice px pn pc, .sl 3 ((s.purse.take 20).map AFlow.r)), (.slice dx dn dc, .sl 3 ((few26 s.holds).map AHold.r))] w' ∧ (True), μ := fun _ => 0 }, fun (ma, mc) => [], by kernel_rfl, ?_, ?_, ?_⟩
          · rintro ⟨ma, mc⟩; exact ⟨trivial, ⟨trivial, trivial, trivial, trivial, trivial, trivial, trivial, trivial, trivial, trivial, trivial, trivial, trivial⟩, trivial⟩
          · apply And.intro <;> intro q134
            · have q134' := of_decide_eq_true q134
              have hin_members : i < s.members.length := by omega
              refine ⟨by decide +kernel, oblk ma ++ oblk xa ++ oblk ea ++ oblk oa ++ ([] : List Nat), [2], ?_⟩
              refine ⟨rfl, ?_⟩
              refine H.at (a := a1) (n := n2) (c := c3) (els := (s.members).map AMember.r) (i := ((i : Int)).toNat) (cs := (AMember.r (s.members[i]'hin_members))) (by simp [hin_members]) (Nat.succ_pos _) ?_
              intro ad135 hn136e hn136 H hat137l hat137
              refine ⟨ad135, hn136e, (by first | exact Int.natCast_nonneg _ | omega), (by first | omega | (simp; omega)), ?_⟩
              refine ⟨fun hm => Us.own (Us.ad hn136) (by simpa [ownBl, Own.row, oblk, Own.obj] using hm), [.int .i64 ((s.members[i]'hin_members).id), .int .i64 ((s.members[i]'hin_members).cap), .int .i64 ((s.members[i]'hin_members).phase), .int .i64 ((s.members[i]'hin_members).until_)], rfl, List.cons_ne_nil _ _, hat137, Us.box (Us.ad hn136), ?_⟩
              refine ⟨?_, ?_⟩
              · refine andE (ExtS.refl (oblk ma ++ oblk xa ++ oblk ea ++ oblk oa ++ ([] : List Nat)) [2] _ _) fun E => ?_
                intro w' t
                refine Ctx.litD elemOk67 H t E (els := [[.val (.int .i64 ((s.members[i]'hin_members).id)), .val (.int .i64 ((s.members[i]'hin_members).cap)), .val (.int .i64 ((s.members[i]'hin_members).phase)), .val (.int .i64 ((s.members[i]'hin_members).until_))]]) [.agg #[.int .i64 ((s.members[i]'hin_members).id), .int .i64 ((s.members[i]'hin_members).cap), .int .i64 ((s.members[i]'hin_members).phase), .int .i64 ((s.members[i]'hin_members).until_)]] rfl (⟨rfl, ⟨⟨rfl, rfl, rfl, rfl, trivial⟩, rfl⟩, trivial⟩) rfl (by decide) (by decide) ?_
                intro lb138 w' H E
                refine ⟨E, ?_⟩
                intro w' t
                refine H.apD (a2 := (some ⟨lb138, 0, none⟩)) (m := 1) (c2 := 1) (news := ([((s.members[i]'hin_members))]).map AMember.r) t E (fun b hb => by simp [hb]) elemOk67 (by simp) (by first | (rw [maxLen_eq]; simp; omega) | (rw [maxLen_eq]; simp at *; omega)) (by first | (simp; omega) | (simp at *; omega)) ?_ (hm := by repeat (first | exact List.Mem.head _ | apply List.Mem.tail))
                intro a139 c140 w' H E hl141
                refine ⟨E, ?_⟩
                have H := H.rowEq ((((s.members.take i) ++ [((s.members[i]'hin_members))])).map AMember.r) (by first | (rw [List.map_append]; done) | simp)
                refine andE (E.store (by repeat (first | exact trivial | exact rfl | refine ⟨?_, ?_⟩))) fun E => ?_
                have H := H.rowEq (((s.members.take (i + 1))).map AMember.r) (by first | (rw [take_succ' _ _ hin_members]; done) | (rw [take_map_succ _ _ _ hin_members]; done) | (rw [take_map_succ _ _ _ hin_members]; rfl) | (rw [take_map_succ _ _ _ hin_members, he]; done) | (rw [take_all' _ i (by omega)]))
                intro w' t
                refine ⟨⟨a139, c140⟩, rfl, rfl, (by first | rfl | (simp; omega) | simp), H.fin t 3 _, ?_⟩
                trivial
              · intro w' t
                refine Ctx.litD elemOk67 H t (ExtS.refl (oblk ma ++ oblk xa ++ oblk ea ++ oblk oa ++ ([] : List Nat)) [2] _ _) (els := [[.val (.int .i64 ((s.members[i]'hin_members).id)), .val (.int .i64 ((s.members[i]'hin_members).cap)), .val (.int .i64 ((s.members[i]'hin_members).phase)), .val (.int .i64 ((s.members[i]'hin_members).until_))]]) [.agg #[.int .i64 ((s.members[i]'hin_members).id), .int .i64 ((s.members[i]'hin_members).cap), .int .i64 ((s.members[i]'hin_members).phase), .int .i64 ((s.members[i]'hin_members).until_)]] rfl (⟨rfl, ⟨⟨rfl, rfl, rfl, rfl, trivial⟩, rfl⟩, trivial⟩) rfl (by decide) (by decide) ?_
                intro lb142 w' H E
                refine ⟨E, ?_⟩
                refine andE E fun E => ?_
                intro w' t
                refine H.apD (a2 := (some ⟨lb142, 0, none⟩)) (m := 1) (c2 := 1) (news := ([((s.members[i]'hin_members))]).map AMember.r) t E (fun b hb => by simp [hb]) elemOk67 (by simp) (by first | (rw [maxLen_eq]; simp; omega) | (rw [maxLen_eq]; simp at *; omega)) (by first | (simp; omega) | (simp at *; omega)) ?_ (hm := by repeat (first | exact List.Mem.head _ | apply List.Mem.tail))
                intro a143 c144 w' H E hl145
                refine ⟨E, ?_⟩
                have H := H.rowEq ((((s.members.take i) ++ [((s.members[i]'hin_members))])).map AMember.r) (by first | (rw [List.map_append]; done) | simp)
                refine andE (E.store (by repeat (first | exact trivial | exact rfl | refine ⟨?_, ?_⟩))) fun E => ?_
                have H := H.rowEq (((s.members.take (i + 1))).map AMember.r) (by first | (rw [take_succ' _ _ hin_members]; done) | (rw [take_map_succ _ _ _ hin_members]; done) | (rw [take_map_succ _ _ _ hin_members]; rfl) | (rw [take_map_succ _ _ _ hin_members, he]; done) | (rw [take_all' _ i (by omega)]))
                intro w' t
                refine ⟨⟨a143, c144⟩, rfl, rfl, (by first | rfl | (simp; omega) | simp), H.fin t 3 _, ?_⟩
                trivial
            · have q134' := of_decide_eq_false q134
              have H := H.rowEq (((s.members.take (i + 1))).map AMember.r) (by first | (rw [take_succ' _ _ hin_members]; done) | (rw [take_map_succ _ _ _ hin_members]; done) | (rw [take_map_succ _ _ _ hin_members]; rfl) | (rw [take_map_succ _ _ _ hin_members, he]; done) | (rw [take_all' _ i (by omega)]))
              intro w' t
              refine ⟨⟨ma, mc⟩, rfl, rfl, (by first | rfl | (simp; omega) | simp), H.fin t 3 _, ?_⟩
              trivial
          · rintro ⟨ma, mc⟩ w' ⟨H, hI⟩
            refine ⟨[44, 45, 46, 47, 48, 49, 50, 51, 52, 53, 54, 55, 56, 57, 58],
              { X := (Option Addr) × (Nat), slots := [], vals := fun (ea, ec) => [], boxes := [2], cells := fun (ea, ec) => [[.int .i64 (s.day), .slc ma (s.members.take (i + 1)).length mc, .slc xa ((s.insts.take i).map trim33).length xc, .slc ea (s.assets.take (i + 1)).length ec, .slc oa ((s.accounts.take i).map short25).length oc, .slc hx hn hc, .slc none 0 0, .slc none 0 0, .slc bx bn bc, .slc lx ln lc, .slc px pn pc, .slc dx dn dc]],
                inv := fun (ea, ec) w' => Ctx w U [] [b45, b46, bt] [Own.row 23 4 ma mc (((s.members.take (i + 1))).map AMember.r), Own.row 152 5 xa xc ((((s.insts.take i).map trim33)).map AInst.r), Own.row 147 3 ea ec (((s.assets.take (i + 1))).map AAsset.r), Own.row 149 4 oa oc ((((s.accounts.take i).map short25)).map AAccount.r)] [(.slice a1 n2 c3, .sl 4 ((s.members).map AMember.r)), (.slice a5 n6 c7, .sl 5 ((s.insts).map AInst.r)), (.slice a9 n10 c11, .sl 3 ((s.assets).map AAsset.r)), (.slice a13 n14 c15, .sl 4 ((s.accounts).map AAccount.r)), (.slice a17 n18 c19, .sl 5 ((s.choices).map AChoice.r)), (.slice a21 n22 c23, .sl 6 ((s.groups).map AGroup.r)), (.slice a25 n26 c27, .sl 11 ((s.gives).map AGive.r)), (.slice a29 n30 c31, .sl 3 ((s.book).map APos.r)), (.slice a33 n34 c35, .sl 3 ((s.sale).map APos.r)), (.slice a37 n38 c39, .sl 3 ((s.purse).map AFlow.r)), (.slice a41 n42 c43, .sl 3 ((s.holds).map AHold.r)), (.slice hx hn hc, .sl 5 ((s.choices.take 20).map AChoice.r)), (.slice bx bn bc, .sl 3 ((few19 s.book).map APos.r)), (.slice lx ln lc, .sl 3 ((few19 s.sale).map APos.r)), (.slice px pn pc, .sl 3 ((s.purse.take 20).map AFlow.r)), (.slice dx dn dc, .sl 3 ((few26 s.holds).map AHold.r))] w' ∧ (True), μ := fun _ => 0 }, fun (ea, ec) => [], by kernel_rfl, ?_, ?_, ?_⟩
            · rintro ⟨ea, ec⟩; exact ⟨trivial, ⟨trivial, trivial, trivial, trivial, trivial, trivial, trivial, trivial, trivial, trivial, trivial, trivial, trivial⟩, trivial⟩
            · apply And.intro <;> intro q146
              · have q146' := of_decide_eq_true q146
                have hin_assets : i < s.assets.length := by omega
                refine ⟨by decide +kernel, oblk ma ++ oblk xa ++ oblk ea ++ oblk oa ++ ([] : List Nat), [2], ?_⟩
                refine ⟨rfl, ?_⟩
                refine H.at (a := a9) (n := n10) (c := c11) (els := (s.assets).map AAsset.r) (i := ((i : Int)).toNat) (cs := (AAsset.r (s.assets[i]'hin_assets))) (by simp [hin_assets]) (Nat.succ_pos _) ?_
                intro ad147 hn148e hn148 H hat149l hat149
                refine ⟨ad147, hn148e, (by first | exact Int.natCast_nonneg _ | omega), (by first | omega | (simp; omega)), ?_⟩
                refine ⟨fun hm => Us.own (Us.ad hn148) (by simpa [ownBl, Own.row, oblk, Own.obj] using hm), [.int .i64 ((s.assets[i]'hin_assets).id), .int .i64 ((s.assets[i]'hin_assets).price), .int .i64 ((s.assets[i]'hin_assets).haircut)], rfl, List.cons_ne_nil _ _, hat149, Us.box (Us.ad hn148), ?_⟩
                refine ⟨?_, ?_⟩
                · refine andE (ExtS.refl (oblk ma ++ oblk xa ++ oblk ea ++ oblk oa ++ ([] : List Nat)) [2] _ _) fun E => ?_
                  intro w' t
                  refine Ctx.litD elemOk69 H t E (els := [[.val (.int .i64 ((s.assets[i]'hin_assets).id)), .val (.int .i64 ((s.assets[i]'hin_assets).price)), .val (.int .i64 ((s.assets[i]'hin_assets).haircut))]]) [.agg #[.int .i64 ((s.assets[i]'hin_assets).id), .int .i64 ((s.assets[i]'hin_assets).price), .int .i64 ((s.assets[i]'hin_assets).haircut)]] rfl (⟨rfl, ⟨⟨rfl, rfl, rfl, trivial⟩, rfl⟩, trivial⟩) rfl (by decide) (by decide) ?_
                  intro lb150 w' H E
                  refine ⟨E, ?_⟩
                  have H := H.front 2
                  intro w' t
                  refine H.apD (a2 := (some ⟨lb150, 0, none⟩)) (m := 1) (c2 := 1) (news := ([((s.assets[i]'hin_assets))]).map AAsset.r) t E (fun b hb => by simp [hb]) elemOk69 (by simp) (by first | (rw [maxLen_eq]; simp; omega) | (rw [maxLen_eq]; simp at *; omega)) (by first | (simp; omega) | (simp at *; omega)) ?_ (hm := by repeat (first | exact List.Mem.head _ | apply List.Mem.tail))
                  intro a151 c152 w' H E hl153
                  refine ⟨E, ?_⟩
                  have H := H.rowEq ((((s.assets.take i) ++ [((s.assets[i]'hin_assets))])).map AAsset.r) (by first | (rw [List.map_append]; done) | simp)
                  refine andE (E.store (by repeat (first | exact trivial | exact rfl | refine ⟨?_, ?_⟩))) fun E => ?_
                  have H := H.rowEq (((s.assets.take (i + 1))).map AAsset.r) (by first | (rw [take_succ' _ _ hin_assets]; done) | (rw [take_map_succ _ _ _ hin_assets]; done) | (rw [take_map_succ _ _ _ hin_assets]; rfl) | (rw [take_map_succ _ _ _ hin_assets, he]; done) | (rw [take_all' _ i (by omega)]))
                  have H := H.front 3
                  have H := H.front 1
                  have H := H.front 3
                  have H := H.front 3
                  intro w' t
                  refine ⟨⟨a151, c152⟩, rfl, rfl, (by first | rfl | (simp; omega) | simp), H.fin t 3 _, ?_⟩
                  trivial
                · intro w' t
                  refine Ctx.litD elemOk69 H t (ExtS.refl (oblk ma ++ oblk xa ++ oblk ea ++ oblk oa ++ ([] : List Nat)) [2] _ _) (els := [[.val (.int .i64 ((s.assets[i]'hin_assets).id)), .val (.int .i64 ((s.assets[i]'hin_assets).price)), .val (.int .i64 ((s.assets[i]'hin_assets).haircut))]]) [.agg #[.int .i64 ((s.assets[i]'hin_assets).id), .int .i64 ((s.assets[i]'hin_assets).price), .int .i64 ((s.assets[i]'hin_assets).haircut)]] rfl (⟨rfl, ⟨⟨rfl, rfl, rfl, trivial⟩, rfl⟩, trivial⟩) rfl (by decide) (by decide) ?_
                  intro lb154 w' H E
                  refine ⟨E, ?_⟩
                  refine andE E fun E => ?_
                  have H := H.front 2
                  intro w' t
                  refine H.apD (a2 := (some ⟨lb154, 0, none⟩)) (m := 1) (c2 := 1) (news := ([((s.assets[i]'hin_assets))]).map AAsset.r) t E (fun b hb => by simp [hb]) elemOk69 (by simp) (by first | (rw [maxLen_eq]; simp; omega) | (rw [maxLen_eq]; simp at *; omega)) (by first | (simp; omega) | (simp at *; omega)) ?_ (hm := by repeat (first | exact List.Mem.head _ | apply List.Mem.tail))
                  intro a155 c156 w' H E hl157
                  refine ⟨E, ?_⟩
                  have H := H.rowEq ((((s.assets.take i) ++ [((s.assets[i]'hin_assets))])).map AAsset.r) (by first | (rw [List.map_append]; done) | simp)
                  refine andE (E.store (by repeat (first | exact trivial | exact rfl | refine ⟨?_, ?_⟩))) fun E => ?_
                  have H := H.rowEq (((s.assets.take (i + 1))).map AAsset.r) (by first | (rw [take_succ' _ _ hin_assets]; done) | (rw [take_map_succ _ _ _ hin_assets]; done) | (rw [take_map_succ _ _ _ hin_assets]; rfl) | (rw [take_map_succ _ _ _ hin_assets, he]; done) | (rw [take_all' _ i (by omega)]))
                  have H := H.front 3
                  have H := H.front 1
                  have H := H.front 3
                  have H := H.front 3
                  intro w' t
                  refine ⟨⟨a155, c156⟩, rfl, rfl, (by first | rfl | (simp; omega) | simp), H.fin t 3 _, ?_⟩
                  trivial
              · have q146' := of_decide_eq_false q146
                have H := H.front 2
                have H := H.rowEq (((s.assets.take (i + 1))).map AAsset.r) (by first | (rw [take_succ' _ _ hin_assets]; done) | (rw [take_map_succ _ _ _ hin_assets]; done) | (rw [take_map_succ _ _ _ hin_assets]; rfl) | (rw [take_map_succ _ _ _ hin_assets, he]; done) | (rw [take_all' _ i (by omega)]))
                have H := H.front 3
                have H := H.front 1
                have H := H.front 3
                have H := H.front 3
                intro w' t
                refine ⟨⟨ea, ec⟩, rfl, rfl, (by first | rfl | (simp; omega) | simp), H.fin t 3 _, ?_⟩
                trivial
            · rintro ⟨ea, ec⟩ w' ⟨H, hI⟩
              refine ⟨[59, 60, 61, 62, 63, 64, 65, 66, 67, 68, 69, 70, 71, 72, 73, 74],
                { X := (Option Addr) × (Nat), slots := [], vals := fun (oa, oc) => [], boxes := [2], cells := fun (oa, oc) => [[.int .i64 (s.day), .slc ma (s.members.take (i + 1)).length mc, .slc xa ((s.insts.take i).map trim33).length xc, .slc ea (s.assets.take (i + 1)).length ec, .slc oa ((s.accounts.take (i + 1)).map short25).length oc, .slc hx hn hc, .slc none 0 0, .slc none 0 0, .slc bx bn bc, .slc lx ln lc, .slc px pn pc, .slc dx dn dc]],
                  inv := fun (oa, oc) w' => Ctx w U [] [b45, b46, bt] [Own.row 23 4 ma mc (((s.members.take (i + 1))).map AMember.r), Own.row 152 5 xa xc ((((s.insts.take i).map trim33)).map AInst.r), Own.row 147 3 ea ec (((s.assets.take (i + 1))).map AAsset.r), Own.row 149 4 oa oc ((((s.accounts.take (i + 1)).map short25)).map AAccount.r)] [(.slice a1 n2 c3, .sl 4 ((s.members).map AMember.r)), (.slice a5 n6 c7, .sl 5 ((s.insts).map AInst.r)), (.slice a9 n10 c11, .sl 3 ((s.assets).map AAsset.r)), (.slice a13 n14 c15, .sl 4 ((s.accounts).map AAccount.r)), (.slice a17 n18 c19, .sl 5 ((s.choices).map AChoice.r)), (.slice a21 n22 c23, .sl 6 ((s.groups).map AGroup.r)), (.slice a25 n26 c27, .sl 11 ((s.gives).map AGive.r)), (.slice a29 n30 c31, .sl 3 ((s.book).map APos.r)), (.slice a33 n34 c35, .sl 3 ((s.sale).map APos.r)), (.slice a37 n38 c39, .sl 3 ((s.purse).map AFlow.r)), (.slice a41 n42 c43, .sl 3 ((s.holds).map AHold.r)), (.slice hx hn hc, .sl 5 ((s.choices.take 20).map AChoice.r)), (.slice bx bn bc, .sl 3 ((few19 s.book).map APos.r)), (.slice lx ln lc, .sl 3 ((few19 s.sale).map APos.r)), (.slice px pn pc, .sl 3 ((s.purse.take 20).map AFlow.r)), (.slice dx dn dc, .sl 3 ((few26 s.holds).map AHold.r))] w' ∧ (True), μ := fun _ => 0 }, fun (oa, oc) => [], by kernel_rfl, ?_, ?_, ?_⟩
              · rintro ⟨oa, oc⟩; exact ⟨trivial, ⟨trivial, trivial, trivial, trivial, trivial, trivial, trivial, trivial, trivial, trivial, trivial, trivial, trivial⟩, trivial⟩
              · apply And.intro <;> intro q158
                · have q158' := of_decide_eq_true q158
                  have hin_accounts : i < s.accounts.length := by omega
                  refine ⟨by decide +kernel, oblk ma ++ oblk xa ++ oblk ea ++ oblk oa ++ ([] : List Nat), [2], ?_⟩
                  refine ⟨rfl, ?_⟩
                  refine H.at (a := a13) (n := n14) (c := c15) (els := (s.accounts).map AAccount.r) (i := ((i : Int)).toNat) (cs := (AAccount.r (s.accounts[i]'hin_accounts))) (by simp [hin_accounts]) (Nat.succ_pos _) ?_
                  intro ad159 hn160e hn160 a161 n162 c163 h164 h164l h164c H hat165l hat165
                  simp only [List.length_map] at h164
                  refine ⟨ad159, hn160e, (by first | exact Int.natCast_nonneg _ | omega), (by first | omega | (simp; omega)), ?_⟩
                  refine ⟨fun hm => Us.own (Us.ad hn160) (by simpa [ownBl, Own.row, oblk, Own.obj] using hm), [.int .i64 ((s.accounts[i]'hin_accounts).id), .int .i64 ((s.accounts[i]'hin_accounts).member), .int .i64 ((s.accounts[i]'hin_accounts).kind), .slice a161 n162 c163], rfl, List.cons_ne_nil _ _, hat165, Us.box (Us.ad hn160), ?_⟩
                  refine ⟨?_, ?_⟩
                  · refine andE (ExtS.refl (oblk ma ++ oblk xa ++ oblk ea ++ oblk oa ++ ([] : List Nat)) [2] _ _) fun E => ?_
                    intro w' t
                    refine H.cD t E (short25_ct ((s.accounts[i]'hin_accounts))) ?_
                    intro a166 n167 c168 h169 h169l h169c w' H E
                    simp only [List.length_map] at h169
                    refine ⟨E, ?_⟩
                    intro w' t
                    refine Ctx.litD elemOk70 H t E (els := [[.val (.int .i64 ((short25 ((s.accounts[i]'hin_accounts))).id)), .val (.int .i64 ((short25 ((s.accounts[i]'hin_accounts))).member)), .val (.int .i64 ((short25 ((s.accounts[i]'hin_accounts))).kind)), .sl 1 (((short25 ((s.accounts[i]'hin_accounts))).clients).map (fun x => [.val (.int .i64 x)]))]]) [.agg #[.int .i64 ((short25 ((s.accounts[i]'hin_accounts))).id), .int .i64 ((short25 ((s.accounts[i]'hin_accounts))).member), .int .i64 ((short25 ((s.accounts[i]'hin_accounts))).kind), .slice a166 n167 c168]] rfl (⟨rfl, ⟨⟨rfl, rfl, rfl, by repeat (first | exact List.Mem.head _ | apply List.Mem.tail), trivial⟩, rfl⟩, trivial⟩) rfl (by decide) (by decide) ?_
                    intro lb170 w' H E
                    refine ⟨E, ?_⟩
                    have H := H.front 3
                    intro w' t
                    refine H.apD (a2 := (some ⟨lb170, 0, none⟩)) (m := 1) (c2 := 1) (news := ([((short25 ((s.accounts[i]'hin_accounts))))]).map AAccount.r) t E (fun b hb => by simp [hb]) elemOk70 (by simp) (by first | (rw [maxLen_eq]; simp; omega) | (rw [maxLen_eq]; simp at *; omega)) (by first | (simp; omega) | (simp at *; omega)) ?_ (hm := by repeat (first | exact List.Mem.head _ | apply List.Mem.tail))
                    intro a171 c172 w' H E hl173
                    refine ⟨E, ?_⟩
                    have H := H.rowEq (((((s.accounts.take i).map short25) ++ [((short25 ((s.accounts[i]'hin_accounts))))])).map AAccount.r) (by first | (rw [List.map_append]; done) | simp)
                    refine andE (E.store (by repeat (first | exact trivial | exact rfl | refine ⟨?_, ?_⟩))) fun E => ?_
                    have H := H.rowEq ((((s.accounts.take (i + 1)).map short25)).map AAccount.r) (by first | (rw [take_succ' _ _ hin_accounts]; done) | (rw [take_map_succ _ _ _ hin_accounts]; done) | (rw [take_map_succ _ _ _ hin_accounts]; rfl) | (rw [take_map_succ _ _ _ hin_accounts, he]; done) | (rw [take_all' _ i (by omega)]))
                    have H := H.front 3
                    have H := H.front 3
                    have H := H.front 3
                    intro w' t
                    refine ⟨⟨a171, c172⟩, rfl, rfl, (by first | rfl | (simp; omega) | simp), H.fin t 3 _, ?_⟩
                    trivial
                  · intro w' t
                    refine H.cD t (ExtS.refl (oblk ma ++ oblk xa ++ oblk ea ++ oblk oa ++ ([] : List Nat)) [2] _ _) (short25_ct ((s.accounts[i]'hin_accounts))) ?_
                    intro a174 n175 c176 h177 h177l h177c w' H E
                    simp only [List.length_map] at h177
                    refine ⟨E, ?_⟩
                    refine ⟨?_, ?_⟩
                    · refine andE E fun E => ?_
                      intro w' t
                      refine Ctx.litD elemOk70 H t E (els := [[.val (.int .i64 ((short25 ((s.accounts[i]'hin_accounts))).id)), .val (.int .i64 ((short25 ((s.accounts[i]'hin_accounts))).member)), .val (.int .i64 ((short25 ((s.accounts[i]'hin_accounts))).kind)), .sl 1 (((short25 ((s.accounts[i]'hin_accounts))).clients).map (fun x => [.val (.int .i64 x)]))]]) [.agg #[.int .i64 ((short25 ((s.accounts[i]'hin_accounts))).id), .int .i64 ((short25 ((s.accounts[i]'hin_accounts))).member), .int .i64 ((short25 ((s.accounts[i]'hin_accounts))).kind), .slice a174 n175 c176]] rfl (⟨rfl, ⟨⟨rfl, rfl, rfl, by repeat (first | exact List.Mem.head _ | apply List.Mem.tail), trivial⟩, rfl⟩, trivial⟩) rfl (by decide) (by decide) ?_
                      intro lb178 w' H E
                      refine ⟨E, ?_⟩
                      have H := H.front 3
                      intro w' t
                      refine H.apD (a2 := (some ⟨lb178, 0, none⟩)) (m := 1) (c2 := 1) (news := ([((short25 ((s.accounts[i]'hin_accounts))))]).map AAccount.r) t E (fun b hb => by simp [hb]) elemOk70 (by simp) (by first | (rw [maxLen_eq]; simp; omega) | (rw [maxLen_eq]; simp at *; omega)) (by first | (simp; omega) | (simp at *; omega)) ?_ (hm := by repeat (first | exact List.Mem.head _ | apply List.Mem.tail))
                      intro a179 c180 w' H E hl181
                      refine ⟨E, ?_⟩
                      have H := H.rowEq (((((s.accounts.take i).map short25) ++ [((short25 ((s.accounts[i]'hin_accounts))))])).map AAccount.r) (by first | (rw [List.map_append]; done) | simp)
                      refine andE (E.store (by repeat (first | exact trivial | exact rfl | refine ⟨?_, ?_⟩))) fun E => ?_
                      have H := H.rowEq ((((s.accounts.take (i + 1)).map short25)).map AAccount.r) (by first | (rw [take_succ' _ _ hin_accounts]; done) | (rw [take_map_succ _ _ _ hin_accounts]; done) | (rw [take_map_succ _ _ _ hin_accounts]; rfl) | (rw [take_map_succ _ _ _ hin_accounts, he]; done) | (rw [take_all' _ i (by omega)]))
                      have H := H.front 3
                      have H := H.front 3
                      have H := H.front 3
                      intro w' t
                      refine ⟨⟨a179, c180⟩, rfl, rfl, (by first | rfl | (simp; omega) | simp), H.fin t 3 _, ?_⟩
                      trivial
                    · intro w' t
                      refine Ctx.litD elemOk70 H t E (els := [[.val (.int .i64 ((short25 ((s.accounts[i]'hin_accounts))).id)), .val (.int .i64 ((short25 ((s.accounts[i]'hin_accounts))).member)), .val (.int .i64 ((short25 ((s.accounts[i]'hin_accounts))).kind)), .sl 1 (((short25 ((s.accounts[i]'hin_accounts))).clients).map (fun x => [.val (.int .i64 x)]))]]) [.agg #[.int .i64 ((short25 ((s.accounts[i]'hin_accounts))).id), .int .i64 ((short25 ((s.accounts[i]'hin_accounts))).member), .int .i64 ((short25 ((s.accounts[i]'hin_accounts))).kind), .slice a174 n175 c176]] rfl (⟨rfl, ⟨⟨rfl, rfl, rfl, by repeat (first | exact List.Mem.head _ | apply List.Mem.tail), trivial⟩, rfl⟩, trivial⟩) rfl (by decide) (by decide) ?_
                      intro lb182 w' H E
                      refine ⟨E, ?_⟩
                      refine andE E fun E => ?_
                      have H := H.front 3
                      intro w' t
                      refine H.apD (a2 := (some ⟨lb182, 0, none⟩)) (m := 1) (c2 := 1) (news := ([((short25 ((s.accounts[i]'hin_accounts))))]).map AAccount.r) t E (fun b hb => by simp [hb]) elemOk70 (by simp) (by first | (rw [maxLen_eq]; simp; omega) | (rw [maxLen_eq]; simp at *; omega)) (by first | (simp; omega) | (simp at *; omega)) ?_ (hm := by repeat (first | exact List.Mem.head _ | apply List.Mem.tail))
                      intro a183 c184 w' H E hl185
                      refine ⟨E, ?_⟩
                      have H := H.rowEq (((((s.accounts.take i).map short25) ++ [((short25 ((s.accounts[i]'hin_accounts))))])).map AAccount.r) (by first | (rw [List.map_append]; done) | simp)
                      refine andE (E.store (by repeat (first | exact trivial | exact rfl | refine ⟨?_, ?_⟩))) fun E => ?_
                      have H := H.rowEq ((((s.accounts.take (i + 1)).map short25)).map AAccount.r) (by first | (rw [take_succ' _ _ hin_accounts]; done) | (rw [take_map_succ _ _ _ hin_accounts]; done) | (rw [take_map_succ _ _ _ hin_accounts]; rfl) | (rw [take_map_succ _ _ _ hin_accounts, he]; done) | (rw [take_all' _ i (by omega)]))
                      have H := H.front 3
                      have H := H.front 3
                      have H := H.front 3
                      intro w' t
                      refine ⟨⟨a183, c184⟩, rfl, rfl, (by first | rfl | (simp; omega) | simp), H.fin t 3 _, ?_⟩
                      trivial
                · have q158' := of_decide_eq_false q158
                  have H := H.front 3
                  have H := H.rowEq ((((s.accounts.take (i + 1)).map short25)).map AAccount.r) (by first | (rw [take_succ' _ _ hin_accounts]; done) | (rw [take_map_succ _ _ _ hin_accounts]; done) | (rw [take_map_succ _ _ _ hin_accounts]; rfl) | (rw [take_map_succ _ _ _ hin_accounts, he]; done) | (rw [take_all' _ i (by omega)]))
                  have H := H.front 3
                  have H := H.front 3
                  have H := H.front 3
                  intro w' t
                  refine ⟨⟨oa, oc⟩, rfl, rfl, (by first | rfl | (simp; omega) | simp), H.fin t 3 _, ?_⟩
                  trivial
              · rintro ⟨oa, oc⟩ w' ⟨H, hI⟩
                apply And.intro <;> intro q186
                · have q186' := of_decide_eq_true q186
                  have hin_insts : i < s.insts.length := by omega
                  refine H.at (a := a5) (n := n6) (c := c7) (els := (s.insts).map AInst.r) (i := ((i : Int)).toNat) (cs := (AInst.r (s.insts[i]'hin_insts))) (by simp [hin_insts]) (Nat.succ_pos _) ?_
                  intro ad187 hn188e hn188 a189 n190 c191 h192 h192l h192c H hat193l hat193
                  simp only [List.length_map] at h192
                  refine ⟨ad187, hn188e, (by first | exact Int.natCast_nonneg _ | omega), (by first | omega | (simp; omega)), ?_⟩
                  refine ⟨[.int .i64 ((s.insts[i]'hin_insts).id), .int .i64 ((s.insts[i]'hin_insts).mult), .int .i64 ((s.insts[i]'hin_insts).price), .int .i64 ((s.insts[i]'hin_insts).next), .slice a189 n190 c191], rfl, List.cons_ne_nil _ _, hat193, Us.box (Us.ad hn188), ?_⟩
                  intro b194 hb194
                  have H := H.box hb194
                  apply And.intro <;> intro q195
                  · have q195' := of_decide_eq_true q195
                    refine ⟨by first | decide | omega, by omega, ?_⟩
                    have H := H.pre (a := a189) (n := n190) (c := c191) (els := ((s.insts[i]'hin_insts).moves).map (fun x => [.val (.int .i64 x)])) (by repeat (first | exact List.Mem.head _ | apply List.Mem.tail)) (12) (by omega)
                    rw [← List.map_take] at H
                    intro w' t
                    refine Ctx.lit elemOk68 H t (els := [[.val (.int .i64 ((s.insts[i]'hin_insts).id)), .val (.int .i64 ((s.insts[i]'hin_insts).mult)), .val (.int .i64 ((s.insts[i]'hin_insts).price)), .val (.int .i64 ((s.insts[i]'hin_insts).next)), .sl 1 ((((s.insts[i]'hin_insts).moves).take (12)).map (fun x => [.val (.int .i64 x)]))]]) [.agg #[.int .i64 ((s.insts[i]'hin_insts).id), .int .i64 ((s.insts[i]'hin_insts).mult), .int .i64 ((s.insts[i]'hin_insts).price), .int .i64 ((s.insts[i]'hin_insts).next), .slice a189 12 c191]] rfl (⟨rfl, ⟨⟨rfl, rfl, rfl, rfl, by repeat (first | exact List.Mem.head _ | apply List.Mem.tail), trivial⟩, rfl⟩, trivial⟩) rfl (by decide) (by decide) ?_
                    intro lb196 w' H
                    have H := H.front 1
                    intro w' t
                    refine H.ap (a2 := (some ⟨lb196, 0, none⟩)) (m := 1) (c2 := 1) (news := ([(AInst.mk ((s.insts[i]'hin_insts).id) ((s.insts[i]'hin_insts).mult) ((s.insts[i]'hin_insts).price) ((s.insts[i]'hin_insts).next) (((s.insts[i]'hin_insts).moves).take (12)))]).map AInst.r) t elemOk68 (by simp) (by first | (rw [maxLen_eq]; simp; omega) | (rw [maxLen_eq]; simp at *; omega)) (by first | (simp; omega) | (simp at *; omega)) ?_ (hm := by repeat (first | exact List.Mem.head _ | apply List.Mem.tail))
                    intro a197 c198 w' H hl199
                    have H := H.rowEq (((((s.insts.take i).map trim33) ++ [(AInst.mk ((s.insts[i]'hin_insts).id) ((s.insts[i]'hin_insts).mult) ((s.insts[i]'hin_insts).price) ((s.insts[i]'hin_insts).next) (((s.insts[i]'hin_insts).moves).take (12)))])).map AInst.r) (by first | (rw [List.map_append]; done) | simp)
                    have H := H.rowEq ((((s.insts.take (i + 1)).map trim33)).map AInst.r) (by first | (rw [take_succ' _ _ hin_insts]; done) | (rw [take_map_succ _ _ _ hin_insts]; done) | (rw [take_map_succ _ _ _ hin_insts]; rfl) | (rw [take_map_succ _ _ _ hin_insts, he]; done) | (rw [take_all' _ i (by omega)]))
                    have H := H.front 3
                    have H := H.front 3
                    have H := H.front 2
                    have H := H.front 3
                    intro w' t
                    refine ⟨⟨ma, mc, a197, c198, ea, ec, oa, oc⟩, rfl, rfl, (by first | rfl | (simp; omega) | simp), H.fin t 3 _, ?_⟩
                    trivial
                  · have q195' := of_decide_eq_false q195
                    have he : trim33 (s.insts[i]'hin_insts) = (s.insts[i]'hin_insts) := by unfold trim33; rw [List.take_of_length_le (by omega)]
                    intro w' t
                    refine Ctx.lit elemOk68 H t (els := [[.val (.int .i64 ((s.insts[i]'hin_insts).id)), .val (.int .i64 ((s.insts[i]'hin_insts).mult)), .val (.int .i64 ((s.insts[i]'hin_insts).price)), .val (.int .i64 ((s.insts[i]'hin_insts).next)), .sl 1 (((s.insts[i]'hin_insts).moves).map (fun x => [.val (.int .i64 x)]))]]) [.agg #[.int .i64 ((s.insts[i]'hin_insts).id), .int .i64 ((s.insts[i]'hin_insts).mult), .int .i64 ((s.insts[i]'hin_insts).price), .int .i64 ((s.insts[i]'hin_insts).next), .slice a189 n190 c191]] rfl (⟨rfl, ⟨⟨rfl, rfl, rfl, rfl, by repeat (first | exact List.Mem.head _ | apply List.Mem.tail), trivial⟩, rfl⟩, trivial⟩) rfl (by decide) (by decide) ?_
                    intro lb200 w' H
                    have H := H.front 1
                    intro w' t
                    refine H.ap (a2 := (some ⟨lb200, 0, none⟩)) (m := 1) (c2 := 1) (news := ([((s.insts[i]'hin_insts))]).map AInst.r) t elemOk68 (by simp) (by first | (rw [maxLen_eq]; simp; omega) | (rw [maxLen_eq]; simp at *; omega)) (by first | (simp; omega) | (simp at *; omega)) ?_ (hm := by repeat (first | exact List.Mem.head _ | apply List.Mem.tail))
                    intro a201 c202 w' H hl203
                    have H := H.rowEq (((((s.insts.take i).map trim33) ++ [((s.insts[i]'hin_insts))])).map AInst.r) (by first | (rw [List.map_append]; done) | simp)
                    have H := H.rowEq ((((s.insts.take (i + 1)).map trim33)).map AInst.r) (by first | (rw [take_succ' _ _ hin_insts]; done) | (rw [take_map_succ _ _ _ hin_insts]; done) | (rw [take_map_succ _ _ _ hin_insts]; rfl) | (rw [take_map_succ _ _ _ hin_insts, he]; done) | (rw [take_all' _ i (by omega)]))
                    have H := H.front 3
                    have H := H.front 3
                    have H := H.front 2
                    have H := H.front 3
                    intro w' t
                    refine ⟨⟨ma, mc, a201, c202, ea, ec, oa, oc⟩, rfl, rfl, (by first | rfl | (simp; omega) | simp), H.fin t 3 _, ?_⟩
                    trivial
                · have q186' := of_decide_eq_false q186
                  have H := H.front 1
                  have H := H.rowEq ((((s.insts.take (i + 1)).map trim33)).map AInst.r) (by first | (rw [take_succ' _ _ hin_insts]; done) | (rw [take_map_succ _ _ _ hin_insts]; done) | (rw [take_map_succ _ _ _ hin_insts]; rfl) | (rw [take_map_succ _ _ _ hin_insts, he]; done) | (rw [take_all' _ i (by omega)]))
                  have H := H.front 3
                  have H := H.front 3
                  have H := H.front 2
                  have H := H.front 3
                  intro w' t
                  refine ⟨⟨ma, mc, xa, xc, ea, ec, oa, oc⟩, rfl, rfl, (by first | rfl | (simp; omega) | simp), H.fin t 3 _, ?_⟩
                  trivial
        · rintro ⟨ma, mc, xa, xc, ea, ec, oa, oc⟩ w' ⟨H, hI⟩
          intro w' t
          refine ⟨⟨i + 1, ma, mc, xa, xc, ea, ec, oa, oc⟩, (by first | rfl | exact xInc (by rw [maxLen_eq]; omega) | simp), rfl, rfl, rfl, ⟨H.fin t 3 _, ?_⟩, ?_⟩
          · show i + 1 ≤ 20; omega
          · show 20 - (i + 1) < 20 - i; omega
      · have q133' := of_decide_eq_false q133
        have hi20 : i = 20 := by omega
        refine ⟨[6, 99, 100, 101, 102, 103, 104, 105, 106, 107, 108, 109, 110, 111, 112, 113, 114, 115, 116, 117, 118, 119, 120, 121, 122, 123, 124, 125, 126, 127, 128, 129, 130, 131, 132],
          { X := (Nat) × (Option Addr) × (Nat) × (Option Addr) × (Nat), slots := [6], vals := fun (k, ga, gc, va, vc) => [.int .i64 ((k : Int))], boxes := [2], cells := fun (k, ga, gc, va, vc) => [[.int .i64 (s.day), .slc ma (s.members.take i).length mc, .slc xa ((s.insts.take i).map trim33).length xc, .slc ea (s.assets.take i).length ec, .slc oa ((s.accounts.take i).map short25).length oc, .slc hx hn hc, .slc ga (s.groups.take k).length gc, .slc va (s.gives.take k).length vc, .slc bx bn bc, .slc lx ln lc, .slc px pn pc, .slc dx dn dc]],
            inv := fun (k, ga, gc, va, vc) w' => Ctx w U [] [b45, b46, bt] [Own.row 154 6 ga gc (((s.groups.take k)).map AGroup.r), Own.row 158 11 va vc (((s.gives.take k)).map AGive.r), Own.row 23 4 ma mc (((s.members.take i)).map AMember.r), Own.row 152 5 xa xc ((((s.insts.take i).map trim33)).map AInst.r), Own.row 147 3 ea ec (((s.assets.take i)).map AAsset.r), Own.row 149 4 oa oc ((((s.accounts.take i).map short25)).map AAccount.r)] [(.slice a1 n2 c3, .sl 4 ((s.members).map AMember.r)), (.slice a5 n6 c7, .sl 5 ((s.insts).map AInst.r)), (.slice a9 n10 c11, .sl 3 ((s.assets).map AAsset.r)), (.slice a13 n14 c15, .sl 4 ((s.accounts).map AAccount.r)), (.slice a17 n18 c19, .sl 5 ((s.choices).map AChoice.r)), (.slice a21 n22 c23, .sl 6 ((s.groups).map AGroup.r)), (.slice a25 n26 c27, .sl 11 ((s.gives).map AGive.r)), (.slice a29 n30 c31, .sl 3 ((s.book).map APos.r)), (.slice a33 n34 c35, .sl 3 ((s.sale).map APos.r)), (.slice a37 n38 c39, .sl 3 ((s.purse).map AFlow.r)), (.slice a41 n42 c43, .sl 3 ((s.holds).map AHold.r)), (.slice hx hn hc, .sl 5 ((s.choices.take 20).map AChoice.r)), (.slice bx bn bc, .sl 3 ((few19 s.book).map APos.r)), (.slice lx ln lc, .sl 3 ((few19 s.sale).map APos.r)), (.slice px pn pc, .sl 3 ((s.purse.take 20).map AFlow.r)), (.slice dx dn dc, .sl 3 ((few26 s.holds).map AHold.r))] w' ∧ (k ≤ 70), μ := fun (k, ga, gc, va, vc) => 70 - k }, by kernel_rfl, ?_, ?_, ?_⟩
        · rintro ⟨k, ga, gc, va, vc⟩; exact ⟨⟨trivial, trivial⟩, ⟨trivial, trivial, trivial, trivial, trivial, trivial, trivial, trivial, trivial, trivial, trivial, trivial, trivial⟩, trivial⟩
        · intro w' t
          have H := H.newRow 158 11
          have H := H.newRow 154 6
          refine ⟨⟨0, none, 0, none, 0⟩, rfl, rfl, rfl, rfl, H.fin t 3 _, ?_⟩
          exact Nat.zero_le _
        · rintro ⟨k, ga, gc, va, vc⟩ w' ⟨H, hI⟩
          have hk := hI
          apply And.intro <;> intro q204
          · have q204' := of_decide_eq_true q204
            refine ⟨[103, 104, 105, 106, 107, 108, 109, 110, 111, 112, 113, 114, 115, 116, 117, 118, 119, 120, 121, 122, 123, 124, 125, 126, 127, 128, 129, 130, 131, 132],
              { X := (Option Addr) × (Nat) × (Option Addr) × (Nat), slots := [], vals := fun (ga, gc, va, vc) => [], boxes := [2], cells := fun (ga, gc, va, vc) => [[.int .i64 (s.day), .slc ma (s.members.take i).length mc, .slc xa ((s.insts.take i).map trim33).length xc, .slc ea (s.assets.take i).length ec, .slc oa ((s.accounts.take i).map short25).length oc, .slc hx hn hc, .slc ga (s.groups.take (k + 1)).length gc, .slc va (s.gives.take (k + 1)).length vc, .slc bx bn bc, .slc lx ln lc, .slc px pn pc, .slc dx dn dc]],
                inv := fun (ga, gc, va, vc) w' => Ctx w U [] [b45, b46, bt] [Own.row 154 6 ga gc (((s.groups.take (k + 1))).map AGroup.r), Own.row 158 11 va vc (((s.gives.take (k + 1))).map AGive.r), Own.row 23 4 ma mc (((s.members.take i)).map AMember.r), Own.row 152 5 xa xc ((((s.insts.take i).map trim33)).map AInst.r), Own.row 147 3 ea ec (((s.assets.take i)).map AAsset.r), Own.row 149 4 oa oc ((((s.accounts.take i).map short25)).map AAccount.r)] [(.slice a1 n2 c3, .sl 4 ((s.members).map AMember.r)), (.slice a5 n6 c7, .sl 5 ((s.insts).map AInst.r)), (.slice a9 n10 c11, .sl 3 ((s.assets).map AAsset.r)), (.slice a13 n14 c15, .sl 4 ((s.accounts).map AAccount.r)), (.slice a17 n18 c19, .sl 5 ((s.choices).map AChoice.r)), (.slice a21 n22 c23, .sl 6 ((s.groups).map AGroup.r)), (.slice a25 n26 c27, .sl 11 ((s.gives).map AGive.r)), (.slice a29 n30 c31, .sl 3 ((s.book).map APos.r)), (.slice a33 n34 c35, .sl 3 ((s.sale).map APos.r)), (.slice a37 n38 c39, .sl 3 ((s.purse).map AFlow.r)), (.slice a41 n42 c43, .sl 3 ((s.holds).map AHold.r)), (.slice hx hn hc, .sl 5 ((s.choices.take 20).map AChoice.r)), (.slice bx bn bc, .sl 3 ((few19 s.book).map APos.r)), (.slice lx ln lc, .sl 3 ((few19 s.sale).map APos.r)), (.slice px pn pc, .sl 3 ((s.purse.take 20).map AFlow.r)), (.slice dx dn dc, .sl 3 ((few26 s.holds).map AHold.r))] w' ∧ (True), μ := fun _ => 0 }, fun (ga, gc, va, vc) => [], by kernel_rfl, ?_, ?_, ?_⟩
            · rintro ⟨ga, gc, va, vc⟩; exact ⟨trivial, ⟨trivial, trivial, trivial, trivial, trivial, trivial, trivial, trivial, trivial, trivial, trivial, trivial, trivial⟩, trivial⟩
            · refine ⟨[103, 104, 105, 106, 107, 108, 109, 110, 111, 112, 113, 114, 115, 116, 117],
                { X := (Option Addr) × (Nat), slots := [], vals := fun (ga, gc) => [], boxes := [2], cells := fun (ga, gc) => [[.int .i64 (s.day), .slc ma (s.members.take i).length mc, .slc xa ((s.insts.take i).map trim33).length xc, .slc ea (s.assets.take i).length ec, .slc oa ((s.accounts.take i).map short25).length oc, .slc hx hn hc, .slc ga (s.groups.take (k + 1)).length gc, .slc va (s.gives.take k).length vc, .slc bx bn bc, .slc lx ln lc, .slc px pn pc, .slc dx dn dc]],
                  inv := fun (ga, gc) w' => Ctx w U [] [b45, b46, bt] [Own.row 154 6 ga gc (((s.groups.take (k + 1))).map AGroup.r), Own.row 158 11 va vc (((s.gives.take k)).map AGive.r), Own.row 23 4 ma mc (((s.members.take i)).map AMember.r), Own.row 152 5 xa xc ((((s.insts.take i).map trim33)).map AInst.r), Own.row 147 3 ea ec (((s.assets.take i)).map AAsset.r), Own.row 149 4 oa oc ((((s.accounts.take i).map short25)).map AAccount.r)] [(.slice a1 n2 c3, .sl 4 ((s.members).map AMember.r)), (.slice a5 n6 c7, .sl 5 ((s.insts).map AInst.r)), (.slice a9 n10 c11, .sl 3 ((s.assets).map AAsset.r)), (.slice a13 n14 c15, .sl 4 ((s.accounts).map AAccount.r)), (.slice a17 n18 c19, .sl 5 ((s.choices).map AChoice.r)), (.slice a21 n22 c23, .sl 6 ((s.groups).map AGroup.r)), (.slice a25 n26 c27, .sl 11 ((s.gives).map AGive.r)), (.slice a29 n30 c31, .sl 3 ((s.book).map APos.r)), (.slice a33 n34 c35, .sl 3 ((s.sale).map APos.r)), (.slice a37 n38 c39, .sl 3 ((s.purse).map AFlow.r)), (.slice a41 n42 c43, .sl 3 ((s.holds).map AHold.r)), (.slice hx hn hc, .sl 5 ((s.choices.take 20).map AChoice.r)), (.slice bx bn bc, .sl 3 ((few19 s.book).map APos.r)), (.slice lx ln lc, .sl 3 ((few19 s.sale).map APos.r)), (.slice px pn pc, .sl 3 ((s.purse.take 20).map AFlow.r)), (.slice dx dn dc, .sl 3 ((few26 s.holds).map AHold.r))] w' ∧ (True), μ := fun _ => 0 }, fun (ga, gc) => [], by kernel_rfl, ?_, ?_, ?_⟩
              · rintro ⟨ga, gc⟩; exact ⟨trivial, ⟨trivial, trivial, trivial, trivial, trivial, trivial, trivial, trivial, trivial, trivial, trivial, trivial, trivial⟩, trivial⟩
              · apply And.intro <;> intro q205
                · have q205' := of_decide_eq_true q205
                  have hin_groups : k < s.groups.length := by omega
                  refine ⟨by decide +kernel, oblk ga ++ oblk va ++ oblk ma ++ oblk xa ++ oblk ea ++ oblk oa ++ ([] : List Nat), [2], ?_⟩
                  refine ⟨rfl, ?_⟩
                  refine H.at (a := a21) (n := n22) (c := c23) (els := (s.groups).map AGroup.r) (i := ((k : Int)).toNat) (cs := (AGroup.r (s.groups[k]'hin_groups))) (by simp [hin_groups]) (Nat.succ_pos _) ?_
                  intro ad206 hn207e hn207 H hat208l hat208
                  refine ⟨ad206, hn207e, (by first | exact Int.natCast_nonneg _ | omega), (by first | omega | (simp; omega)), ?_⟩
                  refine ⟨fun hm => Us.own (Us.ad hn207) (by simpa [ownBl, Own.row, oblk, Own.obj] using hm), [.int .i64 ((s.groups[k]'hin_groups).id), .int .i64 ((s.groups[k]'hin_groups).unit.account), .int .i64 ((s.groups[k]'hin_groups).unit.client), .int .i64 ((s.groups[k]'hin_groups).inst), .int .i64 ((s.groups[k]'hin_groups).price), .int .i64 ((s.groups[k]'hin_groups).left)], rfl, List.cons_ne_nil _ _, hat208, Us.box (Us.ad hn207), ?_⟩
                  refine ⟨?_, ?_⟩
                  · refine andE (ExtS.refl (oblk ga ++ oblk va ++ oblk ma ++ oblk xa ++ oblk ea ++ oblk oa ++ ([] : List Nat)) [2] _ _) fun E => ?_
                    intro w' t
                    refine Ctx.litD elemOk72 H t E (els := [[.val (.int .i64 ((s.groups[k]'hin_groups).id)), .val (.int .i64 ((s.groups[k]'hin_groups).unit.account)), .val (.int .i64 ((s.groups[k]'hin_groups).unit.client)), .val (.int .i64 ((s.groups[k]'hin_groups).inst)), .val (.int .i64 ((s.groups[k]'hin_groups).price)), .val (.int .i64 ((s.groups[k]'hin_groups).left))]]) [.agg #[.int .i64 ((s.groups[k]'hin_groups).id), .int .i64 ((s.groups[k]'hin_groups).unit.account), .int .i64 ((s.groups[k]'hin_groups).unit.client), .int .i64 ((s.groups[k]'hin_groups).inst), .int .i64 ((s.groups[k]'hin_groups).price), .int .i64 ((s.groups[k]'hin_groups).left)]] rfl (⟨rfl, ⟨⟨rfl, rfl, rfl, rfl, rfl, rfl, trivial⟩, rfl⟩, trivial⟩) rfl (by decide) (by decide) ?_
                    intro lb209 w' H E
                    refine ⟨E, ?_⟩
                    intro w' t
                    refine H.apD (a2 := (some ⟨lb209, 0, none⟩)) (m := 1) (c2 := 1) (news := ([((s.groups[k]'hin_groups))]).map AGroup.r) t E (fun b hb => by simp [hb]) elemOk72 (by simp) (by first | (rw [maxLen_eq]; simp; omega) | (rw [maxLen_eq]; simp at *; omega)) (by first | (simp; omega) | (simp at *; omega)) ?_ (hm := by repeat (first | exact List.Mem.head _ | apply List.Mem.tail))
                    intro a210 c211 w' H E hl212
                    refine ⟨E, ?_⟩
                    have H := H.rowEq ((((s.groups.take k) ++ [((s.groups[k]'hin_groups))])).map AGroup.r) (by first | (rw [List.map_append]; done) | simp)
                    refine andE (E.store (by repeat (first | exact trivial | exact rfl | refine ⟨?_, ?_⟩))) fun E => ?_
                    have H := H.rowEq (((s.groups.take (k + 1))).map AGroup.r) (by first | (rw [take_succ' _ _ hin_groups]; done) | (rw [take_map_succ _ _ _ hin_groups]; done) | (rw [take_map_succ _ _ _ hin_groups]; rfl) | (rw [take_map_succ _ _ _ hin_groups, he]; done) | (rw [take_all' _ k (by omega)]))
                    intro w' t
                    refine ⟨⟨a210, c211⟩, rfl, rfl, (by first | rfl | (simp; omega) | simp), H.fin t 3 _, ?_⟩
                    trivial
                  · intro w' t
                    refine Ctx.litD elemOk72 H t (ExtS.refl (oblk ga ++ oblk va ++ oblk ma ++ oblk xa ++ oblk ea ++ oblk oa ++ ([] : List Nat)) [2] _ _) (els := [[.val (.int .i64 ((s.groups[k]'hin_groups).id)), .val (.int .i64 ((s.groups[k]'hin_groups).unit.account)), .val (.int .i64 ((s.groups[k]'hin_groups).unit.client)), .val (.int .i64 ((s.groups[k]'hin_groups).inst)), .val (.int .i64 ((s.groups[k]'hin_groups).price)), .val (.int .i64 ((s.groups[k]'hin_groups).left))]]) [.agg #[.int .i64 ((s.groups[k]'hin_groups).id), .int .i64 ((s.groups[k]'hin_groups).unit.account), .int .i64 ((s.groups[k]'hin_groups).unit.client), .int .i64 ((s.groups[k]'hin_groups).inst), .int .i64 ((s.groups[k]'hin_groups).price), .int .i64 ((s.groups[k]'hin_groups).left)]] rfl (⟨rfl, ⟨⟨rfl, rfl, rfl, rfl, rfl, rfl, trivial⟩, rfl⟩, trivial⟩) rfl (by decide) (by decide) ?_
                    intro lb213 w' H E
                    refine ⟨E, ?_⟩
                    refine andE E fun E => ?_
                    intro w' t
                    refine H.apD (a2 := (some ⟨lb213, 0, none⟩)) (m := 1) (c2 := 1) (news := ([((s.groups[k]'hin_groups))]).map AGroup.r) t E (fun b hb => by simp [hb]) elemOk72 (by simp) (by first | (rw [maxLen_eq]; simp; omega) | (rw [maxLen_eq]; simp at *; omega)) (by first | (simp; omega) | (simp at *; omega)) ?_ (hm := by repeat (first | exact List.Mem.head _ | apply List.Mem.tail))
                    intro a214 c215 w' H E hl216
                    refine ⟨E, ?_⟩
                    have H := H.rowEq ((((s.groups.take k) ++ [((s.groups[k]'hin_groups))])).map AGroup.r) (by first | (rw [List.map_append]; done) | simp)
                    refine andE (E.store (by repeat (first | exact trivial | exact rfl | refine ⟨?_, ?_⟩))) fun E => ?_
                    have H := H.rowEq (((s.groups.take (k + 1))).map AGroup.r) (by first | (rw [take_succ' _ _ hin_groups]; done) | (rw [take_map_succ _ _ _ hin_groups]; done) | (rw [take_map_succ _ _ _ hin_groups]; rfl) | (rw [take_map_succ _ _ _ hin_groups, he]; done) | (rw [take_all' _ k (by omega)]))
                    intro w' t
                    refine ⟨⟨a214, c215⟩, rfl, rfl, (by first | rfl | (simp; omega) | simp), H.fin t 3 _, ?_⟩
                    trivial
                · have q205' := of_decide_eq_false q205
                  have H := H.rowEq (((s.groups.take (k + 1))).map AGroup.r) (by first | (rw [take_succ' _ _ hin_groups]; done) | (rw [take_map_succ _ _ _ hin_groups]; done) | (rw [take_map_succ _ _ _ hin_groups]; rfl) | (rw [take_map_succ _ _ _ hin_groups, he]; done) | (rw [take_all' _ k (by omega)]))
                  intro w' t
                  refine ⟨⟨ga, gc⟩, rfl, rfl, (by first | rfl | (simp; omega) | simp), H.fin t 3 _, ?_⟩
                  trivial
              · rintro ⟨ga, gc⟩ w' ⟨H, hI⟩
                apply And.intro <;> intro q217
                · have q217' := of_decide_eq_true q217
                  have hin_gives : k < s.gives.length := by omega
                  refine ⟨by decide +kernel, oblk ga ++ oblk va ++ oblk ma ++ oblk xa ++ oblk ea ++ oblk oa ++ ([] : List Nat), [2], ?_⟩
                  refine ⟨rfl, ?_⟩
                  refine H.at (a := a25) (n := n26) (c := c27) (els := (s.gives).map AGive.r) (i := ((k : Int)).toNat) (cs := (AGive.r (s.gives[k]'hin_gives))) (by simp [hin_gives]) (Nat.succ_pos _) ?_
                  intro ad218 hn219e hn219 H hat220l hat220
                  refine ⟨ad218, hn219e, (by first | exact Int.natCast_nonneg _ | omega), (by first | omega | (simp; omega)), ?_⟩
                  refine ⟨fun hm => Us.own (Us.ad hn219) (by simpa [ownBl, Own.row, oblk, Own.obj] using hm), [.int .i64 ((s.gives[k]'hin_gives).id), .int .i64 ((s.gives[k]'hin_gives).from_.account), .int .i64 ((s.gives[k]'hin_gives).from_.client), .int .i64 ((s.gives[k]'hin_gives).to.account), .int .i64 ((s.gives[k]'hin_gives).to.client), .int .i64 ((s.gives[k]'hin_gives).leg.inst), .int .i64 ((s.gives[k]'hin_gives).leg.qty), .int .i64 ((s.gives[k]'hin_gives).price), .int .i64 ((s.gives[k]'hin_gives).group), .int .i64 ((s.gives[k]'hin_gives).day), .int .i64 ((s.gives[k]'hin_gives).state)], rfl, List.cons_ne_nil _ _, hat220, Us.box (Us.ad hn219), ?_⟩
                  refine ⟨?_, ?_⟩
                  · refine andE (ExtS.refl (oblk ga ++ oblk va ++ oblk ma ++ oblk xa ++ oblk ea ++ oblk oa ++ ([] : List Nat)) [2] _ _) fun E => ?_
                    intro w' t
                    refine Ctx.litD elemOk73 H t E (els := [[.val (.int .i64 ((s.gives[k]'hin_gives).id)), .val (.int .i64 ((s.gives[k]'hin_gives).from_.account)), .val (.int .i64 ((s.gives[k]'hin_gives).from_.client)), .val (.int .i64 ((s.gives[k]'hin_gives).to.account)), .val (.int .i64 ((s.gives[k]'hin_gives).to.client)), .val (.int .i64 ((s.gives[k]'hin_gives).leg.inst)), .val (.int .i64 ((s.gives[k]'hin_gives).leg.qty)), .val (.int .i64 ((s.gives[k]'hin_gives).price)), .val (.int .i64 ((s.gives[k]'hin_gives).group)), .val (.int .i64 ((s.gives[k]'hin_gives).day)), .val (.int .i64 ((s.gives[k]'hin_gives).state))]]) [.agg #[.int .i64 ((s.gives[k]'hin_gives).id), .int .i64 ((s.gives[k]'hin_gives).from_.account), .int .i64 ((s.gives[k]'hin_gives).from_.client), .int .i64 ((s.gives[k]'hin_gives).to.account), .int .i64 ((s.gives[k]'hin_gives).to.client), .int .i64 ((s.gives[k]'hin_gives).leg.inst), .int .i64 ((s.gives[k]'hin_gives).leg.qty), .int .i64 ((s.gives[k]'hin_gives).price), .int .i64 ((s.gives[k]'hin_gives).group), .int .i64 ((s.gives[k]'hin_gives).day), .int .i64 ((s.gives[k]'hin_gives).state)]] rfl (⟨rfl, ⟨⟨rfl, rfl, rfl, rfl, rfl, rfl, rfl, rfl, rfl, rfl, rfl, trivial⟩, rfl⟩, trivial⟩) rfl (by decide) (by decide) ?_
                    intro lb221 w' H E
                    refine ⟨E, ?_⟩
                    have H := H.front 1
                    intro w' t
                    refine H.apD (a2 := (some ⟨lb221, 0, none⟩)) (m := 1) (c2 := 1) (news := ([((s.gives[k]'hin_gives))]).map AGive.r) t E (fun b hb => by simp [hb]) elemOk73 (by simp) (by first | (rw [maxLen_eq]; simp; omega) | (rw [maxLen_eq]; simp at *; omega)) (by first | (simp; omega) | (simp at *; omega)) ?_ (hm := by repeat (first | exact List.Mem.head _ | apply List.Mem.tail))
                    intro a222 c223 w' H E hl224
                    refine ⟨E, ?_⟩
                    have H := H.rowEq ((((s.gives.take k) ++ [((s.gives[k]'hin_gives))])).map AGive.r) (by first | (rw [List.map_append]; done) | simp)
                    refine andE (E.store (by repeat (first | exact trivial | exact rfl | refine ⟨?_, ?_⟩))) fun E => ?_
                    have H := H.rowEq (((s.gives.take (k + 1))).map AGive.r) (by first | (rw [take_succ' _ _ hin_gives]; done) | (rw [take_map_succ _ _ _ hin_gives]; done) | (rw [take_map_succ _ _ _ hin_gives]; rfl) | (rw [take_map_succ _ _ _ hin_gives, he]; done) | (rw [take_all' _ k (by omega)]))
                    have H := H.front 5
                    have H := H.front 5
                    have H := H.front 5
                    have H := H.front 5
                    have H := H.front 4
                    have H := H.front 5
                    intro w' t
                    refine ⟨⟨ga, gc, a222, c223⟩, rfl, rfl, (by first | rfl | (simp; omega) | simp), H.fin t 3 _, ?_⟩
                    trivial
                  · intro w' t
                    refine Ctx.litD elemOk73 H t (ExtS.refl (oblk ga ++ oblk va ++ oblk ma ++ oblk xa ++ oblk ea ++ oblk oa ++ ([] : List Nat)) [2] _ _) (els := [[.val (.int .i64 ((s.gives[k]'hin_gives).id)), .val (.int .i64 ((s.gives[k]'hin_gives).from_.account)), .val (.int .i64 ((s.gives[k]'hin_gives).from_.client)), .val (.int .i64 ((s.gives[k]'hin_gives).to.account)), .val (.int .i64 ((s.gives[k]'hin_gives).to.client)), .val (.int .i64 ((s.gives[k]'hin_gives).leg.inst)), .val (.int .i64 ((s.gives[k]'hin_gives).leg.qty)), .val (.int .i64 ((s.gives[k]'hin_gives).price)), .val (.int .i64 ((s.gives[k]'hin_gives).group)), .val (.int .i64 ((s.gives[k]'hin_gives).day)), .val (.int .i64 ((s.gives[k]'hin_gives).state))]]) [.agg #[.int .i64 ((s.gives[k]'hin_gives).id), .int .i64 ((s.gives[k]'hin_gives).from_.account), .int .i64 ((s.gives[k]'hin_gives).from_.client), .int .i64 ((s.gives[k]'hin_gives).to.account), .int .i64 ((s.gives[k]'hin_gives).to.client), .int .i64 ((s.gives[k]'hin_gives).leg.inst), .int .i64 ((s.gives[k]'hin_gives).leg.qty), .int .i64 ((s.gives[k]'hin_gives).price), .int .i64 ((s.gives[k]'hin_gives).group), .int .i64 ((s.gives[k]'hin_gives).day), .int .i64 ((s.gives[k]'hin_gives).state)]] rfl (⟨rfl, ⟨⟨rfl, rfl, rfl, rfl, rfl, rfl, rfl, rfl, rfl, rfl, rfl, trivial⟩, rfl⟩, trivial⟩) rfl (by decide) (by decide) ?_
                    intro lb225 w' H E
                    refine ⟨E, ?_⟩
                    refine andE E fun E => ?_
                    have H := H.front 1
                    intro w' t
                    refine H.apD (a2 := (some ⟨lb225, 0, none⟩)) (m := 1) (c2 := 1) (news := ([((s.gives[k]'hin_gives))]).map AGive.r) t E (fun b hb => by simp [hb]) elemOk73 (by simp) (by first | (rw [maxLen_eq]; simp; omega) | (rw [maxLen_eq]; simp at *; omega)) (by first | (simp; omega) | (simp at *; omega)) ?_ (hm := by repeat (first | exact List.Mem.head _ | apply List.Mem.tail))
                    intro a226 c227 w' H E hl228
                    refine ⟨E, ?_⟩
                    have H := H.rowEq ((((s.gives.take k) ++ [((s.gives[k]'hin_gives))])).map AGive.r) (by first | (rw [List.map_append]; done) | simp)
                    refine andE (E.store (by repeat (first | exact trivial | exact rfl | refine ⟨?_, ?_⟩))) fun E => ?_
                    have H := H.rowEq (((s.gives.take (k + 1))).map AGive.r) (by first | (rw [take_succ' _ _ hin_gives]; done) | (rw [take_map_succ _ _ _ hin_gives]; done) | (rw [take_map_succ _ _ _ hin_gives]; rfl) | (rw [take_map_succ _ _ _ hin_gives, he]; done) | (rw [take_all' _ k (by omega)]))
                    have H := H.front 5
                    have H := H.front 5
                    have H := H.front 5
                    have H := H.front 5
                    have H := H.front 4
                    have H := H.front 5
                    intro w' t
                    refine ⟨⟨ga, gc, a226, c227⟩, rfl, rfl, (by first | rfl | (simp; omega) | simp), H.fin t 3 _, ?_⟩
                    trivial
                · have q217' := of_decide_eq_false q217
                  have H := H.front 1
                  have H := H.rowEq (((s.gives.take (k + 1))).map AGive.r) (by first | (rw [take_succ' _ _ hin_gives]; done) | (rw [take_map_succ _ _ _ hin_gives]; done) | (rw [take_map_succ _ _ _ hin_gives]; rfl) | (rw [take_map_succ _ _ _ hin_gives, he]; done) | (rw [take_all' _ k (by omega)]))
                  have H := H.front 5
                  have H := H.front 5
                  have H := H.front 5
                  have H := H.front 5
                  have H := H.front 4
                  have H := H.front 5
                  intro w' t
                  refine ⟨⟨ga, gc, va, vc⟩, rfl, rfl, (by first | rfl | (simp; omega) | simp), H.fin t 3 _, ?_⟩
                  trivial
            · rintro ⟨ga, gc, va, vc⟩ w' ⟨H, hI⟩
              intro w' t
              refine ⟨⟨k + 1, ga, gc, va, vc⟩, (by first | rfl | exact xInc (by rw [maxLen_eq]; omega) | simp), rfl, rfl, rfl, ⟨H.fin t 3 _, ?_⟩, ?_⟩
              · show k + 1 ≤ 70; omega
              · show 70 - (k + 1) < 70 - k; omega
          · have q204' := of_decide_eq_false q204
            have hk70 : k = 70 := by omega
            have H := H.front 2
            have H := Ctx.view (A := []) H
            have hv : ∀ l : List AMember, (l.map AMember.r).length = l.length := fun l => by simp
            rw [hv] at H
            have H := Ctx.lenEq H ((s.members.take i).length) (by first | rfl | simp)
            have H := H.front 2
            have H := Ctx.view (A := []) H
            have hv : ∀ l : List AInst, (l.map AInst.r).length = l.length := fun l => by simp
            rw [hv] at H
            have H := Ctx.lenEq H (((s.insts.take i).map trim33).length) (by first | rfl | simp)
            have H := H.front 2
            have H := Ctx.view (A := []) H
            have hv : ∀ l : List AAsset, (l.map AAsset.r).length = l.length := fun l => by simp
            rw [hv] at H
            have H := Ctx.lenEq H ((s.assets.take i).length) (by first | rfl | simp)
            have H := H.front 2
            have H := Ctx.view (A := []) H
            have hv : ∀ l : List AAccount, (l.map AAccount.r).length = l.length := fun l => by simp
            rw [hv] at H
            have H := Ctx.lenEq H (((s.accounts.take i).map short25).length) (by first | rfl | simp)
            have H := Ctx.view (A := []) H
            have hv : ∀ l : List AGroup, (l.map AGroup.r).length = l.length := fun l => by simp
            rw [hv] at H
            have H := Ctx.lenEq H ((s.groups.take k).length) (by first | rfl | simp)
            have H := Ctx.view (A := []) H
            have hv : ∀ l : List AGive, (l.map AGive.r).length = l.length := fun l => by simp
            rw [hv] at H
            have H := Ctx.lenEq H ((s.gives.take k).length) (by first | rfl | simp)
            subst hi20 hk70
            intro w' t
            exact H.r t
end Go.Proofs.Ytnldhkhnfodplaa

namespace Go.Proofs.Ytnldhkhnfodplaa
open Go Go.Vc Go.RowKit

abbrev rU (n : Int) : R := .val (.int .u64 n)
theorem add64_ct (x y c : Int) (hx : 0 ≤ x) (hy : 0 ≤ y) (hc0 : 0 ≤ c) (hc : c ≤ 1) : Ct Try.prog 178 [rU x, rU y, rU c] (.tup [rU ((x + y + c) % 18446744073709551616), rU ((x + y + c) / 18446744073709551616)]) := by
  refine ctG_ext (v := .tuple #[.int .u64 ((x + y + c) % 18446744073709551616), .int .u64 ((x + y + c) / 18446744073709551616)]) (fun w => ?_) ⟨rfl, rfl, trivial⟩
  rw [run_callFunc_extern Try.func178 (by decide +kernel) rfl rfl (e := add64Entry) (by kernel_rfl)]
  show ((add64Entry #[.int .u64 x, .int .u64 y, .int .u64 c]).run Try.prog w).andThen _ = _
  rw [run_add64 x y c hx hy hc0 hc]; rfl
theorem run_sub64' (x y : Nat) (b : Nat) (hb : b ≤ 1) (w : World) : ((Extern.MathBitsCarry.rows[1]!).2 #[.int .u64 x, .int .u64 y, .int .u64 b]).run Try.prog w =
    .ok (.tuple #[.int .u64 (((x + 18446744073709551616 - y - b) % 18446744073709551616 : Nat) : Int), .int .u64 ((if x < y + b then 1 else 0 : Nat) : Int)]) w := by
  have : b = 0 ∨ b = 1 := by omega
  rcases this with rfl | rfl <;> rfl
theorem sub64_ct (x y b : Int) (hx : 0 ≤ x) (hy : 0 ≤ y) (hy2 : y < 18446744073709551616) (hb0 : 0 ≤ b) (hb : b ≤ 1) : Ct Try.prog 179 [rU x, rU y, rU b] (.tup [rU ((x - y - b) % 18446744073709551616), rU (if x < y + b then 1 else 0)]) := by
  obtain ⟨x, rfl⟩ := Int.eq_ofNat_of_zero_le hx
  obtain ⟨y, rfl⟩ := Int.eq_ofNat_of_zero_le hy
  obtain ⟨b, rfl⟩ := Int.eq_ofNat_of_zero_le hb0
  refine ctG_ext (v := .tuple #[.int .u64 (((x : Int) - y - b) % 18446744073709551616), .int .u64 (if (x : Int) < y + b then 1 else 0)]) (fun w => ?_) ⟨rfl, rfl, trivial⟩
  rw [run_callFunc_extern Try.func179 (by decide +kernel) rfl rfl (e := (Extern.MathBitsCarry.rows[1]!).2) (by kernel_rfl)]
  show (((Extern.MathBitsCarry.rows[1]!).2 #[.int .u64 x, .int .u64 y, .int .u64 b]).run Try.prog w).andThen _ = _
  rw [run_sub64' x y b (by omega) w]
  have e1 : (((x + 18446744073709551616 - y - b) % 18446744073709551616 : Nat) : Int) = ((x : Int) - y - b) % 18446744073709551616 := by omega
  have e2 : ((if x < y + b then 1 else 0 : Nat) : Int) = if (x : Int) < y + b then 1 else 0 := by split <;> split <;> omega
  rw [e1, e2]; rfl

/-! ### Numbers of 128 bits, by their values -/
def WideWide.v (w : WideWide) : Int := w.hi * 18446744073709551616 + w.lo
def wide (z : Int) : WideWide := ⟨z / 18446744073709551616, z % 18446744073709551616⟩
def In128 (z : Int) : Prop := -170141183460469231731687303715884105728 ≤ z ∧ z < 170141183460469231731687303715884105728
instance (z : Int) : Decidable (In128 z) := by unfold In128; infer_instance
theorem wide_v (z : Int) : (wide z).v = z := by unfold wide WideWide.v; simp only; omega
theorem v_wide (w : WideWide) (h : w.ok) : wide w.v = w := by
  have h2 := bounds_u64 h.2
  unfold wide WideWide.v
  obtain ⟨hi, lo⟩ := w
  simp only at h2 ⊢
  congr 1 <;> omega
theorem v_in (w : WideWide) (h : w.ok) : In128 w.v := by
  have h1 := bounds_i64 h.1
  have h2 := bounds_u64 h.2
  unfold In128 WideWide.v; omega
theorem wide_ok (z : Int) (h : In128 z) : (wide z).ok := by
  unfold In128 at h
  refine ⟨?_, ?_⟩
  · simp [wide, Lit.wf, IntKind.min, IntKind.max, IntKind.signed, IntKind.bits]; omega
  · simp [wide, Lit.wf, IntKind.min, IntKind.max, IntKind.signed, IntKind.bits]; omega
theorem wide_inj {a b : Int} (h : wide a = wide b) : a = b := by rw [← wide_v a, h, wide_v]
theorem shr63 (n : Int) (h : -9223372036854775808 ≤ n ∧ n ≤ 9223372036854775807) : n.fdiv (2 ^ min (Int.toNat 63) IntKind.i64.bits) = n / 18446744073709551616 := by
  have e : (2 : Int) ^ min (Int.toNat 63) IntKind.i64.bits = 9223372036854775808 := by decide +kernel
  rw [e, Int.fdiv_eq_ediv_of_nonneg _ (by omega)]; omega

set_option maxRecDepth 100000 in
theorem of_ct (n : Int) (h : ok64 n) : Ct Try.prog 108 [rI n] (.agg (wide n).r) := by
  refine ct_startT [] [] Try.func108 rfl (by decide +kernel) rfl ?_
  intro U w H b0 hb0
  have H := H.box hb0
  refine ⟨by decide, ?_⟩
  intro w' t
  rw [shr63 n h.is, IntKind.wrap_u64]
  exact H.r t
set_option maxRecDepth 100000 in
theorem below_ct (x : WideWide) : Ct Try.prog 172 [.agg x.r] (rB (decide (x.hi < 0))) := by
  refine ct_startT [] [] Try.func172 rfl (by decide +kernel) rfl ?_
  intro U w H b0 hb0
  have H := H.box hb0
  intro w' t
  exact H.r t
set_option maxRecDepth 100000 in
theorem ranged_ct (x : WideWide) (ok : Bool) : Ct Try.prog 169 [.agg x.r, rB ok] (.tup [.agg (if ok then x else wide 0).r, rI (if ok then 0 else 7)]) := by
  refine ct_startT [] [] Try.func169 rfl (by decide +kernel) rfl ?_
  intro U w H b0 hb0
  have H := H.box hb0
  intro b1 hb1
  have H := H.box hb1
  cases ok
  · apply And.intro <;> intro h
    · intro w' t; exact H.r t
    · exact absurd h (by simp)
  · apply And.intro <;> intro h
    · exact absurd h (by simp)
    · intro w' t; exact H.r t
end Go.Proofs.Ytnldhkhnfodplaa

namespace Go.Proofs.Ytnldhkhnfodplaa
open Go Go.Vc Go.RowKit

/-- a running sum, by its value -/
def totC (V : Int) : List Value := [.int .i64 (V / 340282366920938463463374607431768211456), .int .i64 (IntKind.i64.wrap (V / 18446744073709551616)), .int .u64 (V % 18446744073709551616)]
def InTot (V : Int) : Prop := -1569275433846670190958947355801916604025588861116008628224 ≤ V ∧ V < 1569275433846670190958947355801916604025588861116008628224
theorem wrap_wrap_u (z : Int) : IntKind.u64.wrap (IntKind.i64.wrap z) = z % 18446744073709551616 := by
  rw [IntKind.wrap_u64, IntKind.wrap_i64]; omega
theorem wrap_mod_i (z : Int) : IntKind.i64.wrap (z % 18446744073709551616) = IntKind.i64.wrap z := by
  rw [IntKind.wrap_i64, IntKind.wrap_i64]; omega
theorem tot_next (V x y : Int) (hV : InTot V) (hx : -9223372036854775808 ≤ x ∧ x ≤ 9223372036854775807) (hy : 0 ≤ y ∧ y < 18446744073709551616) :
    [Value.int .i64 (IntKind.i64.wrap (V / 340282366920938463463374607431768211456 + IntKind.i64.wrap (x.fdiv (2 ^ min (Int.toNat 63) IntKind.i64.bits) + IntKind.i64.wrap ((IntKind.u64.wrap (IntKind.i64.wrap (V / 18446744073709551616)) + IntKind.u64.wrap x + (V % 18446744073709551616 + y + 0) / 18446744073709551616) / 18446744073709551616)))),
      .int .i64 (IntKind.i64.wrap ((IntKind.u64.wrap (IntKind.i64.wrap (V / 18446744073709551616)) + IntKind.u64.wrap x + (V % 18446744073709551616 + y + 0) / 18446744073709551616) % 18446744073709551616)),
      .int .u64 ((V % 18446744073709551616 + y + 0) % 18446744073709551616)] = totC (V + (x * 18446744073709551616 + y)) := by
  unfold InTot at hV
  rw [wrap_wrap_u, wrap_mod_i, shr63 x hx, IntKind.wrap_u64]
  have e1 : (V + (x * 18446744073709551616 + y)) / 18446744073709551616 = V / 18446744073709551616 + x + (V % 18446744073709551616 + y + 0) / 18446744073709551616 := by omega
  have e0 : (V + (x * 18446744073709551616 + y)) / 340282366920938463463374607431768211456 = (V / 18446744073709551616 + x + (V % 18446744073709551616 + y + 0) / 18446744073709551616) / 18446744073709551616 := by omega
  have e3 : V / 340282366920938463463374607431768211456 = V / 18446744073709551616 / 18446744073709551616 := by omega
  unfold totC
  rw [e1, e0, e3]
  have hc : 0 ≤ (V % 18446744073709551616 + y + 0) / 18446744073709551616 ∧ (V % 18446744073709551616 + y + 0) / 18446744073709551616 ≤ 1 := by omega
  generalize (V % 18446744073709551616 + y + 0) / 18446744073709551616 = c at *
  have hu : -92233720368547758080000000000000000000 ≤ V / 18446744073709551616 ∧ V / 18446744073709551616 < 92233720368547758080000000000000000000 := by omega
  generalize V / 18446744073709551616 = u at *
  have f1 : (V + (x * 18446744073709551616 + y)) % 18446744073709551616 = (V % 18446744073709551616 + y + 0) % 18446744073709551616 := by omega
  rw [f1]
  have g2 : (u % 18446744073709551616 + x % 18446744073709551616 + c) / 18446744073709551616 ≤ 2 ∧ 0 ≤ (u % 18446744073709551616 + x % 18446744073709551616 + c) / 18446744073709551616 := by omega
  have g1 : IntKind.i64.wrap ((u % 18446744073709551616 + x % 18446744073709551616 + c) / 18446744073709551616) = (u % 18446744073709551616 + x % 18446744073709551616 + c) / 18446744073709551616 := IntWalk.i64_in _ (by omega)
  rw [g1]
  have g3 : IntKind.i64.wrap (x / 18446744073709551616 + (u % 18446744073709551616 + x % 18446744073709551616 + c) / 18446744073709551616) = x / 18446744073709551616 + (u % 18446744073709551616 + x % 18446744073709551616 + c) / 18446744073709551616 := IntWalk.i64_in _ (by omega)
  rw [g3]
  have g4 : u / 18446744073709551616 + (x / 18446744073709551616 + (u % 18446744073709551616 + x % 18446744073709551616 + c) / 18446744073709551616) = (u + x + c) / 18446744073709551616 := by omega
  rw [g4]
  have g5 : IntKind.i64.wrap ((u + x + c) / 18446744073709551616) = (u + x + c) / 18446744073709551616 := IntWalk.i64_in _ (by omega)
  rw [g5]
  have g6 : IntKind.i64.wrap (u % 18446744073709551616 + x % 18446744073709551616 + c) = IntKind.i64.wrap (u + x + c) := by rw [IntKind.wrap_i64, IntKind.wrap_i64]; omega
  rw [g6]

abbrev obP (b : Nat) : Value := .pointer (some ⟨b, 0, none⟩)
set_option maxRecDepth 100000 in
theorem tadd_ct (b : Nat) (V : Int) (x : WideWide) (hV : InTot V) (hx : x.ok) :
    CtG Try.prog 167 [obP b, .agg #[.int .i64 x.hi, .int .u64 x.lo]] [Own.obj b 249 (totC V)] [] (fun v os G => v = .tuple #[] ∧ os = [Own.obj b 249 (totC (V + x.v))] ∧ G = []) := by
  have hx1 := bounds_i64 hx.1
  have hx2 := bounds_u64 hx.2
  refine ctG_startT [] [(1, ofL [(0, true), (1, true), (2, true), (3, true), (4, true), (5, true), (6, true), (7, false), (8, true), (9, true), (10, true), (11, true), (12, true)]),
    (2, ofL [(0, true), (1, true), (2, true), (3, true), (4, true), (5, true), (6, true), (7, true), (8, true), (9, true), (10, false), (11, true), (12, true), (13, true), (14, true), (15, true)]),
    (3, ofL [(0, true), (1, true), (2, true), (4, true), (5, true), (6, true), (7, true), (8, true), (9, true), (3, false), (10, true), (11, true), (12, true), (13, false)])] Try.func167 rfl (by decide +kernel) rfl ?_
  intro U w H b0 hb0
  have H := H.box hb0
  refine ⟨by decide +kernel, [], [], ?_⟩
  refine ⟨List.not_mem_nil, _, H.objCell (j := 2) rfl, H.objBox, ?_⟩
  refine ⟨rfl, ?_⟩
  intro w' t
  refine H.cD t (ExtS.refl [] [] _ _) (add64_ct (V % 18446744073709551616) x.lo 0 (by omega) (by omega) (by decide) (by decide)) ?_
  intro w' H E
  refine ⟨E, ?_⟩
  refine ⟨by decide +kernel, [], [], ?_⟩
  refine ⟨List.not_mem_nil, _, H.objCell (j := 1) rfl, H.objBox, ?_⟩
  refine ⟨rfl, ?_⟩
  intro w' t
  refine H.cD t (ExtS.refl [] [] _ _) (add64_ct (IntKind.u64.wrap (IntKind.i64.wrap (V / 18446744073709551616))) (IntKind.u64.wrap x.hi) ((V % 18446744073709551616 + x.lo + 0) / 18446744073709551616) (by rw [IntKind.wrap_u64]; omega) (by rw [IntKind.wrap_u64]; omega) (by omega) (by omega)) ?_
  intro w' H E
  refine ⟨E, ?_⟩
  refine ⟨by decide +kernel, [b], [], ?_⟩
  refine ⟨rfl, ?_⟩
  refine ⟨by decide, ?_⟩
  refine ⟨_, H.objCell (j := 0) rfl, H.objBox, ?_⟩
  refine andE (ExtS.refl [b] [] _ _) fun E => ?_
  refine ⟨H.objOk 0 1 (Nat.le_of_ble_eq_true rfl), H.objBox, ?_⟩
  have H := H.objPut 0 [.int .i64 (IntKind.i64.wrap (V / 340282366920938463463374607431768211456 + IntKind.i64.wrap (x.hi.fdiv (2 ^ min (Int.toNat 63) IntKind.i64.bits) + IntKind.i64.wrap ((IntKind.u64.wrap (IntKind.i64.wrap (V / 18446744073709551616)) + IntKind.u64.wrap x.hi + (V % 18446744073709551616 + x.lo + 0) / 18446744073709551616) / 18446744073709551616))))]
  refine andE (E.put (by simp)) fun E => ?_
  refine ⟨H.objOk 1 1 (Nat.le_of_ble_eq_true rfl), H.objBox, ?_⟩
  have H := H.objPut 1 [.int .i64 (IntKind.i64.wrap ((IntKind.u64.wrap (IntKind.i64.wrap (V / 18446744073709551616)) + IntKind.u64.wrap x.hi + (V % 18446744073709551616 + x.lo + 0) / 18446744073709551616) % 18446744073709551616))]
  refine ⟨H.objOk 2 1 (Nat.le_of_ble_eq_true rfl), H.objBox, ?_⟩
  have H := H.objPut 2 [.int .u64 ((V % 18446744073709551616 + x.lo + 0) % 18446744073709551616)]
  intro w' t
  have hn := tot_next V x.hi x.lo hV hx1 ⟨by omega, by omega⟩
  have hv : x.v = x.hi * 18446744073709551616 + x.lo := rfl
  rw [hv, ← hn]
  exact H.retG t (List.Sublist.refl _) ⟨rfl, rfl, rfl⟩
end Go.Proofs.Ytnldhkhnfodplaa
namespace Go.Proofs.Ytnldhkhnfodplaa
open Go Go.Vc Go.RowKit
theorem tot_wide (V : Int) : WideWide.mk (IntKind.i64.wrap (V / 18446744073709551616)) (V % 18446744073709551616) = (if In128 V then wide V else ⟨IntKind.i64.wrap (V / 18446744073709551616), V % 18446744073709551616⟩) := by
  split
  · rename_i h; unfold In128 at h
    unfold wide; congr 1
    exact IntWalk.i64_in _ (by omega)
  · rfl
theorem tot_fits (V : Int) (hV : InTot V) : (V / 340282366920938463463374607431768211456 == (IntKind.i64.wrap (V / 18446744073709551616)).fdiv (2 ^ min (Int.toNat 63) IntKind.i64.bits)) = decide (In128 V) := by
  have hr : -9223372036854775808 ≤ IntKind.i64.wrap (V / 18446744073709551616) ∧ IntKind.i64.wrap (V / 18446744073709551616) ≤ 9223372036854775807 := by
    rw [IntKind.wrap_i64]; omega
  rw [shr63 _ hr]
  by_cases h : In128 V
  · rw [decide_eq_true h]
    unfold In128 at h
    rw [IntWalk.i64_in _ (by omega)]
    simp; omega
  · rw [decide_eq_false h]
    unfold In128 at h
    rw [IntKind.wrap_i64]
    simp; omega
/-- a sum that fits, or that it does not -/
def fit (z : Int) : WideWide × Int := if In128 z then (wide z, 0) else (wide 0, 7)
set_option maxRecDepth 100000 in
theorem tdone_ct (b : Nat) (V : Int) (hV : InTot V) :
    CtG Try.prog 168 [obP b] [Own.obj b 249 (totC V)] [] (fun v os G => v = .tuple #[.agg #[.int .i64 (fit V).1.hi, .int .u64 (fit V).1.lo], .int .i64 (fit V).2] ∧ os = [Own.obj b 249 (totC V)] ∧ G = []) := by
  refine ctG_startT [] [(1, ofL [(0, true), (1, true), (2, true), (3, true), (4, true), (5, true), (6, true), (7, true), (8, true), (9, true), (10, true), (11, true), (12, true), (13, true), (14, true), (15, false), (16, true), (17, true), (18, false), (19, true)])] Try.func168 rfl (by decide +kernel) rfl ?_
  intro U w H b0 hb0
  have H := H.box hb0
  refine ⟨by decide +kernel, [], [0], ?_⟩
  refine ⟨List.not_mem_nil, [.int .i64 (IntKind.i64.wrap (V / 18446744073709551616)), .int .u64 (V % 18446744073709551616)], rfl, List.cons_ne_nil _ _, ⟨H.objCell (j := 1) rfl, H.objCell (j := 2) rfl, trivial⟩, H.objBox, ?_⟩
  refine ⟨List.not_mem_nil, _, H.objCell (j := 0) rfl, H.objBox, ?_⟩
  refine ⟨List.not_mem_nil, _, H.objCell (j := 1) rfl, H.objBox, ?_⟩
  refine ⟨by decide, ?_⟩
  intro w' t
  refine H.cD t (ExtS.refl [] [0] _ _) (ranged_ct ⟨IntKind.i64.wrap (V / 18446744073709551616), V % 18446744073709551616⟩ (V / 340282366920938463463374607431768211456 == (IntKind.i64.wrap (V / 18446744073709551616)).fdiv (2 ^ min (Int.toNat 63) IntKind.i64.bits))) ?_
  intro w' H E
  refine ⟨E, ?_⟩
  refine ⟨E.store ⟨rfl, trivial⟩, ?_⟩
  intro w' t
  have h1 := tot_wide V
  rw [tot_fits V hV, h1]
  refine H.retG t (List.Sublist.refl _) ⟨?_, rfl, rfl⟩
  unfold fit
  by_cases h : In128 V
  · simp only [h, decide_true, if_true]; rfl
  · simp only [h, decide_false, if_false, Bool.false_eq_true]; rfl
end Go.Proofs.Ytnldhkhnfodplaa

namespace Go.Proofs.Ytnldhkhnfodplaa
open Go Go.Vc Go.RowKit

def sumW (l : List WideWide) : Int := (l.map WideWide.v).sum
theorem sumW_succ (l : List WideWide) (i : Nat) (h : i < l.length) : sumW (l.take (i + 1)) = sumW (l.take i) + l[i].v := by
  unfold sumW; rw [take_map_succ _ _ _ h]; simp
theorem sumW_in : ∀ (l : List WideWide), (∀ w ∈ l, w.ok) → -(170141183460469231731687303715884105728 * (l.length : Int)) ≤ sumW l ∧ sumW l ≤ 170141183460469231731687303715884105728 * (l.length : Int)
  | [], _ => by simp [sumW]
  | x :: l, h => by
    have h1 := v_in x (h x (by simp))
    have h2 := sumW_in l fun w hw => h w (by simp [hw])
    unfold In128 at h1
    simp only [sumW, List.map_cons, List.sum_cons, List.length_cons] at h2 ⊢
    omega
theorem sumW_tot (l : List WideWide) (h : ∀ w ∈ l, w.ok) (hl : l.length ≤ maxLen) : InTot (sumW l) := by
  have := sumW_in l h
  rw [maxLen_eq] at hl
  unfold InTot; omega
def totX (V : Int) : List XV := [.int .i64 (V / 340282366920938463463374607431768211456), .int .i64 (IntKind.i64.wrap (V / 18446744073709551616)), .int .u64 (V % 18446744073709551616)]

set_option maxRecDepth 100000 in
theorem wadd_ct (l : List WideWide) (hl : ∀ w ∈ l, w.ok) : Ct Try.prog 145 [.sl 2 (l.map WideWide.r)] (.tup [.agg (fit (sumW l)).1.r, rI (fit (sumW l)).2]) := by
  refine ct_startT [] [] Try.func145 rfl (by decide +kernel) rfl ?_
  intro a n c hn hnc hcm U w H
  simp only [List.length_map] at hn
  have hlm : l.length ≤ maxLen := by omega
  intro b0 hb0
  have H := H.box hb0
  intro b1 hb1
  have H := H.box hb1
  refine ⟨[6, 9, 10, 11, 12, 13, 14, 15],
    { X := Nat, slots := [9], vals := fun i => [.int .i64 (i : Int)], boxes := [1], cells := fun i => [totX (sumW (l.take i))],
      inv := fun i w' => Ctx w U [] [b0, b1] [] [(.slice a n c, .sl 2 (l.map WideWide.r))] w' ∧ i ≤ l.length, μ := fun i => l.length - i }, by kernel_rfl, ?_, ?_, ?_⟩
  · intro i; exact ⟨⟨trivial, trivial⟩, ⟨trivial, trivial, trivial, trivial⟩, trivial⟩
  · intro w' t
    exact ⟨0, rfl, rfl, rfl, H.fin t 2 _, Nat.zero_le _⟩
  · rintro (i : Nat) w' ⟨H, (hi : i ≤ l.length)⟩
    apply And.intro <;> intro q
    · have q' : (i : Int) < (n : Int) := of_decide_eq_true q
      have hin : i < l.length := by omega
      refine H.at (a := a) (n := n) (c := c) (els := l.map WideWide.r) (i := (i : Int).toNat) (cs := WideWide.r l[i]) (by simp [hin]) (Nat.succ_pos _) ?_
      intro ad hne hn2 H hul hat
      refine ⟨ad, hne, Int.natCast_nonneg _, q', ?_⟩
      refine ⟨[.int .i64 l[i].hi, .int .u64 l[i].lo], rfl, List.cons_ne_nil _ _, hat, Us.box (Us.ad hn2), ?_⟩
      intro b2 hb2
      have H := H.box hb2
      intro w' t
      refine H.cB (os1 := []) (i := 1) t rfl (tadd_ct b1 (sumW (l.take i)) l[i] (sumW_tot _ (fun w hw => hl w (List.mem_of_mem_take hw)) (by simp; omega)) (hl _ (List.getElem_mem hin))) ?_
      rintro _ _ _ w' ⟨rfl, rfl, rfl⟩
      refine ⟨_, _, rfl, fun hh H => ⟨_, _, _, hh, ?_⟩⟩
      rw [← sumW_succ l i hin]
      intro w' t
      refine ⟨i + 1, xInc (by rw [maxLen_eq] at *; omega), rfl, rfl, ⟨H.fin t 2 _, hin⟩, ?_⟩
      show l.length - (i + 1) < l.length - i
      omega
    · have q' : ¬ (i : Int) < (n : Int) := of_decide_eq_false q
      obtain rfl : i = l.length := by omega
      rw [List.take_length]
      intro w' t
      refine H.cB (os1 := []) (i := 1) t rfl (tdone_ct b1 (sumW l) (sumW_tot l hl hlm)) ?_
      rintro _ _ _ w' ⟨rfl, rfl, rfl⟩
      refine ⟨_, _, rfl, fun hh H => ⟨_, _, _, hh, ?_⟩⟩
      intro w' t
      exact H.r t
end Go.Proofs.Ytnldhkhnfodplaa

namespace Go.Proofs.Ytnldhkhnfodplaa
open Go Go.Vc Go.RowKit

def szOf (z : Int) : WideSize := ⟨z / 18446744073709551616, z % 18446744073709551616⟩
def w128 (z : Int) : WideWide := ⟨IntKind.i64.wrap (z / 18446744073709551616), z % 18446744073709551616⟩
theorem w128_in (z : Int) (h : In128 z) : w128 z = wide z := by
  unfold In128 at h; unfold w128 wide; congr 1; exact IntWalk.i64_in _ (by omega)
def absI (z : Int) : Int := if z < 0 then -z else z

theorem lo_fits (z : Int) (hz : 0 ≤ z ∧ z < 340282366920938463463374607431768211456) (h : z / 18446744073709551616 = 9223372036854775808) : ((szOf z).lo == 0) = decide (In128 (-z)) := by
  by_cases h0 : z % 18446744073709551616 = 0
  · have : In128 (-z) := by unfold In128; omega
    rw [decide_eq_true this]; show (z % 18446744073709551616 == 0) = true; simp [h0]
  · have : ¬ In128 (-z) := by unfold In128; omega
    rw [decide_eq_false this]; show (z % 18446744073709551616 == 0) = false; simp [h0]
theorem ite_eq_of {c : Prop} [Decidable c] {a b x : Int} (h1 : c → a = x) (h2 : ¬ c → b = x) : (if c then a else b) = x := by split <;> simp_all
set_option maxRecDepth 100000 in
theorem size_ct (x : WideWide) (hx : x.ok) : Ct Try.prog 170 [.agg x.r] (.agg (szOf (absI x.v)).r) := by
  have hx1 := bounds_i64 hx.1
  have hx2 := bounds_u64 hx.2
  refine ct_startT [] [] Try.func170 rfl (by decide +kernel) rfl ?_
  intro U w H b0 hb0
  have H := H.box hb0
  intro b1 hb1
  have H := H.box hb1
  intro w' t
  refine H.c t (below_ct x) ?_
  intro w' H
  apply And.intro <;> intro q
  · have hn : ¬ x.hi < 0 := by simpa using q
    intro w' t
    refine H.ret t ⟨?_, ?_, trivial⟩
    · show Value.int .u64 (IntKind.u64.wrap x.hi) = Value.int .u64 (absI x.v / 18446744073709551616)
      congr 1; rw [IntKind.wrap_u64]; unfold absI WideWide.v; split <;> omega
    · show Value.int .u64 x.lo = Value.int .u64 (absI x.v % 18446744073709551616)
      congr 1; unfold absI WideWide.v; split <;> omega
  · have hn : x.hi < 0 := by simpa using q
    intro w' t
    refine H.c t (sub64_ct 0 x.lo 0 (by decide) (by omega) (by omega) (by decide) (by decide)) ?_
    intro w' H w' t
    refine H.c t (sub64_ct 0 (IntKind.u64.wrap x.hi) (if 0 < x.lo + 0 then 1 else 0) (by decide) (by rw [IntKind.wrap_u64]; omega) (by rw [IntKind.wrap_u64]; omega) (by split <;> decide) (by split <;> decide)) ?_
    intro w' H w' t
    refine H.ret t ⟨?_, ?_, trivial⟩
    · show Value.int .u64 ((0 - IntKind.u64.wrap x.hi - (if 0 < x.lo + 0 then 1 else 0)) % 18446744073709551616) = Value.int .u64 (absI x.v / 18446744073709551616)
      congr 1; rw [IntKind.wrap_u64]; unfold absI WideWide.v; split <;> split <;> omega
    · show Value.int .u64 ((0 - x.lo - 0) % 18446744073709551616) = Value.int .u64 (absI x.v % 18446744073709551616)
      congr 1; unfold absI WideWide.v; split <;> omega

set_option maxRecDepth 100000 in
theorem signed_ct (z : Int) (m : Bool) (hz : 0 ≤ z ∧ z < 340282366920938463463374607431768211456) : Ct Try.prog 171 [.agg (szOf z).r, rB m] (.tup [.agg (w128 (if m then -z else z)).r, rB (decide (In128 (if m then -z else z)))]) := by
  refine ct_startT [] [(2, ofL [(0, true), (1, true), (2, true), (3, true), (4, true), (5, true), (6, true), (7, true), (8, true), (9, false), (10, true)]),
    (5, ofL [(0, true), (1, true), (2, true), (3, true), (4, true), (5, true), (6, true), (7, true), (8, true), (9, true), (10, true), (11, true), (12, true), (13, true), (14, true), (15, true), (16, true), (17, false), (18, true)])] Try.func171 rfl (by decide +kernel) rfl ?_
  intro U w H b0 hb0
  have H := H.box hb0
  intro b1 hb1
  have H := H.box hb1
  apply And.intro <;> intro q
  · have hm : m = false := by simpa using q
    subst hm
    refine ⟨by decide +kernel, [], [1], ?_⟩
    refine ⟨rfl, ?_⟩
    refine ⟨rfl, ?_⟩
    refine ⟨rfl, ?_⟩
    refine andE ((ExtS.refl [] [1] _ _).store ⟨rfl, rfl, trivial⟩) fun E => ?_
    intro w' t
    refine H.ret t ⟨⟨?_, ?_, trivial⟩, ?_, trivial⟩
    · rfl
    · rfl
    · show Value.bool (decide (z / 18446744073709551616 < 9223372036854775808)) = Value.bool (decide (In128 z))
      congr 1; unfold In128; apply decide_eq_decide.2; omega
  · have hm : m = true := by simpa using q
    subst hm
    have hlo : 0 ≤ z % 18446744073709551616 ∧ z % 18446744073709551616 < 18446744073709551616 := by omega
    have hhi : 0 ≤ z / 18446744073709551616 ∧ z / 18446744073709551616 < 18446744073709551616 := by omega
    intro w' t
    refine H.c t (sub64_ct 0 (z % 18446744073709551616) 0 (by decide) (by omega) (by omega) (by decide) (by decide)) ?_
    intro w' H w' t
    refine H.c t (sub64_ct 0 (z / 18446744073709551616) (if 0 < z % 18446744073709551616 + 0 then 1 else 0) (by decide) (by omega) (by omega) (by split <;> decide) (by split <;> decide)) ?_
    intro w' H
    have e1 : Value.int .i64 (IntKind.i64.wrap ((0 - z / 18446744073709551616 - (if 0 < z % 18446744073709551616 + 0 then 1 else 0)) % 18446744073709551616)) = Value.int .i64 (w128 (-z)).hi := by
      rw [wrap_mod_i]; unfold w128; dsimp only; congr 2; split <;> omega
    have e2 : Value.int .u64 ((0 - z % 18446744073709551616 - 0) % 18446744073709551616) = Value.int .u64 (w128 (-z)).lo := by
      unfold w128; dsimp only; congr 1; omega
    refine ⟨by decide +kernel, [], [1], ?_⟩
    refine ⟨rfl, ?_⟩
    apply And.intro <;> intro q1
    · refine ⟨rfl, ?_⟩
      apply And.intro <;> intro q2
      · refine ⟨rfl, ?_⟩
        refine andE ((ExtS.refl [] [1] _ _).store ⟨rfl, rfl, trivial⟩) fun E => ?_
        intro w' t
        refine H.ret t ⟨⟨e1, e2, trivial⟩, ?_, trivial⟩
        have q1' : ¬ (z / 18446744073709551616 < 9223372036854775808) := of_decide_eq_false q1
        have q2' : z / 18446744073709551616 = 9223372036854775808 := by have := q2; simp [szOf] at this; exact this
        show Value.bool ((szOf z).lo == 0) = Value.bool (decide (In128 (-z)))
        rw [lo_fits z hz q2']
      · refine andE ((ExtS.refl [] [1] _ _).store ⟨rfl, rfl, trivial⟩) fun E => ?_
        intro w' t
        refine H.ret t ⟨⟨e1, e2, trivial⟩, ?_, trivial⟩
        have q1' : ¬ (z / 18446744073709551616 < 9223372036854775808) := of_decide_eq_false q1
        have q2' : ¬ z / 18446744073709551616 = 9223372036854775808 := by have := q2; simp [szOf] at this; exact this
        show Value.bool _ = Value.bool (decide (In128 (-z)))
        congr 1; unfold In128
        simp; omega
    · refine andE ((ExtS.refl [] [1] _ _).store ⟨rfl, rfl, trivial⟩) fun E => ?_
      intro w' t
      refine H.ret t ⟨⟨e1, e2, trivial⟩, ?_, trivial⟩
      have q1' : z / 18446744073709551616 < 9223372036854775808 := of_decide_eq_true q1
      show Value.bool _ = Value.bool (decide (In128 (-z)))
      congr 1; unfold In128
      simp; omega

set_option maxRecDepth 100000 in
theorem neg_ct (x : WideWide) (hx : x.ok) : Ct Try.prog 154 [.agg x.r] (.tup [.agg (fit (-x.v)).1.r, rI (fit (-x.v)).2]) := by
  have hv := v_in x hx
  have hx1 := bounds_i64 hx.1
  have hx2 := bounds_u64 hx.2
  have ha : 0 ≤ absI x.v ∧ absI x.v < 340282366920938463463374607431768211456 := by unfold In128 at hv; unfold absI; split <;> omega
  refine ct_startT [] [(1, ofL [(0, true), (2, true), (1, false), (3, false), (4, true), (5, false), (6, true), (7, true), (8, false), (9, true), (10, true), (11, false), (12, true)])] Try.func154 rfl (by decide +kernel) rfl ?_
  intro U w H b0 hb0
  have H := H.box hb0
  intro b1 hb1
  have H := H.box hb1
  refine ⟨by decide +kernel, [], [1], ?_⟩
  refine ⟨rfl, ?_⟩
  refine ⟨rfl, ?_⟩
  intro w' t
  refine H.cD t (ExtS.refl [] [1] _ _) (size_ct x hx) ?_
  intro w' H E
  refine ⟨E, ?_⟩
  intro w' t
  refine H.cD t E (below_ct x) ?_
  intro w' H E
  refine ⟨E, ?_⟩
  intro w' t
  refine H.cD t E (signed_ct (absI x.v) (!(decide (x.hi < 0))) ha) ?_
  intro w' H E
  refine ⟨E, ?_⟩
  intro w' t
  have e : (if (!(decide (x.hi < 0))) = true then -absI x.v else absI x.v) = -x.v := by
    by_cases h : x.hi < 0
    · simp only [h, decide_true, Bool.not_true, Bool.false_eq_true, if_false]; unfold absI WideWide.v; split <;> omega
    · simp only [h, decide_false, Bool.not_false, if_true]; unfold absI WideWide.v; split <;> omega
  refine H.cD t E (ranged_ct (w128 (if (!(decide (x.hi < 0))) = true then -absI x.v else absI x.v)) (decide (In128 (if (!(decide (x.hi < 0))) = true then -absI x.v else absI x.v)))) ?_
  intro w' H E
  refine ⟨E, ?_⟩
  refine andE (E.store ⟨rfl, rfl, trivial⟩) fun E => ?_
  intro w' t
  rw [e]
  unfold fit
  by_cases h : In128 (-x.v)
  · simp only [h, decide_true, if_true]; rw [w128_in _ h]; exact H.r t
  · simp only [h, decide_false, if_false, Bool.false_eq_true]; exact H.r t
end Go.Proofs.Ytnldhkhnfodplaa

namespace Go.Proofs.Ytnldhkhnfodplaa
open Go Go.Vc Go.RowKit

/-- what a tally's object and row are -/
abbrev tly (b : Nat) (a : Option Addr) (c : Nat) (xs : List WideWide) : List Own := [Own.obj b 179 [.slice a xs.length c], Own.row 94 2 a c (xs.map WideWide.r)]
abbrev QTl (b : Nat) (xs : List WideWide) : Value → List Own → List (Value × R) → Prop := fun v os G => ∃ a c, v = .tuple #[] ∧ os = tly b a c xs ∧ G = []

set_option maxRecDepth 100000 in
theorem tplus_ct (b : Nat) (a : Option Addr) (c : Nat) (xs ys : List WideWide) (a2 : Option Addr) (m c2 : Nat) (hl : xs.length + ys.length ≤ 1000000) :
    CtG Try.prog 107 [obP b, .slice a2 m c2] (tly b a c xs) [(.slice a2 m c2, .sl 2 (ys.map WideWide.r))] (QTl b (xs ++ ys)) := by
  refine ctG_startT [] [] Try.func107 rfl (by decide +kernel) rfl ?_
  intro U w H
  have hm : m = ys.length := by have := (H.len (List.Mem.head _)).1; simpa using this
  refine ⟨_, H.objCell (j := 0) rfl, H.objBox, ?_⟩
  intro w' t
  refine H.swap.ap (a2 := a2) (m := m) (c2 := c2) (news := ys.map WideWide.r) t elemOk177 (by simp) (by rw [maxLen_eq]; simp; omega) (by simp; omega) ?_
  intro a' c' w' H hl'
  have H := (H.rowEq ((xs ++ ys).map WideWide.r) (by rw [List.map_append])).swap
  refine ⟨H.objOk 0 1 (Nat.le_of_ble_eq_true rfl), H.objBox, ?_⟩
  have H := H.objPut 0 [.slice a' (xs.length + m) c']
  intro w' t
  have e : xs.length + m = (xs ++ ys).length := by simp; omega
  have H := (H.keep []).recast (os' := tly b a' c' (xs ++ ys)) (by unfold tly; rw [← e]; rfl)
  exact H.retG t (List.Sublist.refl _) ⟨a', c', rfl, rfl, rfl⟩

def negW (w : WideWide) : WideWide := (fit (-w.v)).1
set_option maxRecDepth 100000 in
theorem tless_ct (b : Nat) (a0 : Option Addr) (c0 : Nat) (xs ys : List WideWide) (a2 : Option Addr) (m c2 : Nat) (hl : xs.length + ys.length ≤ 1000000) (hy : ∀ y ∈ ys, y.ok) :
    CtG Try.prog 109 [obP b, .slice a2 m c2] (tly b a0 c0 xs) [(.slice a2 m c2, .sl 2 (ys.map WideWide.r))] (QTl b (xs ++ ys.map negW)) := by
  refine ctG_startT [] [] Try.func109 rfl (by decide +kernel) rfl ?_
  intro U w H
  have hm : m = ys.length := by have := (H.len (List.Mem.head _)).1; simpa using this
  refine ⟨[5, 6, 7, 10, 11, 12, 13, 14, 15, 16, 17, 18, 19, 20, 21, 22, 23],
    { X := Nat × Option Addr × Nat, slots := [10], vals := fun (i, _, _) => [.int .i64 (i : Int)], boxes := [], cells := fun _ => [],
      inv := fun (i, a, c) w' => Ctx w U (ownBl (tly b a0 c0 xs)) [] (tly b a c (xs ++ (ys.take i).map negW)) [(.slice a2 m c2, .sl 2 (ys.map WideWide.r))] w' ∧ i ≤ ys.length, μ := fun (i, _, _) => ys.length - i }, by kernel_rfl, ?_, ?_, ?_⟩
  · rintro ⟨i, a, c⟩; exact ⟨⟨trivial, trivial⟩, trivial⟩
  · intro w' t
    exact ⟨⟨0, a0, c0⟩, rfl, by simpa using H.sync t, Nat.zero_le _⟩
  · rintro ⟨i, a, c⟩ w' ⟨H, hi⟩
    apply And.intro <;> intro q
    · have q' : (i : Int) < (m : Int) := of_decide_eq_true q
      have hin : i < ys.length := by omega
      refine H.at (a := a2) (n := m) (c := c2) (els := ys.map WideWide.r) (i := (i : Int).toNat) (cs := WideWide.r ys[i]) (by simp [hin]) (Nat.succ_pos _) ?_
      intro ad hne hn2 H hul hat
      refine ⟨ad, hne, Int.natCast_nonneg _, q', ?_⟩
      refine ⟨[.int .i64 ys[i].hi, .int .u64 ys[i].lo], rfl, List.cons_ne_nil _ _, hat, Us.box (Us.ad hn2), ?_⟩
      intro b0 hb0
      have H := H.box hb0
      intro w' t
      refine H.c t (neg_ct ys[i] (hy _ (List.getElem_mem hin))) ?_
      intro w' H b1 hb1
      have H := H.box hb1
      intro w' t
      refine Ctx.lit elemOk177 H t (els := [[.val (.int .i64 (negW ys[i]).hi), .val (.int .u64 (negW ys[i]).lo)]]) [.agg #[.int .i64 (negW ys[i]).hi, .int .u64 (negW ys[i]).lo]] rfl ⟨rfl, ⟨⟨rfl, rfl, trivial⟩, rfl⟩, trivial⟩ rfl (by decide) (by decide) ?_
      intro lb w' H w' t
      refine H.cg (os1 := tly b a c (xs ++ (ys.take i).map negW)) (os2 := []) t (tplus_ct b a c (xs ++ (ys.take i).map negW) [negW ys[i]] (some ⟨lb, 0, none⟩) 1 1 (by simp; omega)) ?_
      rintro _ _ _ w' ⟨a', c', rfl, rfl, rfl⟩ H
      have e : xs ++ (ys.take i).map negW ++ [negW ys[i]] = xs ++ (ys.take (i + 1)).map negW := by rw [take_map_succ _ _ _ hin, List.append_assoc]
      rw [e] at H
      intro w' t
      refine ⟨⟨i + 1, a', c'⟩, xInc (by rw [maxLen_eq]; omega), ⟨H.fin t 0 _, hin⟩, ?_⟩
      show ys.length - (i + 1) < ys.length - i
      omega
    · have q' : ¬ (i : Int) < (m : Int) := of_decide_eq_false q
      obtain rfl : i = ys.length := by omega
      rw [List.take_length] at H
      intro w' t
      have H := H.keep []
      exact H.retG t (List.Sublist.refl _) ⟨a, c, rfl, rfl, rfl⟩

set_option maxRecDepth 100000 in
theorem tdone2_ct (b : Nat) (a : Option Addr) (c : Nat) (xs : List WideWide) (hx : ∀ x ∈ xs, x.ok) :
    CtG Try.prog 111 [obP b] (tly b a c xs) [] (fun v os G => v = .agg #[.int .i64 (fit (sumW xs)).1.hi, .int .u64 (fit (sumW xs)).1.lo] ∧ os = tly b a c xs ∧ G = []) := by
  refine ctG_startT [] [] Try.func111 rfl (by decide +kernel) rfl ?_
  intro U w H b0 hb0
  have H := H.box hb0
  refine ⟨_, H.objCell (j := 0) rfl, H.objBox, ?_⟩
  intro w' t
  refine H.swap.cL t (wadd_ct xs hx) ?_ (hG := ⟨by rw [List.length_map]; exact List.Mem.head _, trivial⟩)
  refine ⟨rfl, ?_⟩
  intro w' H b1 hb1
  have H := H.box hb1
  intro w' t
  exact H.swap.retG t (List.Sublist.refl _) ⟨rfl, rfl, rfl⟩
end Go.Proofs.Ytnldhkhnfodplaa
namespace Go.Vc
open Go Go.RowKit
theorem Ctx.dropOwn {V W : World} {U0 : Nat → Prop} {L bs : List Nat} {os : List Own} {G : List (Value × R)} (H : Ctx V U0 L bs os G W) (i : Nat) : Ctx V U0 L bs (os.eraseIdx i) G W := H.weak (List.Sublist.refl _) (List.eraseIdx_sublist _ _) fun _ h => h
end Go.Vc

namespace Go.Proofs.Ytnldhkhnfodplaa
open Go Go.Vc Go.RowKit
def vecGet : List ALeg → Int → Int
  | [], _ => 0
  | x :: l, k => if x.inst = k then x.qty else vecGet l k
theorem drop_cons' {α : Type} (l : List α) (i : Nat) (h : i < l.length) : l.drop i = l[i] :: l.drop (i + 1) := List.drop_eq_getElem_cons h
def flowSum (l : List AFlow) : Int := (l.map (·.amount)).sum
def lotsSum (l : List ALot) (k : Int) : Int := ((l.filter (fun x => x.asset == k)).map (·.qty)).sum
def bookSum (l : List APos) (k : Int) : Int := (l.map fun p => vecGet p.legs k).sum
def holdSum (l : List AHold) (k : Int) : Int := (l.map fun h => lotsSum h.lots k).sum
theorem vecGet_ok : ∀ (l : List ALeg) (k : Int), (∀ x ∈ l, x.ok) → ok64 (vecGet l k)
  | [], _, _ => (by simp [vecGet, ok64, Lit.wf, IntKind.min, IntKind.max, IntKind.signed, IntKind.bits])
  | x :: l, k, h => by
    unfold vecGet; split
    · exact (h x (by simp)).2
    · exact vecGet_ok l k fun y hy => h y (by simp [hy])
theorem sumW_wide {α : Type} (f : α → Int) (l : List α) : sumW (l.map fun x => wide (f x)) = (l.map f).sum := by
  unfold sumW; rw [List.map_map]; congr 1; exact List.map_congr_left fun x _ => wide_v _
theorem sum_bound {α : Type} (f : α → Int) (B : Int) : ∀ (l : List α), (∀ x ∈ l, -B ≤ f x ∧ f x ≤ B) → -(B * l.length) ≤ (l.map f).sum ∧ (l.map f).sum ≤ B * l.length
  | [], _ => by simp
  | x :: l, h => by
    have h1 := h x (by simp)
    have h2 := sum_bound f B l fun y hy => h y (by simp [hy])
    simp only [List.map_cons, List.sum_cons, List.length_cons, Int.natCast_add, Int.mul_add]
    omega
theorem fit_in (z : Int) (h : In128 z) : fit z = (wide z, 0) := by unfold fit; rw [if_pos h]
theorem ok_in (n : Int) (h : ok64 n) : In128 n := by have := h.is; unfold In128; omega
theorem lots_bound (l : List ALot) (k : Int) (h : ∀ x ∈ l, x.ok) (hl : l.length ≤ 1000000) : -(9223372036854775808 * 1000000) ≤ lotsSum l k ∧ lotsSum l k ≤ 9223372036854775808 * 1000000 := by
  have := sum_bound (·.qty) 9223372036854775808 (l.filter (fun x => x.asset == k)) fun x hx => by have := (show ok64 x.qty from (h x (List.mem_filter.1 hx).1).2.2).is; omega
  have h2 : (l.filter (fun x => x.asset == k)).length ≤ l.length := List.length_filter_le _ _
  unfold lotsSum; omega
set_option maxRecDepth 100000 in
theorem vecGet_ct (l : List ALeg) (k : Int)  : Ct Try.prog 166 [.sl 2 (l.map ALeg.r), .val (.int .i64 k)] (.val (.int .i64 (vecGet l k))) := by
  refine ct_startT [] [] Try.func166 rfl (by decide +kernel) rfl ?_
  intro a1 n2 c3 h4 h4l h4c U w H
  simp only [List.length_map] at h4
  refine ⟨[4, 6, 9, 10, 11, 12, 13, 14, 15, 16, 17, 18, 19],
    { X := (Nat), slots := [9], vals := fun i => [.int .i64 ((i : Int))], boxes := [], cells := fun i => [],
      inv := fun i w' => Ctx w U [] [] [] [(.slice a1 n2 c3, .sl 2 ((l).map ALeg.r))] w' ∧ (i ≤ l.length ∧ vecGet l k = vecGet (l.drop i) k), μ := fun i => l.length - i }, by kernel_rfl, ?_, ?_, ?_⟩
  · rintro i; exact ⟨⟨trivial, trivial⟩, trivial⟩
  · intro w' t
    refine ⟨0, rfl, H.fin t 0 _, ?_⟩
    exact ⟨Nat.zero_le _, rfl⟩
  · rintro (i : Nat) w' ⟨H, hI⟩
    obtain ⟨hi, hv⟩ := hI
    apply And.intro <;> intro q5
    · have q5' := of_decide_eq_true q5
      have hin : i < l.length := by omega
      refine H.at (a := a1) (n := n2) (c := c3) (els := (l).map ALeg.r) (i := ((i : Int)).toNat) (cs := (ALeg.r ((l)[i]'hin))) (by simp [hin]) (Nat.succ_pos _) ?_
      intro ad6 hn7e hn7 H hat8l hat8
      refine ⟨ad6, hn7e, (by first | exact Int.natCast_nonneg _ | omega), (by first | omega | (simp; omega)), ?_⟩
      refine ⟨[.int .i64 (((l)[i]'hin).inst), .int .i64 (((l)[i]'hin).qty)], rfl, List.cons_ne_nil _ _, hat8, Us.box (Us.ad hn7), ?_⟩
      intro b9 hb9
      have H := H.box hb9
      apply And.intro <;> intro q10
      · have q10' := q10; simp at q10'
        have he : (l[i]'hin).inst = k := by simpa using q10
        rw [hv, drop_cons' l i hin, vecGet, if_pos he]
        intro w' t
        exact H.r t
      · have q10' := q10; simp at q10'
        have he : ¬ (l[i]'hin).inst = k := by simpa using q10
        intro w' t
        refine ⟨i + 1, (by first | rfl | exact xInc (by first | omega | (rw [maxLen_eq]; omega)) | simp), ⟨H.fin t 0 _, ?_⟩, ?_⟩
        · refine ⟨hin, ?_⟩; rw [hv, drop_cons' l i hin, vecGet, if_neg he]
        · show l.length - (i + 1) < l.length - i; omega
    · have q5' := of_decide_eq_false q5
      have hz : vecGet (l.drop i) k = 0 := by rw [List.drop_eq_nil_of_le (by omega)]; rfl
      rw [hv, hz]
      intro w' t
      exact H.r t
set_option maxRecDepth 100000 in
theorem flowSum_ct (l : List AFlow) (ha0 : ∀ x ∈ l, x.ok) (hb0 : l.length ≤ 1000000) : Ct Try.prog 97 [.sl 3 (l.map AFlow.r)] (.agg (WideWide.r (wide (flowSum l)))) := by
  refine ct_startT [] [] Try.func97 rfl (by decide +kernel) rfl ?_
  intro a1 n2 c3 h4 h4l h4c U w H
  simp only [List.length_map] at h4
  intro b5 hb5
  have H := H.box hb5
  refine ⟨[3, 5, 10, 11, 12, 13, 14, 15, 16, 17, 18, 19, 20],
    { X := (Nat) × (Option Addr) × (Nat), slots := [3, 10], vals := fun (i, ra, rc) => [.slc ra (((l.take i).map fun x => wide x.amount)).length rc, .int .i64 ((i : Int))], boxes := [], cells := fun (i, ra, rc) => [],
      inv := fun (i, ra, rc) w' => Ctx w U [] [b5] [Own.row 94 2 ra rc ((((l.take i).map fun x => wide x.amount)).map WideWide.r)] [(.slice a1 n2 c3, .sl 3 ((l).map AFlow.r))] w' ∧ (i ≤ l.length), μ := fun (i, ra, rc) => l.length - i }, by kernel_rfl, ?_, ?_, ?_⟩
  · rintro ⟨i, ra, rc⟩; exact ⟨⟨trivial, trivial, trivial⟩, trivial⟩
  · intro w' t
    have H := H.newRow 94 2
    refine ⟨⟨0, none, 0⟩, rfl, rfl, rfl, H.fin t 1 _, ?_⟩
    exact Nat.zero_le _
  · rintro ⟨i, ra, rc⟩ w' ⟨H, hI⟩
    have hi := hI
    have hlen : (((l.take i).map fun x => wide x.amount)).length ≤ l.length := by simp only [List.length_map]; first | (simp; done) | (simp; omega) | (refine Nat.le_trans (List.length_filter_le _ _) ?_; simp; omega)
    apply And.intro <;> intro q6
    · have q6' := of_decide_eq_true q6
      have hin : i < l.length := by omega
      refine H.at (a := a1) (n := n2) (c := c3) (els := (l).map AFlow.r) (i := ((i : Int)).toNat) (cs := (AFlow.r ((l)[i]'hin))) (by simp [hin]) (Nat.succ_pos _) ?_
      intro ad7 hn8e hn8 H hat9l hat9
      refine ⟨ad7, hn8e, (by first | exact Int.natCast_nonneg _ | omega), (by first | omega | (simp; omega)), ?_⟩
      refine ⟨[.int .i64 (((l)[i]'hin).unit.account), .int .i64 (((l)[i]'hin).unit.client), .int .i64 (((l)[i]'hin).amount)], rfl, List.cons_ne_nil _ _, hat9, Us.box (Us.ad hn8), ?_⟩
      intro b10 hb10
      have H := H.box hb10
      intro w' t
      refine H.c t (of_ct (((l)[i]'hin).amount) (ha0 _ (List.getElem_mem _)).2) ?_
      intro w' H
      intro w' t
      refine Ctx.lit elemOk177 H t (els := [[.val (.int .i64 ((wide (((l)[i]'hin).amount)).hi)), .val (.int .u64 ((wide (((l)[i]'hin).amount)).lo))]]) [.agg #[.int .i64 ((wide (((l)[i]'hin).amount)).hi), .int .u64 ((wide (((l)[i]'hin).amount)).lo)]] rfl (⟨rfl, ⟨⟨rfl, rfl, trivial⟩, rfl⟩, trivial⟩) rfl (by decide) (by decide) ?_
      intro lb11 w' H
      intro w' t
      refine H.ap (a2 := (some ⟨lb11, 0, none⟩)) (m := 1) (c2 := 1) (news := ([((wide (((l)[i]'hin).amount)))]).map WideWide.r) t elemOk177 (by simp) (by first | (rw [maxLen_eq]; simp; omega) | (rw [maxLen_eq]; simp at *; omega)) (by first | (simp; omega) | (simp at *; omega)) ?_ (hm := by repeat (first | exact List.Mem.head _ | apply List.Mem.tail))
      intro a12 c13 w' H hl14
      have H := H.rowEq (((((l.take i).map fun x => wide x.amount) ++ [((wide (((l)[i]'hin).amount)))])).map WideWide.r) (by first | (rw [List.map_append]; done) | simp)
      have hF : ((l.take (i + 1)).map fun x => wide x.amount) = ((l.take i).map fun x => wide x.amount) ++ [wide (l[i]'hin).amount] := take_map_succ _ _ _ hin
      have H := H.rowEq ((((l.take (i + 1)).map fun x => wide x.amount)).map WideWide.r) (by rw [hF])
      intro w' t
      refine ⟨⟨i + 1, a12, c13⟩, (by first | (rw [hF]; done) | (rw [hF]; simp)), (by first | rfl | exact xInc (by first | omega | (rw [maxLen_eq]; omega)) | simp), rfl, ⟨H.fin t 1 _, ?_⟩, ?_⟩
      · exact hin
      · show l.length - (i + 1) < l.length - i; omega
    · have q6' := of_decide_eq_false q6
      have hie : l.take i = l := List.take_of_length_le (by omega)
      have hok : ∀ w ∈ (l.take i).map (fun x => wide x.amount), w.ok := fun w hw => by rw [hie] at hw; obtain ⟨x, hx, rfl⟩ := List.mem_map.1 hw; exact wide_ok _ (ok_in _ (ha0 x hx).2)
      have hb : ∀ x ∈ l, -9223372036854775808 ≤ x.amount ∧ x.amount ≤ 9223372036854775808 := fun x hx => by have := (show ok64 x.amount from (ha0 x hx).2).is; omega
      have hb := sum_bound (·.amount) 9223372036854775808 l hb
      have hi8 : In128 (flowSum l) := by unfold In128 flowSum; omega
      have hs : fit (sumW ((l.take i).map fun x => wide x.amount)) = (wide (flowSum l), 0) := by rw [hie, sumW_wide]; exact fit_in _ hi8
      have H := Ctx.view (A := []) H
      have hv : ∀ l : List WideWide, (l.map WideWide.r).length = l.length := fun l => by simp
      rw [hv] at H
      have H := Ctx.lenEq H ((((l.take i).map fun x => wide x.amount)).length) (by first | rfl | simp)
      intro w' t
      refine H.c t (wadd_ct (((l.take i).map fun x => wide x.amount)) hok) ?_
      intro w' H
      intro b15 hb15
      have H := H.box hb15
      intro w' t
      rw [hs]
      exact H.r t
end Go.Proofs.Ytnldhkhnfodplaa

namespace Go.Proofs.Ytnldhkhnfodplaa
open Go Go.Vc Go.RowKit
set_option maxRecDepth 100000 in
theorem lotsSum_ct (l : List ALot) (k : Int) (ha0 : ∀ x ∈ l, x.ok) (hb0 : l.length ≤ 1000000) : Ct Try.prog 146 [.sl 3 (l.map ALot.r), .val (.int .i64 k)] (.agg (WideWide.r (wide (lotsSum l k)))) := by
  refine ct_startT [] [] Try.func146 rfl (by decide +kernel) rfl ?_
  intro a1 n2 c3 h4 h4l h4c U w H
  simp only [List.length_map] at h4
  intro b5 hb5
  have H := H.box hb5
  refine ⟨[5, 7, 12, 13, 14, 15, 16, 17, 18, 19, 20, 21, 22, 23, 24, 25, 26],
    { X := (Nat) × (Option Addr) × (Nat), slots := [5, 12], vals := fun (i, ra, rc) => [.slc ra ((((l.take i).filter (fun x => x.asset == k)).map fun x => wide x.qty)).length rc, .int .i64 ((i : Int))], boxes := [], cells := fun (i, ra, rc) => [],
      inv := fun (i, ra, rc) w' => Ctx w U [] [b5] [Own.row 94 2 ra rc (((((l.take i).filter (fun x => x.asset == k)).map fun x => wide x.qty)).map WideWide.r)] [(.slice a1 n2 c3, .sl 3 ((l).map ALot.r))] w' ∧ (i ≤ l.length), μ := fun (i, ra, rc) => l.length - i }, by kernel_rfl, ?_, ?_, ?_⟩
  · rintro ⟨i, ra, rc⟩; exact ⟨⟨trivial, trivial, trivial⟩, trivial⟩
  · intro w' t
    have H := H.newRow 94 2
    refine ⟨⟨0, none, 0⟩, rfl, rfl, rfl, H.fin t 1 _, ?_⟩
    exact Nat.zero_le _
  · rintro ⟨i, ra, rc⟩ w' ⟨H, hI⟩
    have hi := hI
    have hlen : ((((l.take i).filter (fun x => x.asset == k)).map fun x => wide x.qty)).length ≤ l.length := by simp only [List.length_map]; first | (simp; done) | (simp; omega) | (refine Nat.le_trans (List.length_filter_le _ _) ?_; simp; omega)
    apply And.intro <;> intro q6
    · have q6' := of_decide_eq_true q6
      have hin : i < l.length := by omega
      refine H.at (a := a1) (n := n2) (c := c3) (els := (l).map ALot.r) (i := ((i : Int)).toNat) (cs := (ALot.r ((l)[i]'hin))) (by simp [hin]) (Nat.succ_pos _) ?_
      intro ad7 hn8e hn8 H hat9l hat9
      refine ⟨ad7, hn8e, (by first | exact Int.natCast_nonneg _ | omega), (by first | omega | (simp; omega)), ?_⟩
      refine ⟨[.int .i64 (((l)[i]'hin).asset), .int .i64 (((l)[i]'hin).tag), .int .i64 (((l)[i]'hin).qty)], rfl, List.cons_ne_nil _ _, hat9, Us.box (Us.ad hn8), ?_⟩
      intro b10 hb10
      have H := H.box hb10
      apply And.intro <;> intro q11
      · have q11' := q11; simp at q11'
        have he : (l[i]'hin).asset = k := by simpa using q11
        have hF : (((l.take (i + 1)).filter (fun x => x.asset == k)).map fun x => wide x.qty) = (((l.take i).filter (fun x => x.asset == k)).map fun x => wide x.qty) ++ [wide (l[i]'hin).qty] := by rw [take_succ' l i hin, List.filter_append, List.map_append]; simp [he]
        intro w' t
        refine H.c t (of_ct (((l)[i]'hin).qty) (ha0 _ (List.getElem_mem _)).2.2) ?_
        intro w' H
        intro w' t
        refine Ctx.lit elemOk177 H t (els := [[.val (.int .i64 ((wide (((l)[i]'hin).qty)).hi)), .val (.int .u64 ((wide (((l)[i]'hin).qty)).lo))]]) [.agg #[.int .i64 ((wide (((l)[i]'hin).qty)).hi), .int .u64 ((wide (((l)[i]'hin).qty)).lo)]] rfl (⟨rfl, ⟨⟨rfl, rfl, trivial⟩, rfl⟩, trivial⟩) rfl (by decide) (by decide) ?_
        intro lb12 w' H
        intro w' t
        refine H.ap (a2 := (some ⟨lb12, 0, none⟩)) (m := 1) (c2 := 1) (news := ([((wide (((l)[i]'hin).qty)))]).map WideWide.r) t elemOk177 (by simp) (by first | (rw [maxLen_eq]; simp; omega) | (rw [maxLen_eq]; simp at *; omega)) (by first | (simp; omega) | (simp at *; omega)) ?_ (hm := by repeat (first | exact List.Mem.head _ | apply List.Mem.tail))
        intro a13 c14 w' H hl15
        have H := H.rowEq ((((((l.take i).filter (fun x => x.asset == k)).map fun x => wide x.qty) ++ [((wide (((l)[i]'hin).qty)))])).map WideWide.r) (by first | (rw [List.map_append]; done) | simp)
        have H := H.rowEq (((((l.take (i + 1)).filter (fun x => x.asset == k)).map fun x => wide x.qty)).map WideWide.r) (by rw [hF])
        intro w' t
        refine ⟨⟨i + 1, a13, c14⟩, (by first | (rw [hF]; done) | (rw [hF]; simp)), (by first | rfl | exact xInc (by first | omega | (rw [maxLen_eq]; omega)) | simp), rfl, ⟨H.fin t 1 _, ?_⟩, ?_⟩
        · exact hin
        · show l.length - (i + 1) < l.length - i; omega
      · have q11' := q11; simp at q11'
        have he : ¬ (l[i]'hin).asset = k := by simpa using q11
        have hF : (((l.take (i + 1)).filter (fun x => x.asset == k)).map fun x => wide x.qty) = (((l.take i).filter (fun x => x.asset == k)).map fun x => wide x.qty) := by rw [take_succ' l i hin, List.filter_append, List.map_append]; simp [he]
        have H := H.rowEq (((((l.take (i + 1)).filter (fun x => x.asset == k)).map fun x => wide x.qty)).map WideWide.r) (by rw [hF])
        intro w' t
        refine ⟨⟨i + 1, ra, rc⟩, (by first | (rw [hF]; done) | (rw [hF]; simp)), (by first | rfl | exact xInc (by first | omega | (rw [maxLen_eq]; omega)) | simp), rfl, ⟨H.fin t 1 _, ?_⟩, ?_⟩
        · exact hin
        · show l.length - (i + 1) < l.length - i; omega
    · have q6' := of_decide_eq_false q6
      have hie : l.take i = l := List.take_of_length_le (by omega)
      have hok : ∀ w ∈ (((l.take i).filter (fun x => x.asset == k)).map fun x => wide x.qty), w.ok := fun w hw => by rw [hie] at hw; obtain ⟨x, hx, rfl⟩ := List.mem_map.1 hw; exact wide_ok _ (ok_in _ (ha0 x (List.mem_filter.1 hx).1).2.2)
      have hi8 : In128 (lotsSum l k) := by have := lots_bound l k ha0 hb0; unfold In128; omega
      have hs : fit (sumW ((((l.take i).filter (fun x => x.asset == k)).map fun x => wide x.qty))) = (wide (lotsSum l k), 0) := by rw [hie, sumW_wide]; exact fit_in _ hi8
      have H := Ctx.view (A := []) H
      have hv : ∀ l : List WideWide, (l.map WideWide.r).length = l.length := fun l => by simp
      rw [hv] at H
      have H := Ctx.lenEq H (((((l.take i).filter (fun x => x.asset == k)).map fun x => wide x.qty)).length) (by first | rfl | simp)
      intro w' t
      refine H.c t (wadd_ct ((((l.take i).filter (fun x => x.asset == k)).map fun x => wide x.qty)) hok) ?_
      intro w' H
      intro b16 hb16
      have H := H.box hb16
      intro w' t
      rw [hs]
      exact H.r t
set_option maxRecDepth 100000 in
theorem holdSum_ct (l : List AHold) (k : Int) (ha0 : ∀ x ∈ l, x.ok ∧ x.lots.length ≤ 1000000) (hb0 : l.length ≤ 1000000) : Ct Try.prog 98 [.sl 3 (l.map AHold.r), .val (.int .i64 k)] (.agg (WideWide.r (wide (holdSum l k)))) := by
  refine ct_startT [] [] Try.func98 rfl (by decide +kernel) rfl ?_
  intro a1 n2 c3 h4 h4l h4c U w H
  simp only [List.length_map] at h4
  intro b5 hb5
  have H := H.box hb5
  refine ⟨[5, 7, 12, 13, 14, 15, 16, 17, 18, 19, 20, 21, 22, 23],
    { X := (Nat) × (Option Addr) × (Nat), slots := [5, 12], vals := fun (i, ra, rc) => [.slc ra (((l.take i).map fun h => wide (lotsSum h.lots k))).length rc, .int .i64 ((i : Int))], boxes := [], cells := fun (i, ra, rc) => [],
      inv := fun (i, ra, rc) w' => Ctx w U [] [b5] [Own.row 94 2 ra rc ((((l.take i).map fun h => wide (lotsSum h.lots k))).map WideWide.r)] [(.slice a1 n2 c3, .sl 3 ((l).map AHold.r))] w' ∧ (i ≤ l.length), μ := fun (i, ra, rc) => l.length - i }, by kernel_rfl, ?_, ?_, ?_⟩
  · rintro ⟨i, ra, rc⟩; exact ⟨⟨trivial, trivial, trivial⟩, trivial⟩
  · intro w' t
    have H := H.newRow 94 2
    refine ⟨⟨0, none, 0⟩, rfl, rfl, rfl, H.fin t 1 _, ?_⟩
    exact Nat.zero_le _
  · rintro ⟨i, ra, rc⟩ w' ⟨H, hI⟩
    have hi := hI
    have hlen : (((l.take i).map fun h => wide (lotsSum h.lots k))).length ≤ l.length := by simp only [List.length_map]; first | (simp; done) | (simp; omega) | (refine Nat.le_trans (List.length_filter_le _ _) ?_; simp; omega)
    apply And.intro <;> intro q6
    · have q6' := of_decide_eq_true q6
      have hin : i < l.length := by omega
      refine H.at (a := a1) (n := n2) (c := c3) (els := (l).map AHold.r) (i := ((i : Int)).toNat) (cs := (AHold.r ((l)[i]'hin))) (by simp [hin]) (Nat.succ_pos _) ?_
      intro ad7 hn8e hn8 a9 n10 c11 h12 h12l h12c H hat13l hat13
      simp only [List.length_map] at h12
      refine ⟨ad7, hn8e, (by first | exact Int.natCast_nonneg _ | omega), (by first | omega | (simp; omega)), ?_⟩
      refine ⟨[.int .i64 (((l)[i]'hin).unit.account), .int .i64 (((l)[i]'hin).unit.client), .slice a9 n10 c11], rfl, List.cons_ne_nil _ _, hat13, Us.box (Us.ad hn8), ?_⟩
      intro b14 hb14
      have H := H.box hb14
      intro w' t
      refine H.c t (lotsSum_ct (((l)[i]'hin).lots) (k) (ha0 _ (List.getElem_mem _)).1.2.1 (ha0 _ (List.getElem_mem _)).2) ?_
      intro w' H
      intro w' t
      refine Ctx.lit elemOk177 H t (els := [[.val (.int .i64 ((wide (lotsSum (((l)[i]'hin).lots) (k))).hi)), .val (.int .u64 ((wide (lotsSum (((l)[i]'hin).lots) (k))).lo))]]) [.agg #[.int .i64 ((wide (lotsSum (((l)[i]'hin).lots) (k))).hi), .int .u64 ((wide (lotsSum (((l)[i]'hin).lots) (k))).lo)]] rfl (⟨rfl, ⟨⟨rfl, rfl, trivial⟩, rfl⟩, trivial⟩) rfl (by decide) (by decide) ?_
      intro lb15 w' H
      intro w' t
      refine H.ap (a2 := (some ⟨lb15, 0, none⟩)) (m := 1) (c2 := 1) (news := ([((wide (lotsSum (((l)[i]'hin).lots) (k))))]).map WideWide.r) t elemOk177 (by simp) (by first | (rw [maxLen_eq]; simp; omega) | (rw [maxLen_eq]; simp at *; omega)) (by first | (simp; omega) | (simp at *; omega)) ?_ (hm := by repeat (first | exact List.Mem.head _ | apply List.Mem.tail))
      intro a16 c17 w' H hl18
      have H := H.rowEq (((((l.take i).map fun h => wide (lotsSum h.lots k)) ++ [((wide (lotsSum (((l)[i]'hin).lots) (k))))])).map WideWide.r) (by first | (rw [List.map_append]; done) | simp)
      have hF : ((l.take (i + 1)).map fun h => wide (lotsSum h.lots k)) = ((l.take i).map fun h => wide (lotsSum h.lots k)) ++ [wide (lotsSum (l[i]'hin).lots k)] := take_map_succ _ _ _ hin
      have H := H.rowEq ((((l.take (i + 1)).map fun h => wide (lotsSum h.lots k))).map WideWide.r) (by rw [hF])
      intro w' t
      refine ⟨⟨i + 1, a16, c17⟩, (by first | (rw [hF]; done) | (rw [hF]; simp)), (by first | rfl | exact xInc (by first | omega | (rw [maxLen_eq]; omega)) | simp), rfl, ⟨H.fin t 1 _, ?_⟩, ?_⟩
      · exact hin
      · show l.length - (i + 1) < l.length - i; omega
    · have q6' := of_decide_eq_false q6
      have hie : l.take i = l := List.take_of_length_le (by omega)
      have hok : ∀ w ∈ ((l.take i).map fun h => wide (lotsSum h.lots k)), w.ok := fun w hw => by rw [hie] at hw; obtain ⟨x, hx, rfl⟩ := List.mem_map.1 hw; exact wide_ok _ (by have := lots_bound x.lots k (ha0 x hx).1.2.1 (ha0 x hx).2; unfold In128; omega)
      have hi8 : In128 (holdSum l k) := by have := sum_bound (fun h => lotsSum h.lots k) (9223372036854775808 * 1000000) l fun x hx => lots_bound x.lots k (ha0 x hx).1.2.1 (ha0 x hx).2; unfold In128 holdSum; omega
      have hs : fit (sumW (((l.take i).map fun h => wide (lotsSum h.lots k)))) = (wide (holdSum l k), 0) := by rw [hie, sumW_wide]; exact fit_in _ hi8
      have H := Ctx.view (A := []) H
      have hv : ∀ l : List WideWide, (l.map WideWide.r).length = l.length := fun l => by simp
      rw [hv] at H
      have H := Ctx.lenEq H ((((l.take i).map fun h => wide (lotsSum h.lots k))).length) (by first | rfl | simp)
      intro w' t
      refine H.c t (wadd_ct (((l.take i).map fun h => wide (lotsSum h.lots k))) hok) ?_
      intro w' H
      intro b19 hb19
      have H := H.box hb19
      intro w' t
      rw [hs]
      exact H.r t
set_option maxRecDepth 100000 in
theorem bookSum_ct (l : List APos) (k : Int) (ha0 : ∀ x ∈ l, x.ok) (hb0 : l.length ≤ 1000000) : Ct Try.prog 144 [.sl 3 (l.map APos.r), .val (.int .i64 k)] (.agg (WideWide.r (wide (bookSum l k)))) := by
  refine ct_startT [] [] Try.func144 rfl (by decide +kernel) rfl ?_
  intro a1 n2 c3 h4 h4l h4c U w H
  simp only [List.length_map] at h4
  intro b5 hb5
  have H := H.box hb5
  refine ⟨[5, 7, 12, 13, 14, 15, 16, 17, 18, 19, 20, 21, 22, 23, 24],
    { X := (Nat) × (Option Addr) × (Nat), slots := [5, 12], vals := fun (i, ra, rc) => [.slc ra (((l.take i).map fun p => wide (vecGet p.legs k))).length rc, .int .i64 ((i : Int))], boxes := [], cells := fun (i, ra, rc) => [],
      inv := fun (i, ra, rc) w' => Ctx w U [] [b5] [Own.row 94 2 ra rc ((((l.take i).map fun p => wide (vecGet p.legs k))).map WideWide.r)] [(.slice a1 n2 c3, .sl 3 ((l).map APos.r))] w' ∧ (i ≤ l.length), μ := fun (i, ra, rc) => l.length - i }, by kernel_rfl, ?_, ?_, ?_⟩
  · rintro ⟨i, ra, rc⟩; exact ⟨⟨trivial, trivial, trivial⟩, trivial⟩
  · intro w' t
    have H := H.newRow 94 2
    refine ⟨⟨0, none, 0⟩, rfl, rfl, rfl, H.fin t 1 _, ?_⟩
    exact Nat.zero_le _
  · rintro ⟨i, ra, rc⟩ w' ⟨H, hI⟩
    have hi := hI
    have hlen : (((l.take i).map fun p => wide (vecGet p.legs k))).length ≤ l.length := by simp only [List.length_map]; first | (simp; done) | (simp; omega) | (refine Nat.le_trans (List.length_filter_le _ _) ?_; simp; omega)
    apply And.intro <;> intro q6
    · have q6' := of_decide_eq_true q6
      have hin : i < l.length := by omega
      refine H.at (a := a1) (n := n2) (c := c3) (els := (l).map APos.r) (i := ((i : Int)).toNat) (cs := (APos.r ((l)[i]'hin))) (by simp [hin]) (Nat.succ_pos _) ?_
      intro ad7 hn8e hn8 a9 n10 c11 h12 h12l h12c H hat13l hat13
      simp only [List.length_map] at h12
      refine ⟨ad7, hn8e, (by first | exact Int.natCast_nonneg _ | omega), (by first | omega | (simp; omega)), ?_⟩
      refine ⟨[.int .i64 (((l)[i]'hin).unit.account), .int .i64 (((l)[i]'hin).unit.client), .slice a9 n10 c11], rfl, List.cons_ne_nil _ _, hat13, Us.box (Us.ad hn8), ?_⟩
      intro b14 hb14
      have H := H.box hb14
      intro w' t
      refine H.c t (vecGet_ct (((l)[i]'hin).legs) (k)) ?_
      intro w' H
      intro w' t
      refine H.c t (of_ct ((vecGet (((l)[i]'hin).legs) (k))) (vecGet_ok _ k (ha0 _ (List.getElem_mem _)).2.1)) ?_
      intro w' H
      intro w' t
      refine Ctx.lit elemOk177 H t (els := [[.val (.int .i64 ((wide ((vecGet (((l)[i]'hin).legs) (k)))).hi)), .val (.int .u64 ((wide ((vecGet (((l)[i]'hin).legs) (k)))).lo))]]) [.agg #[.int .i64 ((wide ((vecGet (((l)[i]'hin).legs) (k)))).hi), .int .u64 ((wide ((vecGet (((l)[i]'hin).legs) (k)))).lo)]] rfl (⟨rfl, ⟨⟨rfl, rfl, trivial⟩, rfl⟩, trivial⟩) rfl (by decide) (by decide) ?_
      intro lb15 w' H
      intro w' t
      refine H.ap (a2 := (some ⟨lb15, 0, none⟩)) (m := 1) (c2 := 1) (news := ([((wide ((vecGet (((l)[i]'hin).legs) (k)))))]).map WideWide.r) t elemOk177 (by simp) (by first | (rw [maxLen_eq]; simp; omega) | (rw [maxLen_eq]; simp at *; omega)) (by first | (simp; omega) | (simp at *; omega)) ?_ (hm := by repeat (first | exact List.Mem.head _ | apply List.Mem.tail))
      intro a16 c17 w' H hl18
      have H := H.rowEq (((((l.take i).map fun p => wide (vecGet p.legs k)) ++ [((wide ((vecGet (((l)[i]'hin).legs) (k)))))])).map WideWide.r) (by first | (rw [List.map_append]; done) | simp)
      have hF : ((l.take (i + 1)).map fun p => wide (vecGet p.legs k)) = ((l.take i).map fun p => wide (vecGet p.legs k)) ++ [wide (vecGet (l[i]'hin).legs k)] := take_map_succ _ _ _ hin
      have H := H.rowEq ((((l.take (i + 1)).map fun p => wide (vecGet p.legs k))).map WideWide.r) (by rw [hF])
      intro w' t
      refine ⟨⟨i + 1, a16, c17⟩, (by first | (rw [hF]; done) | (rw [hF]; simp)), (by first | rfl | exact xInc (by first | omega | (rw [maxLen_eq]; omega)) | simp), rfl, ⟨H.fin t 1 _, ?_⟩, ?_⟩
      · exact hin
      · show l.length - (i + 1) < l.length - i; omega
    · have q6' := of_decide_eq_false q6
      have hie : l.take i = l := List.take_of_length_le (by omega)
      have hok : ∀ w ∈ ((l.take i).map fun p => wide (vecGet p.legs k)), w.ok := fun w hw => by rw [hie] at hw; obtain ⟨x, hx, rfl⟩ := List.mem_map.1 hw; exact wide_ok _ (ok_in _ (vecGet_ok x.legs k (ha0 x hx).2.1))
      have hi8 : In128 (bookSum l k) := by have := sum_bound (fun p => vecGet p.legs k) 9223372036854775808 l fun x hx => by { have := (vecGet_ok x.legs k (ha0 x hx).2.1).is; omega }; unfold In128 bookSum; omega
      have hs : fit (sumW (((l.take i).map fun p => wide (vecGet p.legs k)))) = (wide (bookSum l k), 0) := by rw [hie, sumW_wide]; exact fit_in _ hi8
      have H := Ctx.view (A := []) H
      have hv : ∀ l : List WideWide, (l.map WideWide.r).length = l.length := fun l => by simp
      rw [hv] at H
      have H := Ctx.lenEq H ((((l.take i).map fun p => wide (vecGet p.legs k))).length) (by first | rfl | simp)
      intro w' t
      refine H.c t (wadd_ct (((l.take i).map fun p => wide (vecGet p.legs k))) hok) ?_
      intro w' H
      intro b19 hb19
      have H := H.box hb19
      intro w' t
      rw [hs]
      exact H.r t
set_option maxRecDepth 100000 in
theorem good_ct (l : List ADone) (ha0 : l.length ≤ 1000000) : Ct Try.prog 106 [.sl 18 (l.map ADone.r)] (.sl 18 ((l.filter (fun x => x.reply.err == 0)).map ADone.r)) := by
  refine ct_startT [] [] Try.func106 rfl (by decide +kernel) rfl ?_
  intro a1 n2 c3 h4 h4l h4c U w H
  simp only [List.length_map] at h4
  refine ⟨[3, 5, 8, 9, 10, 11, 12, 13, 14, 15, 16, 17, 18, 19, 20],
    { X := (Nat) × (Option Addr) × (Nat), slots := [3, 8], vals := fun (i, ra, rc) => [.slc ra ((l.take i).filter (fun x => x.reply.err == 0)).length rc, .int .i64 ((i : Int))], boxes := [], cells := fun (i, ra, rc) => [],
      inv := fun (i, ra, rc) w' => Ctx w U [] [] [Own.row 160 18 ra rc (((l.take i).filter (fun x => x.reply.err == 0)).map ADone.r)] [(.slice a1 n2 c3, .sl 18 ((l).map ADone.r))] w' ∧ (i ≤ l.length), μ := fun (i, ra, rc) => l.length - i }, by kernel_rfl, ?_, ?_, ?_⟩
  · rintro ⟨i, ra, rc⟩; exact ⟨⟨trivial, trivial, trivial⟩, trivial⟩
  · intro w' t
    have H := H.newRow 160 18
    refine ⟨⟨0, none, 0⟩, rfl, rfl, H.fin t 0 _, ?_⟩
    exact Nat.zero_le _
  · rintro ⟨i, ra, rc⟩ w' ⟨H, hI⟩
    have hi := hI
    have hlen : ((l.take i).filter (fun x => x.reply.err == 0)).length ≤ l.length := by refine Nat.le_trans (List.length_filter_le _ _) ?_; simp; omega
    apply And.intro <;> intro q5
    · have q5' := of_decide_eq_true q5
      have hin : i < l.length := by omega
      refine H.at (a := a1) (n := n2) (c := c3) (els := (l).map ADone.r) (i := ((i : Int)).toNat) (cs := (ADone.r ((l)[i]'hin))) (by simp [hin]) (Nat.succ_pos _) ?_
      intro ad6 hn7e hn7 a8 n9 c10 h11 h11l h11c a12 n13 c14 h15 h15l h15c a16 n17 c18 h19 h19l h19c a20 n21 c22 h23 h23l h23c H hat24l hat24
      simp only [List.length_map] at h11
      simp only [List.length_map] at h15
      simp only [List.length_map] at h19
      simp only [List.length_map] at h23
      refine ⟨ad6, hn7e, (by first | exact Int.natCast_nonneg _ | omega), (by first | omega | (simp; omega)), ?_⟩
      refine ⟨[.int .i64 (((l)[i]'hin).command.op), .int .i64 (((l)[i]'hin).command.by_), .int .i64 (((l)[i]'hin).command.member), .int .i64 (((l)[i]'hin).command.unit.account), .int .i64 (((l)[i]'hin).command.unit.client), .int .i64 (((l)[i]'hin).command.other.account), .int .i64 (((l)[i]'hin).command.other.client), .int .i64 (((l)[i]'hin).command.inst), .int .i64 (((l)[i]'hin).command.asset), .int .i64 (((l)[i]'hin).command.tag), .int .i64 (((l)[i]'hin).command.id), .int .i64 (((l)[i]'hin).command.qty), .int .i64 (((l)[i]'hin).command.price), .slice a8 n9 c10, .int .i64 (((l)[i]'hin).reply.err), .slice a12 n13 c14, .slice a16 n17 c18, .slice a20 n21 c22], rfl, List.cons_ne_nil _ _, hat24, Us.box (Us.ad hn7), ?_⟩
      intro b25 hb25
      have H := H.box hb25
      apply And.intro <;> intro q26
      · have q26' := q26; simp at q26'
        have he : (l[i]'hin).reply.err = 0 := by simpa using q26
        have hF : ((l.take (i + 1)).filter (fun x => x.reply.err == 0)) = ((l.take i).filter (fun x => x.reply.err == 0)) ++ [(l[i]'hin)] := by rw [take_succ' l i hin, List.filter_append]; simp [he]
        intro w' t
        refine Ctx.lit elemOk79 H t (els := [[.val (.int .i64 (((l)[i]'hin).command.op)), .val (.int .i64 (((l)[i]'hin).command.by_)), .val (.int .i64 (((l)[i]'hin).command.member)), .val (.int .i64 (((l)[i]'hin).command.unit.account)), .val (.int .i64 (((l)[i]'hin).command.unit.client)), .val (.int .i64 (((l)[i]'hin).command.other.account)), .val (.int .i64 (((l)[i]'hin).command.other.client)), .val (.int .i64 (((l)[i]'hin).command.inst)), .val (.int .i64 (((l)[i]'hin).command.asset)), .val (.int .i64 (((l)[i]'hin).command.tag)), .val (.int .i64 (((l)[i]'hin).command.id)), .val (.int .i64 (((l)[i]'hin).command.qty)), .val (.int .i64 (((l)[i]'hin).command.price)), .sl 1 ((((l)[i]'hin).command.numbers).map (fun x => [.val (.int .i64 x)])), .val (.int .i64 (((l)[i]'hin).reply.err)), .sl 1 ((((l)[i]'hin).reply.numbers).map (fun x => [.val (.int .i64 x)])), .sl 5 ((((l)[i]'hin).reply.debits).map ADebit.r), .sl 4 ((((l)[i]'hin).reply.returns).map AReturn.r)]]) [.agg #[.int .i64 (((l)[i]'hin).command.op), .int .i64 (((l)[i]'hin).command.by_), .int .i64 (((l)[i]'hin).command.member), .int .i64 (((l)[i]'hin).command.unit.account), .int .i64 (((l)[i]'hin).command.unit.client), .int .i64 (((l)[i]'hin).command.other.account), .int .i64 (((l)[i]'hin).command.other.client), .int .i64 (((l)[i]'hin).command.inst), .int .i64 (((l)[i]'hin).command.asset), .int .i64 (((l)[i]'hin).command.tag), .int .i64 (((l)[i]'hin).command.id), .int .i64 (((l)[i]'hin).command.qty), .int .i64 (((l)[i]'hin).command.price), .slice a8 n9 c10, .int .i64 (((l)[i]'hin).reply.err), .slice a12 n13 c14, .slice a16 n17 c18, .slice a20 n21 c22]] rfl (⟨rfl, ⟨⟨rfl, rfl, rfl, rfl, rfl, rfl, rfl, rfl, rfl, rfl, rfl, rfl, rfl, by repeat (first | exact List.Mem.head _ | apply List.Mem.tail), rfl, by repeat (first | exact List.Mem.head _ | apply List.Mem.tail), by repeat (first | exact List.Mem.head _ | apply List.Mem.tail), by repeat (first | exact List.Mem.head _ | apply List.Mem.tail), trivial⟩, rfl⟩, trivial⟩) rfl (by decide) (by decide) ?_
        intro lb27 w' H
        intro w' t
        refine H.ap (a2 := (some ⟨lb27, 0, none⟩)) (m := 1) (c2 := 1) (news := ([(((l)[i]'hin))]).map ADone.r) t elemOk79 (by simp) (by first | (rw [maxLen_eq]; simp; omega) | (rw [maxLen_eq]; simp at *; omega)) (by first | (simp; omega) | (simp at *; omega)) ?_ (hm := by repeat (first | exact List.Mem.head _ | apply List.Mem.tail))
        intro a28 c29 w' H hl30
        have H := H.rowEq ((((l.take i).filter (fun x => x.reply.err == 0) ++ [(((l)[i]'hin))])).map ADone.r) (by first | (rw [List.map_append]; done) | simp)
        have H := H.rowEq ((((l.take (i + 1)).filter (fun x => x.reply.err == 0))).map ADone.r) (by rw [hF])
        intro w' t
        refine ⟨⟨i + 1, a28, c29⟩, (by first | (rw [hF]; done) | (rw [hF]; simp)), (by first | rfl | exact xInc (by first | omega | (rw [maxLen_eq]; omega)) | simp), ⟨H.fin t 0 _, ?_⟩, ?_⟩
        · exact hin
        · show l.length - (i + 1) < l.length - i; omega
      · have q26' := q26; simp at q26'
        have he : ¬ (l[i]'hin).reply.err = 0 := by simpa using q26
        have hF : ((l.take (i + 1)).filter (fun x => x.reply.err == 0)) = ((l.take i).filter (fun x => x.reply.err == 0)) := by rw [take_succ' l i hin, List.filter_append]; simp [he]
        have H := H.rowEq ((((l.take (i + 1)).filter (fun x => x.reply.err == 0))).map ADone.r) (by rw [hF])
        intro w' t
        refine ⟨⟨i + 1, ra, rc⟩, (by first | (rw [hF]; done) | (rw [hF]; simp)), (by first | rfl | exact xInc (by first | omega | (rw [maxLen_eq]; omega)) | simp), ⟨H.fin t 0 _, ?_⟩, ?_⟩
        · exact hin
        · show l.length - (i + 1) < l.length - i; omega
    · have q5' := of_decide_eq_false q5
      have hie : l.take i = l := List.take_of_length_le (by omega)
      have H := Ctx.view (A := []) H
      have hv : ∀ l : List ADone, (l.map ADone.r).length = l.length := fun l => by simp
      rw [hv] at H
      have H := Ctx.lenEq H (((l.take i).filter (fun x => x.reply.err == 0)).length) (by first | rfl | simp)
      rw [hie] at H ⊢
      intro w' t
      exact H.r t
def backI (r : AReturn) (k : Int) : Int := if k = 0 then r.cash else lotsSum r.lots k
set_option maxRecDepth 100000 in
theorem back_ct (r : AReturn) (k : Int) (ha0 : r.ok) (hb0 : r.lots.length ≤ 1000000) : Ct Try.prog 110 [.agg (AReturn.r r), .val (.int .i64 k)] (.agg (WideWide.r (wide (backI r k)))) := by
  refine ct_startT [] [] Try.func110 rfl (by decide +kernel) rfl ?_
  intro a1 n2 c3 h4 h4l h4c U w H
  simp only [List.length_map] at h4
  intro b5 hb5
  have H := H.box hb5
  intro b6 hb6
  have H := H.box hb6
  apply And.intro <;> intro q7
  · have q7' := q7; simp at q7'
    have he : k = 0 := by simpa using q7
    have hz : backI r k = r.cash := by unfold backI; rw [if_pos he]
    intro w' t
    refine H.c t (of_ct (r.cash) ha0.2.1) ?_
    intro w' H
    intro w' t
    rw [hz]
    exact H.r t
  · have q7' := q7; simp at q7'
    have he : ¬ k = 0 := by simpa using q7
    have hz : backI r k = lotsSum r.lots k := by unfold backI; rw [if_neg he]
    intro w' t
    refine H.c t (lotsSum_ct (r.lots) (k) ha0.2.2.1 hb0) ?_
    intro w' H
    intro w' t
    rw [hz]
    exact H.r t
end Go.Proofs.Ytnldhkhnfodplaa

namespace Go.Proofs.Ytnldhkhnfodplaa
open Go Go.Vc Go.RowKit
theorem bk_in (l : List APos) (k : Int) (h : ∀ x ∈ l, x.ok) (hl : l.length ≤ 1000000) : -(9223372036854775808 * 1000000) ≤ bookSum l k ∧ bookSum l k ≤ 9223372036854775808 * 1000000 := by
  have := sum_bound (fun p => vecGet p.legs k) 9223372036854775808 l fun x hx => by have := (vecGet_ok x.legs k (h x hx).2.1).is; omega
  unfold bookSum; omega
def balanced (s : AState) : Bool := decide (∀ k : Nat, k < 8 → bookSum s.book (k + 1) + bookSum s.sale (k + 1) = 0)
theorem zero_iff (a b : Int) (ha : -(9223372036854775808 * 1000000) ≤ a ∧ a ≤ 9223372036854775808 * 1000000) (hb : -(9223372036854775808 * 1000000) ≤ b ∧ b ≤ 9223372036854775808 * 1000000) :
    fit (sumW ([] ++ [wide a, wide b])) = (wide (a + b), 0) := by
  have : sumW ([] ++ [wide a, wide b]) = a + b := by simp [sumW, wide_v]
  rw [this]; exact fit_in _ (by unfold In128; omega)
set_option maxRecDepth 100000 in
theorem balanced_ct (s : AState) (ha0 : (∀ x ∈ s.book, x.ok) ∧ (∀ x ∈ s.sale, x.ok)) (hb0 : s.book.length ≤ 1000000 ∧ s.sale.length ≤ 1000000) : Ct Try.prog 96 [.agg (AState.r s)] (.val (.bool (balanced s))) := by
  refine ct_startT [] [(5, ofL [(0, true), (1, true), (2, true), (3, true), (5, true), (6, true), (7, true), (4, false), (8, false), (9, false), (10, false)])] Try.func96 rfl (by decide +kernel) rfl ?_
  intro a1 n2 c3 h4 h4l h4c a5 n6 c7 h8 h8l h8c a9 n10 c11 h12 h12l h12c a13 n14 c15 h16 h16l h16c a17 n18 c19 h20 h20l h20c a21 n22 c23 h24 h24l h24c a25 n26 c27 h28 h28l h28c a29 n30 c31 h32 h32l h32c a33 n34 c35 h36 h36l h36c a37 n38 c39 h40 h40l h40c a41 n42 c43 h44 h44l h44c U w H
  simp only [List.length_map] at h4
  simp only [List.length_map] at h8
  simp only [List.length_map] at h12
  simp only [List.length_map] at h16
  simp only [List.length_map] at h20
  simp only [List.length_map] at h24
  simp only [List.length_map] at h28
  simp only [List.length_map] at h32
  simp only [List.length_map] at h36
  simp only [List.length_map] at h40
  simp only [List.length_map] at h44
  intro b45 hb45
  have H := H.box hb45
  refine ⟨[2, 3, 4, 5, 6, 7, 8, 9, 10, 11, 12, 13, 14, 15, 16, 17, 18, 19, 20, 21, 22, 23, 24, 25],
    { X := (Nat), slots := [3], vals := fun i => [.int .i64 (((i : Int) + 1))], boxes := [], cells := fun i => [],
      inv := fun i w' => Ctx w U [] [b45] [] [(.slice a1 n2 c3, .sl 4 ((s.members).map AMember.r)), (.slice a5 n6 c7, .sl 5 ((s.insts).map AInst.r)), (.slice a9 n10 c11, .sl 3 ((s.assets).map AAsset.r)), (.slice a13 n14 c15, .sl 4 ((s.accounts).map AAccount.r)), (.slice a17 n18 c19, .sl 5 ((s.choices).map AChoice.r)), (.slice a21 n22 c23, .sl 6 ((s.groups).map AGroup.r)), (.slice a25 n26 c27, .sl 11 ((s.gives).map AGive.r)), (.slice a29 n30 c31, .sl 3 ((s.book).map APos.r)), (.slice a33 n34 c35, .sl 3 ((s.sale).map APos.r)), (.slice a37 n38 c39, .sl 3 ((s.purse).map AFlow.r)), (.slice a41 n42 c43, .sl 3 ((s.holds).map AHold.r))] w' ∧ (i ≤ 8 ∧ ∀ k : Nat, k < i → bookSum s.book (k + 1) + bookSum s.sale (k + 1) = 0), μ := fun i => 8 - i }, by kernel_rfl, ?_, ?_, ?_⟩
  · rintro i; exact ⟨⟨trivial, trivial⟩, trivial⟩
  · intro w' t
    refine ⟨0, rfl, rfl, H.fin t 1 _, ?_⟩
    exact ⟨Nat.zero_le _, fun k hk => absurd hk (Nat.not_lt_zero k)⟩
  · rintro (i : Nat) w' ⟨H, hI⟩
    obtain ⟨hi, hall⟩ := hI
    have hB1 := bk_in s.book ((i : Int) + 1) ha0.1 hb0.1
    have hB2 := bk_in s.sale ((i : Int) + 1) ha0.2 hb0.2
    apply And.intro <;> intro q46
    · have q46' := of_decide_eq_true q46
      intro b47 hb47
      have H := H.box hb47
      refine ⟨by decide +kernel, ([] : List Nat), [1], ?_⟩
      refine ⟨rfl, ?_⟩
      refine ⟨rfl, ?_⟩
      intro w' t
      refine H.cD t (ExtS.refl (([] : List Nat)) [1] _ _) (bookSum_ct (s.book) (((i : Int) + 1)) (by first | exact ha0.1 | exact ha0.2) (by first | exact hb0.1 | exact hb0.2)) ?_
      intro w' H E
      refine ⟨E, ?_⟩
      intro w' t
      refine H.cD t E (bookSum_ct (s.sale) (((i : Int) + 1)) (by first | exact ha0.1 | exact ha0.2) (by first | exact hb0.1 | exact hb0.2)) ?_
      intro w' H E
      refine ⟨E, ?_⟩
      intro w' t
      refine Ctx.litD elemOk177 H t E (els := [[.val (.int .i64 ((wide (bookSum (s.book) (((i : Int) + 1)))).hi)), .val (.int .u64 ((wide (bookSum (s.book) (((i : Int) + 1)))).lo))], [.val (.int .i64 ((wide (bookSum (s.sale) (((i : Int) + 1)))).hi)), .val (.int .u64 ((wide (bookSum (s.sale) (((i : Int) + 1)))).lo))]]) [.agg #[.int .i64 ((wide (bookSum (s.book) (((i : Int) + 1)))).hi), .int .u64 ((wide (bookSum (s.book) (((i : Int) + 1)))).lo)], .agg #[.int .i64 ((wide (bookSum (s.sale) (((i : Int) + 1)))).hi), .int .u64 ((wide (bookSum (s.sale) (((i : Int) + 1)))).lo)]] rfl (⟨rfl, ⟨⟨rfl, rfl, trivial⟩, rfl⟩, ⟨rfl, ⟨⟨rfl, rfl, trivial⟩, rfl⟩, trivial⟩⟩) rfl (by decide) (by decide) ?_
      intro lb48 w' H E
      refine ⟨E, ?_⟩
      have H := H.newRow 94 2
      intro w' t
      refine H.cBD (os1 := [_]) (i := 1) t E rfl (fun c hc => by simp_all [ownBl, Own.row, oblk]) (tplus_ct b47 none 0 ([] : List WideWide) ([((wide (bookSum (s.book) (((i : Int) + 1))))), ((wide (bookSum (s.sale) (((i : Int) + 1)))))]) (some ⟨lb48, 0, none⟩) 2 2 (by simp)) ?_
      rintro _ _ _ w' ⟨a49, c50, rfl, rfl, rfl⟩
      refine ⟨_, _, rfl, fun hh H E => ⟨_, hh, ?_⟩⟩
      refine andE (E _ (by repeat (first | exact trivial | exact rfl | refine ⟨?_, ?_⟩))) fun E => ?_
      intro w' t
      refine H.cB (os1 := [_]) (i := 1) t rfl (tdone2_ct b47 a49 c50 (([] : List WideWide) ++ ([((wide (bookSum (s.book) (((i : Int) + 1))))), ((wide (bookSum (s.sale) (((i : Int) + 1)))))])) (fun x hx => by simp at hx; rcases hx with rfl | rfl <;> exact wide_ok _ (by unfold In128; omega))) ?_
      rintro _ _ _ w' ⟨rfl, rfl, rfl⟩
      refine ⟨_, _, rfl, fun hh H => ⟨_, hh, ?_⟩⟩
      apply And.intro <;> intro q51
      · have hz : ¬ bookSum s.book ((i : Int) + 1) + bookSum s.sale ((i : Int) + 1) = 0 := fun hz => by { rw [zero_iff _ _ hB1 hB2, hz] at q51; simp [wide, notIf] at q51 }
        have hr : balanced s = false := by unfold balanced; exact decide_eq_false fun hh => hz (hh i (by omega))
        intro w' t
        rw [hr]
        exact H.r t
      · have hz : bookSum s.book ((i : Int) + 1) + bookSum s.sale ((i : Int) + 1) = 0 := by { rw [zero_iff _ _ hB1 hB2] at q51; simp [wide, notIf] at q51; omega }
        have H := H.dropOwn 0
        intro w' t
        refine ⟨i + 1, (by show XV.int .i64 (IntKind.i64.wrap ((i : Int) + 1 + 1)) = .int .i64 (((i + 1 : Nat) : Int) + 1); rw [IntWalk.i64_in _ (by omega)]; rfl), rfl, ⟨H.fin t 1 _, ?_⟩, ?_⟩
        · refine ⟨by omega, fun k hk => ?_⟩
          rcases Nat.lt_or_ge k i with h | h
          · exact hall k h
          · have : k = i := by omega
            subst this; exact hz
        · show 8 - (i + 1) < 8 - i; omega
    · have q46' := of_decide_eq_false q46
      have hr : balanced s = true := by unfold balanced; exact decide_eq_true fun k hk => hall k (by omega)
      intro w' t
      rw [hr]
      exact H.r t
end Go.Proofs.Ytnldhkhnfodplaa

namespace Go.Proofs.Ytnldhkhnfodplaa
open Go Go.Vc Go.RowKit
def cmdI (x : ADone) (k : Int) : Int := if x.command.asset = k then (if x.command.op = 17 then x.command.qty else if x.command.op = 18 then -x.command.qty else 0) else 0
def doneI (x : ADone) (k : Int) : Int := cmdI x k - ((x.reply.returns.map fun r => backI r k).sum)
def goodL (l : List ADone) : List ADone := l.filter (fun x => x.reply.err == 0)
def auditSum (l : List ADone) (k : Int) : Int := ((goodL l).map fun x => doneI x k).sum
def ADone.few (x : ADone) : Prop := x.ok ∧ x.reply.returns.length ≤ 900 ∧ ∀ r ∈ x.reply.returns, r.lots.length ≤ 1000000
theorem negW_wide (z : Int) (h : In128 (-z)) : negW (wide z) = wide (-z) := by unfold negW; rw [wide_v, fit_in _ h]
theorem sumW_app (a b : List WideWide) : sumW (a ++ b) = sumW a + sumW b := by simp [sumW]
theorem sumW_one (z : Int) : sumW [wide z] = z := by simp [sumW, wide_v]
theorem back_bound (r : AReturn) (k : Int) (h : r.ok) (hl : r.lots.length ≤ 1000000) : -(9223372036854775808 * 1000000) ≤ backI r k ∧ backI r k ≤ 9223372036854775808 * 1000000 := by
  have := lots_bound r.lots k h.2.2.1 hl
  have := (show ok64 r.cash from h.2.1).is
  unfold backI; split <;> omega
theorem back_in (r : AReturn) (k : Int) (h : r.ok) (hl : r.lots.length ≤ 1000000) : In128 (backI r k) ∧ In128 (-(backI r k)) := by have := back_bound r k h hl; unfold In128; omega
theorem cmd_bound (x : ADone) (k : Int) (h : x.ok) : -9223372036854775808 ≤ cmdI x k ∧ cmdI x k ≤ 9223372036854775808 := by
  have := (show ok64 x.command.qty from h.1.2.2.2.2.2.2.2.2.2.1).is
  unfold cmdI; split <;> (try split) <;> (try split) <;> omega
theorem done_bound (x : ADone) (k : Int) (h : x.few) : -(9223372036854775808 * 1000000000) ≤ doneI x k ∧ doneI x k ≤ 9223372036854775808 * 1000000000 := by
  have h1 := cmd_bound x k h.1
  have h2 := sum_bound (fun r => backI r k) (9223372036854775808 * 1000000) x.reply.returns fun r hr => back_bound r k (h.1.2.2.2.2.1 r hr) (h.2.2 r hr)
  have h3 := h.2.1
  unfold doneI; omega
theorem audit_bound (l : List ADone) (k : Int) (h : ∀ x ∈ l, x.few) (hl : l.length ≤ 900) : -(9223372036854775808 * 1000000000000) ≤ auditSum l k ∧ auditSum l k ≤ 9223372036854775808 * 1000000000000 := by
  have h2 := sum_bound (fun x => doneI x k) (9223372036854775808 * 1000000000) (goodL l) fun x hx => done_bound x k (h x (List.mem_filter.1 hx).1)
  have h3 : (goodL l).length ≤ l.length := List.length_filter_le _ _
  unfold auditSum; omega
theorem good2_ct (l : List ADone) (h : l.length ≤ 1000000) : Ct Try.prog 106 [.sl 18 (l.map ADone.r)] (.sl 18 ((goodL l).map ADone.r)) := good_ct l h
theorem audit_in (l : List ADone) (k : Int) (h : ∀ x ∈ l, x.few) (hl : l.length ≤ 900) : In128 (auditSum l k) := by have := audit_bound l k h hl; unfold In128; omega
set_option maxHeartbeats 2000000 in
set_option maxRecDepth 100000 in
theorem auditSum_ct (l : List ADone) (k : Int) (ha0 : ∀ x ∈ l, x.few) (hb0 : l.length ≤ 900) : Ct Try.prog 50 [.sl 18 (l.map ADone.r), .val (.int .i64 k)] (.agg (WideWide.r (wide (auditSum l k)))) := by
  refine ct_startT (cuts [10]) [] Try.func50 rfl (by decide +kernel) rfl ?_
  intro a1 n2 c3 h4 h4l h4c U w H
  simp only [List.length_map] at h4
  intro b5 hb5
  have H := H.box hb5
  intro b6 hb6
  have H := H.box hb6
  intro w' t
  refine H.c t (good2_ct (l) (by omega)) ?_
  intro a7 n8 c9 h10 h10l h10c w' H
  simp only [List.length_map] at h10
  refine ⟨[7, 9, 15, 16, 17, 18, 19, 20, 21, 22, 23, 24, 25, 26, 27, 28, 29, 30, 31, 32, 33, 34, 35, 36, 37, 38, 39, 40, 41, 42, 43, 44, 45, 46, 47, 48, 49, 50, 51, 52, 53, 54, 55, 56, 57, 58, 59, 60, 61, 62, 63, 64],
    { X := (Nat) × (List WideWide) × (Option Addr) × (Nat), slots := [15], vals := fun (i, ts, ta, tc) => [.int .i64 ((i : Int))], boxes := [1], cells := fun (i, ts, ta, tc) => [[.slc ta ts.length tc]],
      inv := fun (i, ts, ta, tc) w' => Ctx w U [] [b5, b6] [Own.row 94 2 ta tc ((ts).map WideWide.r)] [(.slice a1 n2 c3, .sl 18 ((l).map ADone.r)), (.slice a7 n8 c9, .sl 18 (((goodL (l))).map ADone.r))] w' ∧ (i ≤ (goodL l).length ∧ sumW ts = (((goodL l).take i).map fun x => doneI x k).sum ∧ ts.length ≤ 1000 * i ∧ ∀ w ∈ ts, w.ok), μ := fun (i, ts, ta, tc) => (goodL l).length - i }, by kernel_rfl, ?_, ?_, ?_⟩
  · rintro ⟨i, ts, ta, tc⟩; exact ⟨⟨trivial, trivial⟩, ⟨trivial, trivial⟩, trivial⟩
  · intro w' t
    have H := H.newRow 94 2
    refine ⟨⟨0, [], none, 0⟩, rfl, rfl, rfl, H.fin t 2 _, ?_⟩
    exact ⟨Nat.zero_le _, by simp [sumW], by simp, by simp⟩
  · rintro ⟨i, ts, ta, tc⟩ w' ⟨H, hI⟩
    obtain ⟨hi, hsum, hlen, hok⟩ := hI
    apply And.intro <;> intro q11
    · have q11' := of_decide_eq_true q11
      have hin : i < (goodL l).length := by omega
      have hgl : (goodL l).length ≤ l.length := List.length_filter_le _ _
      have hx : ((goodL l)[i]'hin).few := ha0 _ (List.mem_filter.1 (List.getElem_mem hin)).1
      have hq : ok64 ((goodL l)[i]'hin).command.qty := hx.1.1.2.2.2.2.2.2.2.2.2.1
      have hqi := ok_in _ hq
      have hqn : In128 (-((goodL l)[i]'hin).command.qty) := by have := hq.is; unfold In128; omega
      refine H.at (a := a7) (n := n8) (c := c9) (els := ((goodL (l))).map ADone.r) (i := ((i : Int)).toNat) (cs := (ADone.r (((goodL (l)))[i]'hin))) (by simp [hin]) (Nat.succ_pos _) ?_
      intro ad12 hn13e hn13 a14 n15 c16 h17 h17l h17c a18 n19 c20 h21 h21l h21c a22 n23 c24 h25 h25l h25c a26 n27 c28 h29 h29l h29c H hat30l hat30
      simp only [List.length_map] at h17
      simp only [List.length_map] at h21
      simp only [List.length_map] at h25
      simp only [List.length_map] at h29
      refine ⟨ad12, hn13e, (by first | exact Int.natCast_nonneg _ | omega), (by first | omega | (simp; omega)), ?_⟩
      refine ⟨[.int .i64 ((((goodL (l)))[i]'hin).command.op), .int .i64 ((((goodL (l)))[i]'hin).command.by_), .int .i64 ((((goodL (l)))[i]'hin).command.member), .int .i64 ((((goodL (l)))[i]'hin).command.unit.account), .int .i64 ((((goodL (l)))[i]'hin).command.unit.client), .int .i64 ((((goodL (l)))[i]'hin).command.other.account), .int .i64 ((((goodL (l)))[i]'hin).command.other.client), .int .i64 ((((goodL (l)))[i]'hin).command.inst), .int .i64 ((((goodL (l)))[i]'hin).command.asset), .int .i64 ((((goodL (l)))[i]'hin).command.tag), .int .i64 ((((goodL (l)))[i]'hin).command.id), .int .i64 ((((goodL (l)))[i]'hin).command.qty), .int .i64 ((((goodL (l)))[i]'hin).command.price), .slice a14 n15 c16, .int .i64 ((((goodL (l)))[i]'hin).reply.err), .slice a18 n19 c20, .slice a22 n23 c24, .slice a26 n27 c28], rfl, List.cons_ne_nil _ _, hat30, Us.box (Us.ad hn13), ?_⟩
      intro b31 hb31
      have H := H.box hb31
      refine ⟨[19, 20, 21, 22, 23, 24, 25, 26, 27, 28, 29, 30, 31, 32, 33, 34, 35, 36, 37, 38, 39, 40, 41, 42, 43, 44, 45, 46, 47, 48],
        { X := (List WideWide) × (Option Addr) × (Nat), slots := [], vals := fun (us, ua, uc) => [], boxes := [1], cells := fun (us, ua, uc) => [[.slc ua us.length uc]],
          inv := fun (us, ua, uc) w' => Ctx w U [] [b5, b6, b31] [Own.row 94 2 ua uc ((us).map WideWide.r)] [(.slice a1 n2 c3, .sl 18 ((l).map ADone.r)), (.slice a7 n8 c9, .sl 18 (((goodL (l))).map ADone.r)), (.slice a14 n15 c16, .sl 1 (((((goodL (l)))[i]'hin).command.numbers).map (fun x => [.val (.int .i64 x)]))), (.slice a18 n19 c20, .sl 1 (((((goodL (l)))[i]'hin).reply.numbers).map (fun x => [.val (.int .i64 x)]))), (.slice a22 n23 c24, .sl 5 (((((goodL (l)))[i]'hin).reply.debits).map ADebit.r)), (.slice a26 n27 c28, .sl 4 (((((goodL (l)))[i]'hin).reply.returns).map AReturn.r))] w' ∧ (sumW us = sumW ts + cmdI ((goodL l)[i]'hin) k ∧ us.length ≤ ts.length + 1 ∧ ∀ w ∈ us, w.ok), μ := fun _ => 0 }, fun (us, ua, uc) => [], by kernel_rfl, ?_, ?_, ?_⟩
      · rintro ⟨us, ua, uc⟩; exact ⟨trivial, ⟨trivial, trivial⟩, trivial⟩
      · apply And.intro <;> intro q32
        · have q32' := q32; simp at q32'
          have hc : cmdI ((goodL l)[i]'hin) k = 0 := by unfold cmdI; rw [if_neg (by simpa using q32)]
          intro w' t
          refine ⟨⟨ts, ta, tc⟩, rfl, rfl, rfl, H.fin t 3 _, ?_⟩
          refine ⟨?_, by first | omega | (simp; done) | (simp; omega), ?_⟩
          · rw [hc]; first | (simp; done) | (rw [sumW_app, sumW_one]; done) | (simp only [List.map_cons, List.map_nil, negW_wide _ hqn]; rw [sumW_app, sumW_one]; done)
          · intro w hw; first | exact hok w hw | (rcases List.mem_append.1 hw with h | h <;> first | exact hok w h | (simp only [List.map_cons, List.map_nil, negW_wide _ hqn, List.mem_singleton] at h; subst h; first | exact wide_ok _ hqi | exact wide_ok _ hqn) | (simp only [List.mem_singleton] at h; subst h; exact wide_ok _ hqi))
        · have q32' := q32; simp at q32'
          have ha : ((goodL l)[i]'hin).command.asset = k := by simpa using q32
          apply And.intro <;> intro q33
          · have q33' := q33; simp at q33'
            have hc : cmdI ((goodL l)[i]'hin) k = ((goodL l)[i]'hin).command.qty := by unfold cmdI; rw [if_pos ha, if_pos (by simpa using q33)]
            intro w' t
            refine H.c t (of_ct ((((goodL (l)))[i]'hin).command.qty) hq) ?_
            intro w' H
            intro w' t
            refine Ctx.lit elemOk177 H t (els := [[.val (.int .i64 ((wide ((((goodL (l)))[i]'hin).command.qty)).hi)), .val (.int .u64 ((wide ((((goodL (l)))[i]'hin).command.qty)).lo))]]) [.agg #[.int .i64 ((wide ((((goodL (l)))[i]'hin).command.qty)).hi), .int .u64 ((wide ((((goodL (l)))[i]'hin).command.qty)).lo)]] rfl (⟨rfl, ⟨⟨rfl, rfl, trivial⟩, rfl⟩, trivial⟩) rfl (by decide) (by decide) ?_
            intro lb34 w' H
            intro w' t
            refine H.cB (os1 := [_]) (i := 1) t rfl (tplus_ct b6 ta tc ts ([((wide ((((goodL (l)))[i]'hin).command.qty)))]) (some ⟨lb34, 0, none⟩) 1 1 (by simp; omega)) ?_
            rintro _ _ _ w' ⟨a35, c36, rfl, rfl, rfl⟩
            refine ⟨_, _, rfl, fun hh H => ⟨_, hh, ?_⟩⟩
            intro w' t
            refine ⟨⟨(ts ++ ([((wide ((((goodL (l)))[i]'hin).command.qty)))])), a35, c36⟩, rfl, rfl, rfl, H.fin t 3 _, ?_⟩
            refine ⟨?_, by first | omega | (simp; done) | (simp; omega), ?_⟩
            · rw [hc]; first | (simp; done) | (rw [sumW_app, sumW_one]; done) | (simp only [List.map_cons, List.map_nil, negW_wide _ hqn]; rw [sumW_app, sumW_one]; done)
            · intro w hw; first | exact hok w hw | (rcases List.mem_append.1 hw with h | h <;> first | exact hok w h | (simp only [List.map_cons, List.map_nil, negW_wide _ hqn, List.mem_singleton] at h; subst h; first | exact wide_ok _ hqi | exact wide_ok _ hqn) | (simp only [List.mem_singleton] at h; subst h; exact wide_ok _ hqi))
          · have q33' := q33; simp at q33'
            have h17 : ¬ ((goodL l)[i]'hin).command.op = 17 := by simpa using q33
            apply And.intro <;> intro q37
            · have q37' := q37; simp at q37'
              have hc : cmdI ((goodL l)[i]'hin) k = -((goodL l)[i]'hin).command.qty := by unfold cmdI; rw [if_pos ha, if_neg h17, if_pos (by simpa using q37)]
              intro w' t
              refine H.c t (of_ct ((((goodL (l)))[i]'hin).command.qty) hq) ?_
              intro w' H
              intro w' t
              refine Ctx.lit elemOk177 H t (els := [[.val (.int .i64 ((wide ((((goodL (l)))[i]'hin).command.qty)).hi)), .val (.int .u64 ((wide ((((goodL (l)))[i]'hin).command.qty)).lo))]]) [.agg #[.int .i64 ((wide ((((goodL (l)))[i]'hin).command.qty)).hi), .int .u64 ((wide ((((goodL (l)))[i]'hin).command.qty)).lo)]] rfl (⟨rfl, ⟨⟨rfl, rfl, trivial⟩, rfl⟩, trivial⟩) rfl (by decide) (by decide) ?_
              intro lb38 w' H
              intro w' t
              refine H.cB (os1 := [_]) (i := 1) t rfl (tless_ct b6 ta tc ts ([((wide ((((goodL (l)))[i]'hin).command.qty)))]) (some ⟨lb38, 0, none⟩) 1 1 (by simp; omega) (by intro y hy; simp only [List.mem_singleton] at hy; subst hy; first | exact wide_ok _ hqi | exact wide_ok _ hbi)) ?_
              rintro _ _ _ w' ⟨a39, c40, rfl, rfl, rfl⟩
              refine ⟨_, _, rfl, fun hh H => ⟨_, hh, ?_⟩⟩
              intro w' t
              refine ⟨⟨(ts ++ (([((wide ((((goodL (l)))[i]'hin).command.qty)))]).map negW)), a39, c40⟩, rfl, rfl, rfl, H.fin t 3 _, ?_⟩
              refine ⟨?_, by first | omega | (simp; done) | (simp; omega), ?_⟩
              · rw [hc]; first | (simp; done) | (rw [sumW_app, sumW_one]; done) | (simp only [List.map_cons, List.map_nil, negW_wide _ hqn]; rw [sumW_app, sumW_one]; done)
              · intro w hw; first | exact hok w hw | (rcases List.mem_append.1 hw with h | h <;> first | exact hok w h | (simp only [List.map_cons, List.map_nil, negW_wide _ hqn, List.mem_singleton] at h; subst h; first | exact wide_ok _ hqi | exact wide_ok _ hqn) | (simp only [List.mem_singleton] at h; subst h; exact wide_ok _ hqi))
            · have q37' := q37; simp at q37'
              have hc : cmdI ((goodL l)[i]'hin) k = 0 := by unfold cmdI; rw [if_pos ha, if_neg h17, if_neg (by simpa using q37)]
              intro w' t
              refine ⟨⟨ts, ta, tc⟩, rfl, rfl, rfl, H.fin t 3 _, ?_⟩
              refine ⟨?_, by first | omega | (simp; done) | (simp; omega), ?_⟩
              · rw [hc]; first | (simp; done) | (rw [sumW_app, sumW_one]; done) | (simp only [List.map_cons, List.map_nil, negW_wide _ hqn]; rw [sumW_app, sumW_one]; done)
              · intro w hw; first | exact hok w hw | (rcases List.mem_append.1 hw with h | h <;> first | exact hok w h | (simp only [List.map_cons, List.map_nil, negW_wide _ hqn, List.mem_singleton] at h; subst h; first | exact wide_ok _ hqi | exact wide_ok _ hqn) | (simp only [List.mem_singleton] at h; subst h; exact wide_ok _ hqi))
      · rintro ⟨us, ua, uc⟩ w' ⟨H, hI⟩
        obtain ⟨hsumu, hlenu, hoku⟩ := hI
        refine ⟨[9, 53, 54, 55, 56, 57, 58, 59, 60, 61, 62, 63],
          { X := (Nat) × (List WideWide) × (Option Addr) × (Nat), slots := [53], vals := fun (j, vs, va, vc) => [.int .i64 ((j : Int))], boxes := [1], cells := fun (j, vs, va, vc) => [[.slc va vs.length vc]],
            inv := fun (j, vs, va, vc) w' => Ctx w U [] [b5, b6, b31] [Own.row 94 2 va vc ((vs).map WideWide.r)] [(.slice a1 n2 c3, .sl 18 ((l).map ADone.r)), (.slice a7 n8 c9, .sl 18 (((goodL (l))).map ADone.r)), (.slice a14 n15 c16, .sl 1 (((((goodL (l)))[i]'hin).command.numbers).map (fun x => [.val (.int .i64 x)]))), (.slice a18 n19 c20, .sl 1 (((((goodL (l)))[i]'hin).reply.numbers).map (fun x => [.val (.int .i64 x)]))), (.slice a22 n23 c24, .sl 5 (((((goodL (l)))[i]'hin).reply.debits).map ADebit.r)), (.slice a26 n27 c28, .sl 4 (((((goodL (l)))[i]'hin).reply.returns).map AReturn.r))] w' ∧ (j ≤ ((goodL l)[i]'hin).reply.returns.length ∧ sumW vs = sumW us - ((((goodL l)[i]'hin).reply.returns.take j).map fun r => backI r k).sum ∧ vs.length ≤ us.length + j ∧ ∀ w ∈ vs, w.ok), μ := fun (j, vs, va, vc) => ((goodL l)[i]'hin).reply.returns.length - j }, by kernel_rfl, ?_, ?_, ?_⟩
        · rintro ⟨j, vs, va, vc⟩; exact ⟨⟨trivial, trivial⟩, ⟨trivial, trivial⟩, trivial⟩
        · intro w' t
          refine ⟨⟨0, us, ua, uc⟩, rfl, rfl, rfl, rfl, H.fin t 3 _, ?_⟩
          exact ⟨Nat.zero_le _, by simp, by simp, hoku⟩
        · rintro ⟨j, vs, va, vc⟩ w' ⟨H, hI⟩
          obtain ⟨hj, hsumv, hlenv, hokv⟩ := hI
          apply And.intro <;> intro q41
          · have q41' := of_decide_eq_true q41
            have hjn : j < ((goodL l)[i]'hin).reply.returns.length := by omega
            obtain ⟨hbi, hbn⟩ := back_in ((((goodL l)[i]'hin).reply.returns)[j]'hjn) k (hx.1.2.2.2.2.1 _ (List.getElem_mem _)) (hx.2.2 _ (List.getElem_mem _))
            have hr9 := hx.2.1
            refine H.at (a := a26) (n := n27) (c := c28) (els := ((((goodL (l)))[i]'hin).reply.returns).map AReturn.r) (i := ((j : Int)).toNat) (cs := (AReturn.r (((((goodL (l)))[i]'hin).reply.returns)[j]'hjn))) (by simp [hjn]) (Nat.succ_pos _) ?_
            intro ad42 hn43e hn43 a44 n45 c46 h47 h47l h47c H hat48l hat48
            simp only [List.length_map] at h47
            refine ⟨ad42, hn43e, (by first | exact Int.natCast_nonneg _ | omega), (by first | omega | (simp; omega)), ?_⟩
            refine ⟨[.int .i64 ((((((goodL (l)))[i]'hin).reply.returns)[j]'hjn).unit.account), .int .i64 ((((((goodL (l)))[i]'hin).reply.returns)[j]'hjn).unit.client), .int .i64 ((((((goodL (l)))[i]'hin).reply.returns)[j]'hjn).cash), .slice a44 n45 c46], rfl, List.cons_ne_nil _ _, hat48, Us.box (Us.ad hn43), ?_⟩
            intro b49 hb49
            have H := H.box hb49
            intro w' t
            refine H.c t (back_ct ((((((goodL (l)))[i]'hin).reply.returns)[j]'hjn)) (k) (hx.1.2.2.2.2.1 _ (List.getElem_mem _)) (hx.2.2 _ (List.getElem_mem _))) ?_
            intro w' H
            intro w' t
            refine Ctx.lit elemOk177 H t (els := [[.val (.int .i64 ((wide (backI ((((((goodL (l)))[i]'hin).reply.returns)[j]'hjn)) (k))).hi)), .val (.int .u64 ((wide (backI ((((((goodL (l)))[i]'hin).reply.returns)[j]'hjn)) (k))).lo))]]) [.agg #[.int .i64 ((wide (backI ((((((goodL (l)))[i]'hin).reply.returns)[j]'hjn)) (k))).hi), .int .u64 ((wide (backI ((((((goodL (l)))[i]'hin).reply.returns)[j]'hjn)) (k))).lo)]] rfl (⟨rfl, ⟨⟨rfl, rfl, trivial⟩, rfl⟩, trivial⟩) rfl (by decide) (by decide) ?_
            intro lb50 w' H
            intro w' t
            refine H.cB (os1 := [_]) (i := 1) t rfl (tless_ct b6 va vc vs ([((wide (backI ((((((goodL (l)))[i]'hin).reply.returns)[j]'hjn)) (k))))]) (some ⟨lb50, 0, none⟩) 1 1 (by simp; omega) (by intro y hy; simp only [List.mem_singleton] at hy; subst hy; first | exact wide_ok _ hqi | exact wide_ok _ hbi)) ?_
            rintro _ _ _ w' ⟨a51, c52, rfl, rfl, rfl⟩
            refine ⟨_, _, rfl, fun hh H => ⟨_, hh, ?_⟩⟩
            intro w' t
            refine ⟨⟨j + 1, (vs ++ (([((wide (backI ((((((goodL (l)))[i]'hin).reply.returns)[j]'hjn)) (k))))]).map negW)), a51, c52⟩, (by first | rfl | exact xInc (by first | omega | (rw [maxLen_eq]; omega)) | simp), rfl, rfl, rfl, ⟨H.fin t 3 _, ?_⟩, ?_⟩
            · refine ⟨hjn, ?_, by simp; omega, ?_⟩
              · simp only [List.map_cons, List.map_nil, negW_wide _ hbn]; rw [sumW_app, sumW_one, hsumv, take_map_succ _ _ _ hjn]; simp; omega
              · intro w hw; rcases List.mem_append.1 hw with h | h <;> first | exact hokv w h | (simp only [List.map_cons, List.map_nil, negW_wide _ hbn, List.mem_singleton] at h; subst h; exact wide_ok _ hbn)
            · show ((goodL l)[i]'hin).reply.returns.length - (j + 1) < ((goodL l)[i]'hin).reply.returns.length - j; omega
          · have q41' := of_decide_eq_false q41
            have hex := hsumv
            rw [List.take_of_length_le (by omega)] at hex
            have hr9 := hx.2.1
            intro w' t
            refine ⟨⟨i + 1, vs, va, vc⟩, (by first | rfl | exact xInc (by first | omega | (rw [maxLen_eq]; omega)) | simp), rfl, rfl, ⟨H.fin t 2 _, ?_⟩, ?_⟩
            · refine ⟨hin, ?_, by omega, hokv⟩
              rw [hex, hsumu, hsum, take_map_succ _ _ _ hin]; unfold doneI; simp; omega
            · show (goodL l).length - (i + 1) < (goodL l).length - i; omega
    · have q11' := of_decide_eq_false q11
      have hie : (goodL l).take i = (goodL l) := List.take_of_length_le (by omega)
      rw [hie] at hsum
      have hs : fit (sumW ts) = (wide (auditSum l k), 0) := by rw [hsum]; exact fit_in _ (audit_in l k ha0 hb0)
      intro w' t
      refine H.cB (os1 := [_]) (i := 1) t rfl (tdone2_ct b6 ta tc ts hok) ?_
      rintro _ _ _ w' ⟨rfl, rfl, rfl⟩
      refine ⟨_, _, rfl, fun hh H => ⟨_, hh, ?_⟩⟩
      intro w' t
      rw [hs]
      exact H.r t
end Go.Proofs.Ytnldhkhnfodplaa

namespace Go.Proofs.Ytnldhkhnfodplaa
open Go Go.Vc Go.RowKit
theorem wide_cmp (a b : Int) : ((wide a).hi == (wide b).hi && (wide a).lo == (wide b).lo) = decide (a = b) := by
  by_cases h : a = b
  · subst h; simp
  · rw [decide_eq_false h]
    have : ¬ ((wide a).hi = (wide b).hi ∧ (wide a).lo = (wide b).lo) := fun ⟨h1, h2⟩ => h (wide_inj (by cases ha : wide a; cases hb : wide b; simp_all))
    simp only [Bool.and_eq_false_iff, beq_eq_false_iff_ne, ne_eq]
    omega
def auditCheck (s : AState) (l : List ADone) : Int := if balanced s = true ∧ flowSum s.purse = auditSum l 0 ∧ (∀ k : Nat, k < 4 → holdSum s.holds (k + 1) = auditSum l (k + 1)) then 0 else 3
def AState.few (s : AState) : Prop := ((∀ x ∈ s.book, x.ok) ∧ (∀ x ∈ s.sale, x.ok)) ∧ (s.book.length ≤ 1000000 ∧ s.sale.length ≤ 1000000) ∧ (∀ x ∈ s.purse, x.ok) ∧ s.purse.length ≤ 1000000 ∧ (∀ x ∈ s.holds, x.ok ∧ x.lots.length ≤ 1000000) ∧ s.holds.length ≤ 1000000
set_option maxRecDepth 100000 in
theorem auditCheck_ct (s : AState) (l : List ADone) (ha0 : s.few) (hb0 : ∀ x ∈ l, x.few) (hc0 : l.length ≤ 900) : Ct Try.prog 44 [.agg (AState.r s), .sl 18 (l.map ADone.r)] (.val (.int .i64 (auditCheck s l))) := by
  refine ct_startT [] [] Try.func44 rfl (by decide +kernel) rfl ?_
  intro a1 n2 c3 h4 h4l h4c a5 n6 c7 h8 h8l h8c a9 n10 c11 h12 h12l h12c a13 n14 c15 h16 h16l h16c a17 n18 c19 h20 h20l h20c a21 n22 c23 h24 h24l h24c a25 n26 c27 h28 h28l h28c a29 n30 c31 h32 h32l h32c a33 n34 c35 h36 h36l h36c a37 n38 c39 h40 h40l h40c a41 n42 c43 h44 h44l h44c a45 n46 c47 h48 h48l h48c U w H
  simp only [List.length_map] at h4
  simp only [List.length_map] at h8
  simp only [List.length_map] at h12
  simp only [List.length_map] at h16
  simp only [List.length_map] at h20
  simp only [List.length_map] at h24
  simp only [List.length_map] at h28
  simp only [List.length_map] at h32
  simp only [List.length_map] at h36
  simp only [List.length_map] at h40
  simp only [List.length_map] at h44
  simp only [List.length_map] at h48
  intro b49 hb49
  have H := H.box hb49
  intro w' t
  refine H.c t (balanced_ct (s) ha0.1 ha0.2.1) ?_
  intro w' H
  apply And.intro <;> intro q50
  · have hbal : balanced s = true := by simpa using q50
    intro w' t
    refine H.c t (flowSum_ct (s.purse) ha0.2.2.1 ha0.2.2.2.1) ?_
    intro w' H
    intro w' t
    refine H.c t (auditSum_ct (l) (0) hb0 hc0) ?_
    intro w' H
    apply And.intro <;> intro q51
    · first | (have hz : ¬ flowSum s.purse = auditSum l 0 := by (have hq := q51; simp only [notIf] at hq; rw [wide_cmp] at hq; simpa using hq)) | (have hz : ¬ holdSum s.holds ((i : Int) + 1) = auditSum l ((i : Int) + 1) := by (have hq := q51; simp only [notIf] at hq; rw [wide_cmp] at hq; simpa using hq))
      have hr : auditCheck s l = 3 := by unfold auditCheck; exact if_neg fun hh => hz (by first | exact hh.2.1 | exact hh.2.2 i (by omega))
      intro w' t
      rw [hr]
      exact H.r t
    · first | (have hz : flowSum s.purse = auditSum l 0 := by (have hq := q51; simp only [notIf] at hq; rw [wide_cmp] at hq; simpa using hq)) | (have hz : holdSum s.holds ((i : Int) + 1) = auditSum l ((i : Int) + 1) := by (have hq := q51; simp only [notIf] at hq; rw [wide_cmp] at hq; simpa using hq))
      refine ⟨[4, 5, 17, 18, 19, 20, 21, 22, 23, 24, 25, 26, 27, 28],
        { X := (Nat), slots := [5], vals := fun i => [.int .i64 (((i : Int) + 1))], boxes := [], cells := fun i => [],
          inv := fun i w' => Ctx w U [] [b49] [] [(.slice a1 n2 c3, .sl 4 ((s.members).map AMember.r)), (.slice a5 n6 c7, .sl 5 ((s.insts).map AInst.r)), (.slice a9 n10 c11, .sl 3 ((s.assets).map AAsset.r)), (.slice a13 n14 c15, .sl 4 ((s.accounts).map AAccount.r)), (.slice a17 n18 c19, .sl 5 ((s.choices).map AChoice.r)), (.slice a21 n22 c23, .sl 6 ((s.groups).map AGroup.r)), (.slice a25 n26 c27, .sl 11 ((s.gives).map AGive.r)), (.slice a29 n30 c31, .sl 3 ((s.book).map APos.r)), (.slice a33 n34 c35, .sl 3 ((s.sale).map APos.r)), (.slice a37 n38 c39, .sl 3 ((s.purse).map AFlow.r)), (.slice a41 n42 c43, .sl 3 ((s.holds).map AHold.r)), (.slice a45 n46 c47, .sl 18 ((l).map ADone.r))] w' ∧ (i ≤ 4 ∧ ∀ k : Nat, k < i → holdSum s.holds (k + 1) = auditSum l (k + 1)), μ := fun i => 4 - i }, by kernel_rfl, ?_, ?_, ?_⟩
      · rintro i; exact ⟨⟨trivial, trivial⟩, trivial⟩
      · intro w' t
        refine ⟨0, rfl, rfl, H.fin t 1 _, ?_⟩
        exact ⟨Nat.zero_le _, fun k hk => absurd hk (Nat.not_lt_zero k)⟩
      · rintro (i : Nat) w' ⟨H, hI⟩
        obtain ⟨hi, hall⟩ := hI
        apply And.intro <;> intro q52
        · have q52' := of_decide_eq_true q52
          intro w' t
          refine H.c t (holdSum_ct (s.holds) (((i : Int) + 1)) ha0.2.2.2.2.1 ha0.2.2.2.2.2) ?_
          intro w' H
          intro w' t
          refine H.c t (auditSum_ct (l) (((i : Int) + 1)) hb0 hc0) ?_
          intro w' H
          apply And.intro <;> intro q53
          · first | (have hz : ¬ flowSum s.purse = auditSum l 0 := by (have hq := q53; simp only [notIf] at hq; rw [wide_cmp] at hq; simpa using hq)) | (have hz : ¬ holdSum s.holds ((i : Int) + 1) = auditSum l ((i : Int) + 1) := by (have hq := q53; simp only [notIf] at hq; rw [wide_cmp] at hq; simpa using hq))
            have hr : auditCheck s l = 3 := by unfold auditCheck; exact if_neg fun hh => hz (by first | exact hh.2.1 | exact hh.2.2 i (by omega))
            intro w' t
            rw [hr]
            exact H.r t
          · first | (have hz : flowSum s.purse = auditSum l 0 := by (have hq := q53; simp only [notIf] at hq; rw [wide_cmp] at hq; simpa using hq)) | (have hz : holdSum s.holds ((i : Int) + 1) = auditSum l ((i : Int) + 1) := by (have hq := q53; simp only [notIf] at hq; rw [wide_cmp] at hq; simpa using hq))
            intro w' t
            refine ⟨i + 1, (by show XV.int .i64 (IntKind.i64.wrap ((i : Int) + 1 + 1)) = .int .i64 (((i + 1 : Nat) : Int) + 1); rw [IntWalk.i64_in _ (by omega)]; rfl), rfl, ⟨H.fin t 1 _, ?_⟩, ?_⟩
            · refine ⟨by omega, fun k hk => ?_⟩
              rcases Nat.lt_or_ge k i with h | h
              · exact hall k h
              · have : k = i := by omega
                subst this; exact hz
            · show 4 - (i + 1) < 4 - i; omega
        · have q52' := of_decide_eq_false q52
          have hr : auditCheck s l = 0 := by unfold auditCheck; exact if_pos ⟨hbal, hz, fun k hk => hall k (by omega)⟩
          intro w' t
          rw [hr]
          exact H.r t
  · have hbal : ¬ balanced s = true := by simpa using q50
    have hr : auditCheck s l = 3 := by unfold auditCheck; exact if_neg fun hh => hbal hh.1
    intro w' t
    rw [hr]
    exact H.r t
end Go.Proofs.Ytnldhkhnfodplaa
