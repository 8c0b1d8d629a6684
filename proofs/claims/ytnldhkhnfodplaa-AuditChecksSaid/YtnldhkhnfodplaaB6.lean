import Derived.Test.YtnldhkhnfodplaaB5
import Derived.Test.YtnldhkhnfodplaaRows
import Derived.JoinedOf
namespace Go.Proofs.Ytnldhkhnfodplaa
open Go Go.Vc Go.RowKit
def isB (s : AState) (l : List ADone) : Bool := decide (auditCheck s l = 0)
theorem isB_iff (s : AState) (l : List ADone) : isB s l = true ↔ (balanced s = true ∧ flowSum s.purse = auditSum l 0 ∧ (∀ k : Nat, k < 4 → holdSum s.holds (k + 1) = auditSum l (k + 1))) := by
  unfold isB auditCheck; rw [decide_eq_true_eq]; split
  · rename_i h; exact ⟨fun _ => h, fun _ => rfl⟩
  · rename_i h; exact ⟨fun e => absurd e (by decide), fun e => absurd e h⟩
theorem isB_no {s : AState} {l : List ADone} (h : ¬ (balanced s = true ∧ flowSum s.purse = auditSum l 0 ∧ (∀ k : Nat, k < 4 → holdSum s.holds (k + 1) = auditSum l (k + 1)))) : isB s l = false := by
  cases e : isB s l
  · rfl
  · exact absurd ((isB_iff s l).1 e) h
theorem cmpI_zero (a b : Int) : cmpI (big a) (big b) = 0 ↔ a = b := by
  unfold cmpI; rw [bv_big, bv_big]
  by_cases h : a - b = 0
  · rw [if_pos h]; exact ⟨fun _ => by omega, fun _ => rfl⟩
  · rw [if_neg h]; split <;> exact ⟨fun e => absurd e (by decide), fun e => absurd (by omega) h⟩
theorem book_len {l : List APos} {k : Int} (h : ∀ x ∈ l, x.ok) (hl : l.length ≤ 1000000) : (big (bookSum l k)).b.length ≤ 1000 := by
  have := bk_in l k h hl
  exact big_len' (by omega)
theorem hold_len {l : List AHold} {k : Int} (h : ∀ x ∈ l, x.ok ∧ x.lots.length ≤ 1000000) (hl : l.length ≤ 1000000) : (big (holdSum l k)).b.length ≤ 1000 := by
  have := sum_bound (fun x : AHold => lotsSum x.lots k) (9223372036854775808 * 1000000) l (fun x hx => lots_bound x.lots k (h x hx).1.2.1 (h x hx).2)
  exact big_len' (by unfold holdSum; omega)
theorem flow_len {l : List AFlow} (h : ∀ x ∈ l, x.ok) (hl : l.length ≤ 1000000) : (big (flowSum l)).b.length ≤ 1000 := by
  have := sum_bound (fun x : AFlow => x.amount) 9223372036854775808 l (fun x hx => by have := (show ok64 x.amount from (h x hx).2).is; omega)
  exact big_len' (by unfold flowSum; omega)
theorem audit_len {l : List ADone} {k : Int} (h : ∀ x ∈ l, x.few) (hl : l.length ≤ 900) : (big (auditSum l k)).b.length ≤ 1000 := by
  have := audit_bound l k h hl
  exact big_len' (by omega)
set_option maxRecDepth 100000 in
theorem isB_ct (s : AState) (l : List ADone) (ha0 : s.few) (hb0 : ∀ x ∈ l, x.few) (hc0 : l.length ≤ 900) : Ct Try.prog 45 [.agg (AState.r s), .sl 18 (l.map ADone.r)] (.val (.bool (isB s l))) := by
  refine ct_startT [] [(4, ofL [(0, true), (1, true), (2, true), (4, true), (5, true), (6, true), (3, false), (7, false), (8, false), (9, true), (10, true), (11, true)])] Try.func45 rfl (by decide +kernel) rfl ?_
  intro a1 n2 c3 h4 h4l h4c a5 n6 c7 h8 h8l h8c a9 n10 c11 h12 h12l h12c a13 n14 c15 h16 h16l h16c a17 n18 c19 h20 h20l h20c a21 n22 c23 h24 h24l h24c a25 n26 c27 h28 h28l h28c a29 n30 c31 h32 h32l h32c a33 n34 c35 h36 h36l h36c a37 n38 c39 h40 h40l h40c a41 n42 c43 h44 h44l h44c a45 n46 c47 h48 h48l h48c U w H
  simp only [List.length_map] at h4
  simp only [List.length_map] at h8
  simp only [List.length_map] at h12
  simp only [List.length_map] at h16
  simp only [List.length_map] at h20
  simp only [List.length_map] at h24
  simp only [List.length_map] at h28
  simp only [List.length_map] at h32
  simp only [List.length_map] at h36
  simp only [List.length_map] at h40
  simp only [List.length_map] at h44
  simp only [List.length_map] at h48
  intro b49 hb49
  have H := H.box hb49
  refine ⟨[4, 5, 7, 8, 9, 10, 11, 12, 13, 14, 15, 16, 17, 18, 19, 20, 21, 22],
    { X := (Nat), slots := [5], vals := fun i => [.int .i64 (((i : Int) + 1))], boxes := [], cells := fun i => [],
      inv := fun i w' => Ctx w U [] [b49] [] [(.slice a1 n2 c3, .sl 4 ((s.members).map AMember.r)), (.slice a5 n6 c7, .sl 5 ((s.insts).map AInst.r)), (.slice a9 n10 c11, .sl 3 ((s.assets).map AAsset.r)), (.slice a13 n14 c15, .sl 4 ((s.accounts).map AAccount.r)), (.slice a17 n18 c19, .sl 5 ((s.choices).map AChoice.r)), (.slice a21 n22 c23, .sl 6 ((s.groups).map AGroup.r)), (.slice a25 n26 c27, .sl 11 ((s.gives).map AGive.r)), (.slice a29 n30 c31, .sl 3 ((s.book).map APos.r)), (.slice a33 n34 c35, .sl 3 ((s.sale).map APos.r)), (.slice a37 n38 c39, .sl 3 ((s.purse).map AFlow.r)), (.slice a41 n42 c43, .sl 3 ((s.holds).map AHold.r)), (.slice a45 n46 c47, .sl 18 ((l).map ADone.r))] w' ∧ (i ≤ 8 ∧ ∀ k : Nat, k < i → bookSum s.book (k + 1) + bookSum s.sale (k + 1) = 0), μ := fun i => 8 - i }, by kernel_rfl, ?_, ?_, ?_⟩
  · rintro i; exact ⟨⟨trivial, trivial⟩, trivial⟩
  · intro w' t
    refine ⟨0, rfl, rfl, H.fin t 1 _, ?_⟩
    exact ⟨Nat.zero_le _, fun k hk => absurd hk (Nat.not_lt_zero k)⟩
  · rintro (i : Nat) w' ⟨H, hI⟩
    obtain ⟨hi, hall⟩ := hI
    apply And.intro <;> intro q50
    · have q50' := of_decide_eq_true q50
      refine ⟨by decide +kernel, ([] : List Nat), [], ?_⟩
      refine ⟨rfl, ?_⟩
      refine ⟨rfl, ?_⟩
      intro w' t
      refine H.cD t (ExtS.refl (([] : List Nat)) [] _ _) (openB2_ct (s.book) (((i : Int) + 1)) (by first | exact ha0.1.1 | exact ha0.1.2) (by first | exact ha0.2.1.1 | exact ha0.2.1.2)) ?_
      intro a51 n52 c53 h54 h54l h54c w' H E
      simp only [List.length_map] at h54
      refine ⟨E, ?_⟩
      intro w' t
      refine H.cD t E (openB2_ct (s.sale) (((i : Int) + 1)) (by first | exact ha0.1.1 | exact ha0.1.2) (by first | exact ha0.2.1.1 | exact ha0.2.1.2)) ?_
      intro a55 n56 c57 h58 h58l h58c w' H E
      simp only [List.length_map] at h58
      refine ⟨E, ?_⟩
      intro w' t
      refine H.cD t E (ct_big (b := big (bookSum s.book ((i : Int) + 1) + bookSum s.sale ((i : Int) + 1))) (addB_ct ((big (bookSum (s.book) (((i : Int) + 1))))) ((big (bookSum (s.sale) (((i : Int) + 1))))) (nb_big _) (nb_big _) (book_len ha0.1.1 ha0.2.1.1) (book_len ha0.1.2 ha0.2.1.2)) (by rw [bv_big, bv_big])) ?_
      intro a59 n60 c61 h62 h62l h62c w' H E
      simp only [List.length_map] at h62
      refine ⟨E, ?_⟩
      apply And.intro <;> intro q63
      · have q63' := of_decide_eq_true q63
        have hr : isB s l = false := isB_no fun hh => by have h1 := of_decide_eq_true hh.1 i (by omega); have h2 := (big_len0 _).2 h1; have h3 := q63'; omega
        intro w' t
        rw [hr]
        exact H.r t
      · have q63' := of_decide_eq_false q63
        have hz : bookSum s.book ((i : Int) + 1) + bookSum s.sale ((i : Int) + 1) = 0 := (big_len0 _).1 (by have h3 := q63'; omega)
        intro w' t
        refine ⟨i + 1, (by show XV.int .i64 (IntKind.i64.wrap ((i : Int) + 1 + 1)) = .int .i64 (((i + 1 : Nat) : Int) + 1); rw [IntWalk.i64_in _ (by omega)]; rfl), rfl, ⟨H.fin t 1 _, ?_⟩, ?_⟩
        · refine ⟨by omega, fun k hk => ?_⟩
          rcases Nat.lt_or_ge k i with h | h
          · exact hall k h
          · have : k = i := by omega
            subst this; exact hz
        · show 8 - (i + 1) < 8 - i; omega
    · have q50' := of_decide_eq_false q50
      have hbal : balanced s = true := decide_eq_true fun k hk => hall k (by omega)
      refine ⟨[4, 6, 23, 24, 25, 26, 27, 28, 29, 30, 31, 32, 33, 34, 35],
        { X := (Nat), slots := [6], vals := fun j => [.int .i64 (((j : Int) + 1))], boxes := [], cells := fun j => [],
          inv := fun j w' => Ctx w U [] [b49] [] [(.slice a1 n2 c3, .sl 4 ((s.members).map AMember.r)), (.slice a5 n6 c7, .sl 5 ((s.insts).map AInst.r)), (.slice a9 n10 c11, .sl 3 ((s.assets).map AAsset.r)), (.slice a13 n14 c15, .sl 4 ((s.accounts).map AAccount.r)), (.slice a17 n18 c19, .sl 5 ((s.choices).map AChoice.r)), (.slice a21 n22 c23, .sl 6 ((s.groups).map AGroup.r)), (.slice a25 n26 c27, .sl 11 ((s.gives).map AGive.r)), (.slice a29 n30 c31, .sl 3 ((s.book).map APos.r)), (.slice a33 n34 c35, .sl 3 ((s.sale).map APos.r)), (.slice a37 n38 c39, .sl 3 ((s.purse).map AFlow.r)), (.slice a41 n42 c43, .sl 3 ((s.holds).map AHold.r)), (.slice a45 n46 c47, .sl 18 ((l).map ADone.r))] w' ∧ (j ≤ 4 ∧ ∀ k : Nat, k < j → holdSum s.holds (k + 1) = auditSum l (k + 1)), μ := fun j => 4 - j }, by kernel_rfl, ?_, ?_, ?_⟩
      · rintro j; exact ⟨⟨trivial, trivial⟩, trivial⟩
      · intro w' t
        refine ⟨0, rfl, rfl, H.fin t 1 _, ?_⟩
        exact ⟨Nat.zero_le _, fun k hk => absurd hk (Nat.not_lt_zero k)⟩
      · rintro (j : Nat) w' ⟨H, hI⟩
        obtain ⟨hj, hallj⟩ := hI
        apply And.intro <;> intro q64
        · have q64' := of_decide_eq_true q64
          intro w' t
          refine H.c t (holdB_ct (s.holds) (((j : Int) + 1)) ha0.2.2.2.2.1 ha0.2.2.2.2.2) ?_
          intro a65 n66 c67 h68 h68l h68c w' H
          simp only [List.length_map] at h68
          intro w' t
          refine H.c t (sumB_ct (l) (((j : Int) + 1)) hb0 hc0) ?_
          intro a69 n70 c71 h72 h72l h72c w' H
          simp only [List.length_map] at h72
          intro w' t
          refine H.c t (cmpB_ct ((big (holdSum (s.holds) (((j : Int) + 1))))) ((big (auditSum (l) (((j : Int) + 1))))) (nb_big _) (nb_big _) (by first | exact hold_len ha0.2.2.2.2.1 ha0.2.2.2.2.2 | exact flow_len ha0.2.2.1 ha0.2.2.2.1) (audit_len hb0 hc0)) ?_
          intro w' H
          apply And.intro <;> intro q73
          · have q73' := q73; simp at q73'
            have hzj : ¬ holdSum s.holds ((j : Int) + 1) = auditSum l ((j : Int) + 1) := fun e => by have h1 := (cmpI_zero _ _).2 e; exact absurd h1 (by simpa using q73)
            have hr : isB s l = false := isB_no fun hh => hzj (hh.2.2 j (by omega))
            intro w' t
            rw [hr]
            exact H.r t
          · have q73' := q73; simp at q73'
            have hzj : holdSum s.holds ((j : Int) + 1) = auditSum l ((j : Int) + 1) := (cmpI_zero _ _).1 (by simpa using q73)
            intro w' t
            refine ⟨j + 1, (by show XV.int .i64 (IntKind.i64.wrap ((j : Int) + 1 + 1)) = .int .i64 (((j + 1 : Nat) : Int) + 1); rw [IntWalk.i64_in _ (by omega)]; rfl), rfl, ⟨H.fin t 1 _, ?_⟩, ?_⟩
            · refine ⟨by omega, fun k hk => ?_⟩
              rcases Nat.lt_or_ge k j with h | h
              · exact hallj k h
              · have : k = j := by omega
                subst this; exact hzj
            · show 4 - (j + 1) < 4 - j; omega
        · have q64' := of_decide_eq_false q64
          have hr : isB s l = ((cmpI (big (flowSum s.purse)) (big (auditSum l 0))) == (0)) := by
            by_cases e : flowSum s.purse = auditSum l 0
            · rw [(cmpI_zero _ _).2 e, (isB_iff s l).2 ⟨hbal, e, fun k hk => hallj k (by omega)⟩]; rfl
            · rw [isB_no fun hh => e hh.2.1]; have h1 := fun h => e ((cmpI_zero _ _).1 h); simpa using h1
          intro w' t
          refine H.c t (totB_ct (s.purse) ha0.2.2.1 ha0.2.2.2.1) ?_
          intro a74 n75 c76 h77 h77l h77c w' H
          simp only [List.length_map] at h77
          intro w' t
          refine H.c t (sumB_ct (l) (0) hb0 hc0) ?_
          intro a78 n79 c80 h81 h81l h81c w' H
          simp only [List.length_map] at h81
          intro w' t
          refine H.c t (cmpB_ct ((big (flowSum (s.purse)))) ((big (auditSum (l) (0)))) (nb_big _) (nb_big _) (by first | exact hold_len ha0.2.2.2.2.1 ha0.2.2.2.2.2 | exact flow_len ha0.2.2.1 ha0.2.2.2.1) (audit_len hb0 hc0)) ?_
          intro w' H
          intro w' t
          rw [hr]
          exact H.r t
end Go.Proofs.Ytnldhkhnfodplaa

namespace Go.Proofs.Ytnldhkhnfodplaa
open Go Go.Vc Go.RowKit
theorem nilG {V W : World} {U0 : Nat → Prop} {L bs : List Nat} {os : List Own} {G : List (Value × R)} (H : Ctx V U0 L bs os G W) (k : Nat) {α : Type} (f : α → List R) : Ctx V U0 L bs os ((.slice none 0 0, .sl k (([] : List α).map f)) :: G) W := by
  have hf : Holds (Us U0 bs os) W ((.slice none 0 0, .sl k (([] : List α).map f)) :: G) := by
    intro p hp
    rcases List.mem_cons.1 hp with rfl | hp
    · simp only [R.h]; exact ⟨none, 0, rfl, Nat.le_refl _, Nat.zero_le _, by simp [rowsH]⟩
    · exact H.facts p hp
  exact { H with facts := hf }
abbrev liveC (op qty : Int) : ACommand := ⟨op, 0, 0, ⟨0, 0⟩, ⟨0, 0⟩, 0, 0, 0, 0, qty, 0, []⟩
abbrev liveL : List ADone := [⟨liveC 17 5, ⟨0, [], [], []⟩⟩, ⟨liveC 18 2, ⟨0, [], [], []⟩⟩, ⟨liveC 17 9, ⟨3, [], [], []⟩⟩]
abbrev liveS : AState := ⟨0, [], [], [], [], [], [], [], [], [], [], []⟩
theorem live_few : ∀ x ∈ liveL, x.few := by
  intro x hx
  simp only [liveL, List.mem_cons, List.not_mem_nil, or_false] at hx
  rcases hx with rfl | rfl | rfl <;> simp [ADone.few, ADone.ok, ACommand.ok, AReply.ok, AUnit.ok, Lit.wf, IntKind.min, IntKind.max, IntKind.signed, IntKind.bits]
theorem live_s : liveS.few := by simp [AState.few]
theorem live_sum : auditSum liveL 0 = 3 := by decide +kernel
theorem live_check : auditCheck liveS liveL = 3 := by unfold auditCheck; exact if_neg (fun h => absurd h.2.1 (by rw [live_sum]; decide))
def liveB : Bool := true
set_option maxRecDepth 100000 in
theorem lives_ct   : Ct Try.prog 46 [] (.val (.bool (liveB))) := by
  refine ct_startT [] [] Try.func46 rfl (by decide +kernel) rfl ?_
  intro U w H
  have H := nilG H 1 (α := Int) (fun x => [R.val (.int .i64 x)])
  have H := nilG H 5 (α := ADebit) ADebit.r
  have H := nilG H 4 (α := AReturn) AReturn.r
  intro w' t
  refine Ctx.lit elemOk79 H t (els := [[.val (.int .i64 (17)), .val (.int .i64 (0)), .val (.int .i64 (0)), .val (.int .i64 (0)), .val (.int .i64 (0)), .val (.int .i64 (0)), .val (.int .i64 (0)), .val (.int .i64 (0)), .val (.int .i64 (0)), .val (.int .i64 (0)), .val (.int .i64 (0)), .val (.int .i64 (5)), .val (.int .i64 (0)), .sl 1 ((([] : List (Int))).map (fun x => [R.val (.int .i64 x)])), .val (.int .i64 (0)), .sl 1 ((([] : List (Int))).map (fun x => [R.val (.int .i64 x)])), .sl 5 ((([] : List (ADebit))).map ADebit.r), .sl 4 ((([] : List (AReturn))).map AReturn.r)], [.val (.int .i64 (18)), .val (.int .i64 (0)), .val (.int .i64 (0)), .val (.int .i64 (0)), .val (.int .i64 (0)), .val (.int .i64 (0)), .val (.int .i64 (0)), .val (.int .i64 (0)), .val (.int .i64 (0)), .val (.int .i64 (0)), .val (.int .i64 (0)), .val (.int .i64 (2)), .val (.int .i64 (0)), .sl 1 ((([] : List (Int))).map (fun x => [R.val (.int .i64 x)])), .val (.int .i64 (0)), .sl 1 ((([] : List (Int))).map (fun x => [R.val (.int .i64 x)])), .sl 5 ((([] : List (ADebit))).map ADebit.r), .sl 4 ((([] : List (AReturn))).map AReturn.r)], [.val (.int .i64 (17)), .val (.int .i64 (0)), .val (.int .i64 (0)), .val (.int .i64 (0)), .val (.int .i64 (0)), .val (.int .i64 (0)), .val (.int .i64 (0)), .val (.int .i64 (0)), .val (.int .i64 (0)), .val (.int .i64 (0)), .val (.int .i64 (0)), .val (.int .i64 (9)), .val (.int .i64 (0)), .sl 1 ((([] : List (Int))).map (fun x => [R.val (.int .i64 x)])), .val (.int .i64 (3)), .sl 1 ((([] : List (Int))).map (fun x => [R.val (.int .i64 x)])), .sl 5 ((([] : List (ADebit))).map ADebit.r), .sl 4 ((([] : List (AReturn))).map AReturn.r)]]) [.agg #[.int .i64 (17), .int .i64 (0), .int .i64 (0), .int .i64 (0), .int .i64 (0), .int .i64 (0), .int .i64 (0), .int .i64 (0), .int .i64 (0), .int .i64 (0), .int .i64 (0), .int .i64 (5), .int .i64 (0), .slice none 0 0, .int .i64 (0), .slice none 0 0, .slice none 0 0, .slice none 0 0], .agg #[.int .i64 (18), .int .i64 (0), .int .i64 (0), .int .i64 (0), .int .i64 (0), .int .i64 (0), .int .i64 (0), .int .i64 (0), .int .i64 (0), .int .i64 (0), .int .i64 (0), .int .i64 (2), .int .i64 (0), .slice none 0 0, .int .i64 (0), .slice none 0 0, .slice none 0 0, .slice none 0 0], .agg #[.int .i64 (17), .int .i64 (0), .int .i64 (0), .int .i64 (0), .int .i64 (0), .int .i64 (0), .int .i64 (0), .int .i64 (0), .int .i64 (0), .int .i64 (0), .int .i64 (0), .int .i64 (9), .int .i64 (0), .slice none 0 0, .int .i64 (3), .slice none 0 0, .slice none 0 0, .slice none 0 0]] rfl (⟨rfl, ⟨⟨rfl, rfl, rfl, rfl, rfl, rfl, rfl, rfl, rfl, rfl, rfl, rfl, rfl, by repeat (first | exact List.Mem.head _ | apply List.Mem.tail), rfl, by repeat (first | exact List.Mem.head _ | apply List.Mem.tail), by repeat (first | exact List.Mem.head _ | apply List.Mem.tail), by repeat (first | exact List.Mem.head _ | apply List.Mem.tail), trivial⟩, rfl⟩, ⟨rfl, ⟨⟨rfl, rfl, rfl, rfl, rfl, rfl, rfl, rfl, rfl, rfl, rfl, rfl, rfl, by repeat (first | exact List.Mem.head _ | apply List.Mem.tail), rfl, by repeat (first | exact List.Mem.head _ | apply List.Mem.tail), by repeat (first | exact List.Mem.head _ | apply List.Mem.tail), by repeat (first | exact List.Mem.head _ | apply List.Mem.tail), trivial⟩, rfl⟩, ⟨rfl, ⟨⟨rfl, rfl, rfl, rfl, rfl, rfl, rfl, rfl, rfl, rfl, rfl, rfl, rfl, by repeat (first | exact List.Mem.head _ | apply List.Mem.tail), rfl, by repeat (first | exact List.Mem.head _ | apply List.Mem.tail), by repeat (first | exact List.Mem.head _ | apply List.Mem.tail), by repeat (first | exact List.Mem.head _ | apply List.Mem.tail), trivial⟩, rfl⟩, trivial⟩⟩⟩) rfl (by decide) (by decide) ?_
  intro lb1 w' H
  have H := nilG H 4 (α := AMember) AMember.r
  have H := nilG H 5 (α := AInst) AInst.r
  have H := nilG H 3 (α := AAsset) AAsset.r
  have H := nilG H 4 (α := AAccount) AAccount.r
  have H := nilG H 5 (α := AChoice) AChoice.r
  have H := nilG H 6 (α := AGroup) AGroup.r
  have H := nilG H 11 (α := AGive) AGive.r
  have H := nilG H 3 (α := APos) APos.r
  have H := nilG H 3 (α := AFlow) AFlow.r
  have H := nilG H 3 (α := AHold) AHold.r
  intro w' t
  refine H.c t (auditCheck_ct (AState.mk (0) (([] : List (AMember))) (([] : List (AInst))) (([] : List (AAsset))) (([] : List (AAccount))) (([] : List (AChoice))) (([] : List (AGroup))) (([] : List (AGive))) (([] : List (APos))) (([] : List (APos))) (([] : List (AFlow))) (([] : List (AHold)))) ([(ADone.mk (ACommand.mk (17) (0) (0) (AUnit.mk (0) (0)) (AUnit.mk (0) (0)) (0) (0) (0) (0) (5) (0) (([] : List (Int)))) (AReply.mk (0) (([] : List (Int))) (([] : List (ADebit))) (([] : List (AReturn))))), (ADone.mk (ACommand.mk (18) (0) (0) (AUnit.mk (0) (0)) (AUnit.mk (0) (0)) (0) (0) (0) (0) (2) (0) (([] : List (Int)))) (AReply.mk (0) (([] : List (Int))) (([] : List (ADebit))) (([] : List (AReturn))))), (ADone.mk (ACommand.mk (17) (0) (0) (AUnit.mk (0) (0)) (AUnit.mk (0) (0)) (0) (0) (0) (0) (9) (0) (([] : List (Int)))) (AReply.mk (3) (([] : List (Int))) (([] : List (ADebit))) (([] : List (AReturn)))))]) live_s live_few (by decide)) ?_
  intro w' H
  apply And.intro <;> intro q2
  · have q2' := q2; simp at q2'
    intro w' t
    refine H.c t (auditSum_ct ([(ADone.mk (ACommand.mk (17) (0) (0) (AUnit.mk (0) (0)) (AUnit.mk (0) (0)) (0) (0) (0) (0) (5) (0) (([] : List (Int)))) (AReply.mk (0) (([] : List (Int))) (([] : List (ADebit))) (([] : List (AReturn))))), (ADone.mk (ACommand.mk (18) (0) (0) (AUnit.mk (0) (0)) (AUnit.mk (0) (0)) (0) (0) (0) (0) (2) (0) (([] : List (Int)))) (AReply.mk (0) (([] : List (Int))) (([] : List (ADebit))) (([] : List (AReturn))))), (ADone.mk (ACommand.mk (17) (0) (0) (AUnit.mk (0) (0)) (AUnit.mk (0) (0)) (0) (0) (0) (0) (9) (0) (([] : List (Int)))) (AReply.mk (3) (([] : List (Int))) (([] : List (ADebit))) (([] : List (AReturn)))))]) (0) live_few (by decide)) ?_
    intro w' H
    intro w' t
    refine H.c t (bigB_ct ((wide (auditSum ([(ADone.mk (ACommand.mk (17) (0) (0) (AUnit.mk (0) (0)) (AUnit.mk (0) (0)) (0) (0) (0) (0) (5) (0) (([] : List (Int)))) (AReply.mk (0) (([] : List (Int))) (([] : List (ADebit))) (([] : List (AReturn))))), (ADone.mk (ACommand.mk (18) (0) (0) (AUnit.mk (0) (0)) (AUnit.mk (0) (0)) (0) (0) (0) (0) (2) (0) (([] : List (Int)))) (AReply.mk (0) (([] : List (Int))) (([] : List (ADebit))) (([] : List (AReturn))))), (ADone.mk (ACommand.mk (17) (0) (0) (AUnit.mk (0) (0)) (AUnit.mk (0) (0)) (0) (0) (0) (0) (9) (0) (([] : List (Int)))) (AReply.mk (3) (([] : List (Int))) (([] : List (ADebit))) (([] : List (AReturn)))))]) (0)))) (wide_ok _ (audit_in liveL 0 live_few (by decide)))) ?_
    intro a3 n4 c5 h6 h6l h6c w' H
    simp only [List.length_map] at h6
    intro w' t
    refine H.c t (ofB_ct (3) (by simp [ok64, Lit.wf, IntKind.min, IntKind.max, IntKind.signed, IntKind.bits])) ?_
    intro a7 n8 c9 h10 h10l h10c w' H
    simp only [List.length_map] at h10
    intro w' t
    refine H.c t (cmpB_ct ((big (((wide (auditSum ([(ADone.mk (ACommand.mk (17) (0) (0) (AUnit.mk (0) (0)) (AUnit.mk (0) (0)) (0) (0) (0) (0) (5) (0) (([] : List (Int)))) (AReply.mk (0) (([] : List (Int))) (([] : List (ADebit))) (([] : List (AReturn))))), (ADone.mk (ACommand.mk (18) (0) (0) (AUnit.mk (0) (0)) (AUnit.mk (0) (0)) (0) (0) (0) (0) (2) (0) (([] : List (Int)))) (AReply.mk (0) (([] : List (Int))) (([] : List (ADebit))) (([] : List (AReturn))))), (ADone.mk (ACommand.mk (17) (0) (0) (AUnit.mk (0) (0)) (AUnit.mk (0) (0)) (0) (0) (0) (0) (9) (0) (([] : List (Int)))) (AReply.mk (3) (([] : List (Int))) (([] : List (ADebit))) (([] : List (AReturn)))))]) (0))))).v)) ((big (3))) (nb_big _) (nb_big _) (by rw [wide_v]; exact audit_len (l := liveL) live_few (by decide)) (big_len' (by omega))) ?_
    intro w' H
    have hr : liveB = ((cmpI (big (wide (auditSum liveL 0)).v) (big 3)) == (0)) := by rw [wide_v, live_sum, (cmpI_zero _ _).2 rfl]; rfl
    intro w' t
    rw [hr]
    exact H.r t
  · exact absurd q2 (by rw [live_check]; decide)
end Go.Proofs.Ytnldhkhnfodplaa

namespace Go.Proofs.Ytnldhkhnfodplaa
open Go Go.Vc Go.RowKit
theorem lives_ctT : Ct Try.prog 46 [] (.val (.bool true)) := lives_ct
theorem tk {α : Type} {p : α → Prop} {l : List α} (n : Nat) (h : ∀ x ∈ l, p x) : ∀ x ∈ l.take n, p x := fun x hx => h x (List.mem_of_mem_take hx)
theorem tl {α : Type} (l : List α) (n m : Nat) (h : n ≤ m) : (l.take n).length ≤ m := by rw [List.length_take]; omega
theorem few19_ok {l : List APos} (h : ∀ x ∈ l, x.ok) : ∀ x ∈ few19 l, x.ok := by
  intro x hx
  obtain ⟨p, hp, rfl⟩ := List.mem_map.1 hx
  have h1 := h p (List.mem_of_mem_take hp)
  exact ⟨h1.1, tk 12 h1.2.1, Nat.le_trans (tl p.legs 12 12 (Nat.le_refl _)) (by rw [maxLen_eq]; omega)⟩
theorem few26_ok {l : List AHold} (h : ∀ x ∈ l, x.ok) : ∀ x ∈ few26 l, x.ok ∧ x.lots.length ≤ 1000000 := by
  intro x hx
  obtain ⟨p, hp, rfl⟩ := List.mem_map.1 hx
  have h1 := h p (List.mem_of_mem_take hp)
  exact ⟨⟨h1.1, tk 20 h1.2.1, Nat.le_trans (tl p.lots 20 20 (Nat.le_refl _)) (by rw [maxLen_eq]; omega)⟩, tl p.lots 20 _ (by omega)⟩
theorem few33_few {s : AState} (h : s.ok) : (few33 s).few := by
  obtain ⟨_, _, _, _, _, _, _, _, hb, hs, hp, hh⟩ := h
  refine ⟨⟨few19_ok hb.1, few19_ok hs.1⟩, ⟨?_, ?_⟩, tk 20 hp.1, tl s.purse 20 _ (by omega), few26_ok hh.1, ?_⟩
  · show (few19 s.book).length ≤ _; unfold few19; rw [List.length_map]; exact tl s.book 12 _ (by omega)
  · show (few19 s.sale).length ≤ _; unfold few19; rw [List.length_map]; exact tl s.sale 12 _ (by omega)
  · show (few26 s.holds).length ≤ _; unfold few26; rw [List.length_map]; exact tl s.holds 10 _ (by omega)
theorem short34_ok {c : ACommand} (h : c.ok) : (short34 c).ok := by
  simp only [ACommand.ok, short34] at h ⊢
  simp only [h, true_and, and_true]
  first | exact ⟨tk 40 (by first | exact h.2.2.2.2.2.2.2.2.2.2.2.1 | (intro y hy; simp_all)), Nat.le_trans (tl c.numbers 40 40 (Nat.le_refl _)) (by rw [maxLen_eq]; omega)⟩ | exact Nat.le_trans (tl c.numbers 40 40 (Nat.le_refl _)) (by rw [maxLen_eq]; omega)
theorem short39_ok {r : AReturn} (h : r.ok) : (short39 r).ok := ⟨h.1, h.2.1, tk 20 h.2.2.1, Nat.le_trans (tl r.lots 20 20 (Nat.le_refl _)) (by rw [maxLen_eq]; omega)⟩
theorem few39_few {l : List ADone} (h : ∀ x ∈ l, x.ok) : ∀ x ∈ few39 l, x.few := by
  intro x hx
  obtain ⟨p, hp, rfl⟩ := List.mem_map.1 hx
  have h1 := h p (List.mem_of_mem_take hp)
  obtain ⟨he, hn, hd, hr⟩ := h1.2
  have hmem : ∀ r ∈ (p.reply.returns.take 10).map short39, ∃ q ∈ p.reply.returns, r = short39 q := fun r hr' => by
    obtain ⟨q, hq, rfl⟩ := List.mem_map.1 hr'
    exact ⟨q, List.mem_of_mem_take hq, rfl⟩
  refine ⟨⟨short34_ok h1.1, he, ⟨tk 20 hn.1, Nat.le_trans (tl _ 20 20 (Nat.le_refl _)) (by rw [maxLen_eq]; omega)⟩, ⟨tk 20 hd.1, Nat.le_trans (tl _ 20 20 (Nat.le_refl _)) (by rw [maxLen_eq]; omega)⟩, fun r hr' => ?_, ?_⟩, ?_, fun r hr' => ?_⟩
  · obtain ⟨q, hq, rfl⟩ := hmem r hr'; exact short39_ok (hr.1 q hq)
  · show ((p.reply.returns.take 10).map short39).length ≤ _; rw [List.length_map]; exact tl _ 10 _ (by rw [maxLen_eq]; omega)
  · show ((p.reply.returns.take 10).map short39).length ≤ _; rw [List.length_map]; exact tl _ 10 _ (by omega)
  · obtain ⟨q, hq, rfl⟩ := hmem r hr'; exact tl q.lots 20 _ (by omega)
theorem few39_len (l : List ADone) : (few39 l).length ≤ 900 := by unfold few39; rw [List.length_map]; exact tl l 30 _ (by omega)
set_option maxRecDepth 100000 in
theorem law39_ct (s : AState) (l : List ADone) (ha0 : s.ok) (hb0 : ∀ x ∈ l, x.ok) : Ct Try.prog 9 [.agg (AState.r s), .sl 18 (l.map ADone.r)] (.val (.bool (liveB))) := by
  refine ct_startT [] [(2, ofL [(0, true), (1, true), (4, true), (5, true), (2, false), (3, true), (6, false), (7, true), (8, true), (9, false), (10, true), (11, true)])] Try.func9 rfl (by decide +kernel) rfl ?_
  intro a1 n2 c3 h4 h4l h4c a5 n6 c7 h8 h8l h8c a9 n10 c11 h12 h12l h12c a13 n14 c15 h16 h16l h16c a17 n18 c19 h20 h20l h20c a21 n22 c23 h24 h24l h24c a25 n26 c27 h28 h28l h28c a29 n30 c31 h32 h32l h32c a33 n34 c35 h36 h36l h36c a37 n38 c39 h40 h40l h40c a41 n42 c43 h44 h44l h44c a45 n46 c47 h48 h48l h48c U w H
  simp only [List.length_map] at h4
  simp only [List.length_map] at h8
  simp only [List.length_map] at h12
  simp only [List.length_map] at h16
  simp only [List.length_map] at h20
  simp only [List.length_map] at h24
  simp only [List.length_map] at h28
  simp only [List.length_map] at h32
  simp only [List.length_map] at h36
  simp only [List.length_map] at h40
  simp only [List.length_map] at h44
  simp only [List.length_map] at h48
  intro b49 hb49
  have H := H.box hb49
  intro w' t
  refine H.c t (few33_ct (s)) ?_
  intro a50 n51 c52 h53 h53l h53c a54 n55 c56 h57 h57l h57c a58 n59 c60 h61 h61l h61c a62 n63 c64 h65 h65l h65c a66 n67 c68 h69 h69l h69c a70 n71 c72 h73 h73l h73c a74 n75 c76 h77 h77l h77c a78 n79 c80 h81 h81l h81c a82 n83 c84 h85 h85l h85c a86 n87 c88 h89 h89l h89c a90 n91 c92 h93 h93l h93c w' H
  simp only [List.length_map] at h53
  simp only [List.length_map] at h57
  simp only [List.length_map] at h61
  simp only [List.length_map] at h65
  simp only [List.length_map] at h69
  simp only [List.length_map] at h73
  simp only [List.length_map] at h77
  simp only [List.length_map] at h81
  simp only [List.length_map] at h85
  simp only [List.length_map] at h89
  simp only [List.length_map] at h93
  intro w' t
  refine H.c t (few39_ct (l)) ?_
  intro a94 n95 c96 h97 h97l h97c w' H
  simp only [List.length_map] at h97
  refine ⟨by decide +kernel, ([] : List Nat), [], ?_⟩
  refine ⟨rfl, ?_⟩
  refine ⟨rfl, ?_⟩
  intro w' t
  refine H.cD t (ExtS.refl (([] : List Nat)) [] _ _) (auditCheck_ct ((few33 (s))) ((few39 (l))) (few33_few ha0) (few39_few hb0) (few39_len l)) ?_
  intro w' H E
  refine ⟨E, ?_⟩
  intro w' t
  refine H.cD t E (isB_ct ((few33 (s))) ((few39 (l))) (few33_few ha0) (few39_few hb0) (few39_len l)) ?_
  intro w' H E
  refine ⟨E, ?_⟩
  apply And.intro <;> intro q98
  · intro w' t
    refine H.cD t E (lives_ct) ?_
    intro w' H E
    refine ⟨E, ?_⟩
    intro w' t
    exact H.r t
  · exact absurd q98 (by first | (simp [notIf, isB]; done) | (show ¬ notIf false (_ == _) = false; simp only [notIf, isB]; simp; done) | (simp [notIf, isB, Bool.beq_eq_decide_eq]; done) | (unfold isB; cases h9 : decide (auditCheck (few33 s) (few39 l) = 0) <;> simp_all [notIf]))
theorem law39T (s : AState) (l : List ADone) (o0 : s.ok) (o1 : (∀ y ∈ l, y.ok) ∧ l.length ≤ maxLen) : Ct Try.prog 9 [.agg (AState.r s), rADones l] (.val (.bool true)) := law39_ct s l o0 o1.1
end Go.Proofs.Ytnldhkhnfodplaa

namespace Go.Proofs.Ytnldhkhnfodplaa
open Go Go.Vc Go.RowKit Go.ChangeShapes Go.WideShapes Go.ChangeAt Go.Joins

theorem own : ownKnob Try.prog.godebug = none := by kernel_rfl
theorem laidOut : laidOutB Try.prog = true := by kernel_rfl
theorem trod_places {H : Type} {enc : TypeId × Value → H} {w : World} {spare : Nat → Bool} {held : Bool} {t : TypeId} {v : Value} {d : DataW H} {p : List MemPlace} (h : DataW.Trod enc Try.prog w 0 spare held t v d p) : ∀ x ∈ p, x.block < w.heap.size := by
  obtain ⟨m, hm⟩ := h; exact DataW.trod_lt m _ _ _ hm
end Go.Proofs.Ytnldhkhnfodplaa

/-! A program's closures over a table of who leads to whom (own work): so that 'recurses' is not reckoned by the kernel function by function. -/
namespace Go.Vc
open Go
def closT (T : List (List Nat)) : Nat → List Nat → List Nat → List Nat
  | 0, _, seen => seen.reverse
  | _, [], seen => seen.reverse
  | n + 1, f :: todo, seen => if seen.contains f then closT T n todo seen else closT T n ((T[f]?).getD [] ++ todo) (f :: seen)
theorem lead_eq {P : Program} {T : List (List Nat)} (hT : P.funcs.toList.map P.leadsTo = T) (f : Nat) : (P.funcs[f]?).elim [] P.leadsTo = (T[f]?).getD [] := by
  subst hT
  rw [List.getElem?_map, Array.getElem?_toList]
  cases P.funcs[f]? <;> rfl
theorem closureVia_eq {P : Program} {T : List (List Nat)} (hT : P.funcs.toList.map P.leadsTo = T) : ∀ n todo seen, P.closureVia n todo seen = closT T n todo seen
  | 0, _, _ => by simp only [Program.closureVia, closT]
  | n + 1, [], _ => by simp only [Program.closureVia, closT]
  | n + 1, f :: todo, seen => by
    simp only [Program.closureVia, closT]
    rw [closureVia_eq hT n, closureVia_eq hT n, lead_eq hT f]
theorem closure_eq {P : Program} {T : List (List Nat)} (hT : P.funcs.toList.map P.leadsTo = T) (f : Nat) : P.closure f = closT T (1 + (T.map fun l => l.length + 1).sum) [f] [] := by
  unfold Program.closure
  rw [closureVia_eq hT]
  subst hT
  rw [List.map_map]; rfl
theorem mem_closT {T : List (List Nat)} {p : Nat → Prop} (hp : ∀ x, p x → ∀ y ∈ (T[x]?).getD [], p y) : ∀ n todo seen, (∀ x ∈ todo, p x) → (∀ x ∈ seen, p x) → ∀ x ∈ closT T n todo seen, p x
  | 0, _, _, _, hs => by intro x hx; simp only [closT] at hx; exact hs x (by simpa using hx)
  | n + 1, [], _, _, hs => by intro x hx; simp only [closT] at hx; exact hs x (by simpa using hx)
  | n + 1, f :: todo, seen, ht, hs => by
    intro x hx
    simp only [closT] at hx
    split at hx
    · exact mem_closT hp n todo seen (fun y hy => ht y (by simp [hy])) hs x hx
    · refine mem_closT hp n _ _ (fun y hy => ?_) (fun y hy => ?_) x hx
      · rcases List.mem_append.1 hy with h | h
        · exact hp f (ht f (by simp)) y h
        · exact ht y (by simp [h])
      · rcases List.mem_cons.1 hy with rfl | h
        · exact ht y (by simp)
        · exact hs y h
/-- a rank that falls along every call (0: not ranked) -/
def okRk (T : List (List Nat)) (rk : List Nat) : Bool :=
  (List.range T.length).all fun g => (rk[g]?).getD 0 == 0 || ((T[g]?).getD []).all fun h => decide (0 < (rk[h]?).getD 0) && decide ((rk[h]?).getD 0 < (rk[g]?).getD 0)
theorem okRk_at {T : List (List Nat)} {rk : List Nat} (h : okRk T rk = true) {g y : Nat} (hg : 0 < (rk[g]?).getD 0) (hy : y ∈ (T[g]?).getD []) : 0 < (rk[y]?).getD 0 ∧ (rk[y]?).getD 0 < (rk[g]?).getD 0 := by
  have hlt : g < T.length := by
    rcases Nat.lt_or_ge g T.length with h1 | h1
    · exact h1
    · rw [List.getElem?_eq_none h1] at hy; cases hy
  have := List.all_eq_true.1 h g (List.mem_range.2 hlt)
  simp only [Bool.or_eq_true, beq_iff_eq, List.all_eq_true, Bool.and_eq_true, decide_eq_true_eq] at this
  rcases this with h0 | h0
  · omega
  · exact h0 y hy
theorem recurses_no {P : Program} {T : List (List Nat)} {rk : List Nat} {f : Nat} (hT : P.funcs.toList.map P.leadsTo = T) (hk : okRk T rk = true) (hf : 0 < (rk[f]?).getD 0) (hu : P.unfollowed f = false) : P.recurses f = false := by
  unfold Program.recurses
  rw [hu, Bool.false_or, List.any_eq_false]
  intro g hg
  rw [closure_eq hT] at hg
  have hg0 : 0 < (rk[g]?).getD 0 := mem_closT (p := fun x => 0 < (rk[x]?).getD 0) (fun x hx y hy => (okRk_at hk hx hy).1) _ _ _ (by intro x hx; simp only [List.mem_singleton] at hx; subst hx; exact hf) (by intro x hx; cases hx) g hg
  simp only [Bool.not_eq_true, List.any_eq_false]
  intro h hh
  rw [lead_eq hT] at hh
  obtain ⟨h1, h2⟩ := okRk_at hk hg0 hh
  rw [closure_eq hT]
  cases hc : (closT T (1 + (T.map fun l => l.length + 1).sum) [h] []).contains g with
  | false => rfl
  | true =>
    have hm := List.contains_iff_mem.1 hc
    have := mem_closT (p := fun x => 0 < (rk[x]?).getD 0 ∧ (rk[x]?).getD 0 ≤ (rk[h]?).getD 0) (fun x hx y hy => by have := okRk_at hk hx.1 hy; exact ⟨this.1, by omega⟩) _ _ _ (by intro x hx; simp only [List.mem_singleton] at hx; subst hx; exact ⟨h1, Nat.le_refl _⟩) (by intro x hx; cases hx) g hm
    omega
end Go.Vc

namespace Go.Proofs.Ytnldhkhnfodplaa
open Go Go.Vc
def leadsT : List (List Nat) := [[], [], [1], [15, 16, 17, 18], [18, 19, 20, 18, 20, 20, 20, 18], [15, 21, 16, 22, 17, 23, 20, 24, 18], [25, 27, 26, 27, 28, 30, 29, 30, 31, 33, 32, 34], [27, 30, 35, 25, 26, 29, 33, 36, 37, 38, 39, 36, 25, 40, 37, 41, 26, 39, 33, 32, 34], [27, 26, 30, 29, 33, 37, 38, 40, 41, 39, 34], [42, 43, 44, 45, 46], [43, 47, 50, 49, 51, 48, 52, 49, 48, 53, 49, 48, 55, 56, 54, 58, 59, 57, 46], [60, 61, 62, 32, 63, 64, 65, 66, 67], [35, 60, 68, 69, 70, 61, 32, 61, 67, 68, 70, 67], [71, 35, 72, 73, 74, 32, 75, 73, 75, 67, 74, 32, 67], [76, 76, 77, 77, 78, 79], [80], [80], [80], [15, 16, 16, 19], [], [19], [81], [81], [81], [], [], [82, 84, 83], [], [85], [82, 84, 83], [], [85], [], [82, 86], [25, 26, 29, 33, 36, 32, 37, 37, 38, 39], [], [86], [87, 88, 89, 90], [37, 87, 90], [41], [87], [], [91, 92, 92, 76, 93, 94], [60, 95], [96, 97, 50, 98, 50], [100, 100, 99, 101, 51, 48, 102, 51, 48], [44, 50, 49, 103, 48], [56, 103, 99, 103, 99], [104], [105], [106, 108, 107, 108, 109, 110, 109, 111], [103, 99, 103, 104, 103, 104, 112, 104], [114, 113], [115, 113], [], [106], [], [], [106], [], [], [63, 116], [64, 117, 66, 117, 117, 117, 117, 117, 117, 117, 85, 85, 117, 28], [116, 118, 119], [66, 121, 120, 121, 120, 121, 120, 121, 120, 121, 120, 121, 120, 121, 120, 121, 120, 121, 120, 121, 121, 121], [], [], [61, 68, 32], [118], [122, 122, 66, 122, 122, 122, 122, 122, 122, 122, 122, 122, 122, 122, 123, 122, 124, 64], [125], [95], [25, 26, 26, 26, 126, 126, 26, 26, 126, 26, 26, 33], [36, 127, 128, 129, 41, 130, 130, 37, 129, 41, 131, 39, 72, 132], [117, 28, 117, 117, 85, 117, 117, 85, 117, 117, 85], [125, 54, 133], [], [134, 135, 136, 138, 137], [], [139, 140, 140, 134], [141], [142], [], [], [], [], [], [], [90, 90], [], [], [], [143], [95], [], [], [144, 144, 107, 111], [108, 145], [146, 145], [148, 147, 149, 150, 147, 150, 147], [151, 103, 99], [112, 99], [103, 99], [152, 152, 148], [153, 99], [103, 152, 99], [], [], [], [154, 107], [108, 146], [145], [103, 99], [55, 108, 107, 111], [], [], [25, 26, 65, 155, 33], [85], [36, 37, 129, 65, 156, 39], [157], [], [], [123], [158, 158, 158], [], [], [26], [37], [129, 41, 37], [37], [127, 127], [130, 37, 129, 41, 127, 127, 37], [], [159], [160], [161], [162, 163], [108, 145, 164], [], [165, 134, 77], [], [], [], [], [166, 108, 145], [167, 168], [108, 145], [], [], [], [], [], [], [147], [170, 172, 171, 169], [26, 126, 126, 26, 26, 26, 26, 26, 26, 26, 26], [129, 173, 173, 129, 129, 129, 129, 37, 37, 128], [], [], [], [], [], [175, 174], [160, 160], [176], [108, 108, 177, 164], [], [178, 178], [169], [], [172, 179, 179], [179, 179], [], [129, 129], [180, 181, 182, 183, 184, 185, 186, 187, 174, 174], [188, 189], [108], [167, 167, 108, 167, 168], [], [], [], [190, 190], [191, 192], [193, 193, 193, 194], [], [], [], [], [], [], [], [175], [], [194], [195, 195, 195], [], [], [], [], [], [], [], [], [], [], [], [], [], [], [], [], [], []]
def rankT : List Nat := [1, 1, 2, 5, 5, 5, 6, 6, 6, 9, 9, 11, 11, 11, 0, 3, 3, 3, 4, 1, 2, 3, 3, 3, 1, 1, 2, 1, 2, 2, 1, 2, 1, 2, 5, 1, 2, 3, 4, 2, 2, 1, 3, 2, 7, 5, 8, 3, 4, 4, 6, 4, 6, 6, 1, 2, 1, 1, 2, 1, 1, 9, 3, 8, 2, 1, 1, 10, 8, 4, 2, 2, 4, 7, 3, 3, 1, 0, 1, 0, 2, 2, 1, 1, 1, 1, 1, 1, 2, 1, 1, 1, 2, 2, 1, 1, 5, 4, 5, 2, 3, 4, 3, 2, 3, 3, 1, 1, 1, 4, 5, 4, 3, 5, 1, 1, 5, 2, 7, 2, 1, 1, 3, 2, 1, 1, 3, 4, 5, 4, 5, 6, 1, 2, 2, 2, 0, 4, 1, 0, 1, 1, 1, 1, 4, 3, 4, 1, 1, 1, 1, 1, 1, 2, 3, 4, 6, 1, 1, 1, 1, 1, 0, 2, 3, 4, 1, 2, 2, 1, 2, 2, 1, 5, 0, 2, 2, 3, 1, 1, 1, 2, 4, 4, 1, 1, 1, 1, 1, 1, 1, 3, 1, 3, 2, 1, 1, 1, 1, 1, 1, 1, 1, 1, 1, 1, 1, 1, 1, 1, 1, 1, 1]
set_option maxRecDepth 1000000 in
theorem leads_ok : Try.prog.funcs.toList.map Try.prog.leadsTo = leadsT := by kernel_rfl
set_option maxRecDepth 1000000 in
theorem rank_ok : okRk leadsT rankT = true := by kernel_rfl
end Go.Proofs.Ytnldhkhnfodplaa
