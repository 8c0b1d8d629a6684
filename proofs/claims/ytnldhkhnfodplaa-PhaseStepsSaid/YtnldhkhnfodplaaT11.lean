import Derived.Test.YtnldhkhnfodplaaT10
namespace Go.Proofs.Ytnldhkhnfodplaa
open Go Go.Vc Go.RowKit

theorem mixed : Try.prog.follows .mixedOrders = true := by kernel_rfl
theorem startD {f : FuncId} {fn : Func} {c : Code} {args : Array Value} {w : World} {R : Value → World → Prop} (A : Anns) (O : Ords)
    (hf : Try.prog.funcs[f]? = some fn) (hb : fn.body = some c) (hn : (fn.name == "runtime.NumGoroutine") = false) (hl : loopsOk A c = true) (xs : List XV) (hargs : args = (denL xs).toArray) (hw : wfL [] xs)
    (h : initK xs fn.ntmps fun ts => vc Try.prog tab A (drawX Try.prog tab O) c (retQ tab fn.results.toList R) ts [] w) : CallsX Try.prog f args w R :=
  callsX_of_vc tab_ok (drawX_ok tab_ok mixed O) hf hb hn hl xs hargs hw h

def ordSteps : Ords := [(7, [(0, true), (1, true), (2, true), (3, true), (4, true), (5, true), (6, true), (7, true), (8, true), (9, true), (10, true), (11, true), (12, true), (13, true), (14, true), (15, true), (16, true), (17, true), (18, true), (19, true), (20, true), (21, true), (22, true), (23, true), (24, true), (25, true), (26, true), (27, true), (28, true), (29, true), (30, true), (32, true), (33, true), (31, false), (34, false), (35, true), (36, true), (37, true), (38, false), (39, true), (40, true)])]

theorem open_eq (m : Mem) (day : Int) : (if soonS m day = 0 then (18 : Int) else 0) = if m.ph = 1 ∧ day ≤ m.un then 0 else 18 := by
  unfold soonS
  by_cases h : m.ph ≠ 1 ∨ m.un < day
  · rw [if_pos h, if_pos rfl, if_neg (by omega)]
  · rw [if_neg h, if_neg (by omega), if_pos (by omega)]

set_option maxRecDepth 100000 in
theorem phaseSteps_any (m : Mem) (day days : Int) (w : World) :
    CallsX Try.prog 5 #[m.v, .int .i64 day, .int .i64 days] w fun v w' => v = .bool true ∧ Below w.heap.size w w' := by
  refine startD [] ordSteps Try.func5 rfl (by decide +kernel) rfl [.agg [.int .i64 m.id, .int .i64 m.cap, .int .i64 m.ph, .int .i64 m.un], .int .i64 day, .int .i64 days] rfl ⟨⟨trivial, trivial, trivial, trivial, trivial⟩, trivial, trivial, trivial⟩ ?_
  intro b0 hb0 W1 hs1
  refine onCall hs1 (Below.refl _ w) (Nat.le_refl _) ⟨hb0, trivial⟩ (fail_any m day days W1) fun W2 k2 => ?_
  intro b1 hb1
  replace hb1 := Nat.le_trans k2.size hb1
  intro W3 hs3
  refine onCall hs3 k2 (Nat.le_refl _) ⟨hb0, hb1, trivial⟩ (rfail_any m day days W3) fun W4 k4 => ?_
  intro b2 hb2
  replace hb2 := Nat.le_trans k4.size hb2
  intro W5 hs5
  refine onCall hs5 k4 (Nat.le_refl _) ⟨hb0, hb1, hb2, trivial⟩ (sell_any m day W5) fun W6 k6 => ?_
  intro b3 hb3
  replace hb3 := Nat.le_trans k6.size hb3
  intro W7 hs7
  refine onCall hs7 k6 (Nat.le_refl _) ⟨hb0, hb1, hb2, hb3, trivial⟩ (rsell_any m day W7) fun W8 k8 => ?_
  intro b4 hb4
  replace hb4 := Nat.le_trans k8.size hb4
  intro W9 hs9
  refine onCall hs9 k8 (Nat.le_refl _) ⟨hb0, hb1, hb2, hb3, hb4, trivial⟩ (close_any m day W9) fun W10 k10 => ?_
  intro b5 hb5
  replace hb5 := Nat.le_trans k10.size hb5
  intro W11 hs11
  refine onCall hs11 k10 (Nat.le_refl _) ⟨hb0, hb1, hb2, hb3, hb4, hb5, trivial⟩ (rclose_any m day W11) fun W12 k12 => ?_
  intro b6 hb6
  replace hb6 := Nat.le_trans k12.size hb6
  clear hs1 hs3 hs5 hs7 hs9 hs11
  refine ⟨by decide +kernel, ?_⟩
  apply And.intro <;> intro h0
  rotate_left
  · exact absurd h0 (by simp [notIf])
  apply And.intro <;> intro h1
  rotate_left
  · exact absurd h1 (by simp [notIf])
  apply And.intro <;> intro h2
  rotate_left
  · exact absurd h2 (by simp [notIf])
  apply And.intro <;> intro h3
  rotate_left
  · exact absurd h3 (by simp [notIf])
  apply And.intro <;> intro h4
  rotate_left
  · exact absurd h4 (by simp [notIf])
  apply And.intro <;> intro h5
  rotate_left
  · exact absurd h5 (by simp [notIf])
  intro W13 hs13
  refine onCallD hs13 (Ext.refl _ _) k12 (Nat.le_refl _) ⟨hb0, hb1, hb2, hb3, hb4, hb5, hb6, trivial⟩ (open_any m day W13) fun W14 k14 e14 => ?_
  refine ⟨e14, ?_⟩
  intro W15 hs15
  refine onCallD hs15 e14 k14 (Nat.le_refl _) ⟨hb0, hb1, hb2, hb3, hb4, hb5, hb6, trivial⟩ (ropen_any m day W15) fun W16 k16 e16 => ?_
  refine ⟨e16, ?_⟩
  apply And.intro <;> intro h6
  rotate_left
  · exact absurd h6 (by simp [open_eq])
  intro W17 hs17
  refine onCallD hs17 e16 k16 (Nat.le_refl _) ⟨hb0, hb1, hb2, hb3, hb4, hb5, hb6, trivial⟩ (lives_any W17) fun W18 k18 e18 => ?_
  refine ⟨e18, ?_⟩
  intro w' hs
  exact ⟨rfl, hs.on k18 (Nat.le_refl _) ⟨hb0, hb1, hb2, hb3, hb4, hb5, hb6, trivial⟩⟩
end Go.Proofs.Ytnldhkhnfodplaa
