import Derived.Test.YtnldhkhnfodplaaT3
namespace Go.Proofs.Ytnldhkhnfodplaa
open Go Go.Vc Go.RowKit

theorem fail_c : failS ⟨1, 0, 0, 0⟩ 5 2 = (⟨1, 0, 1, 7⟩, 0) := by kernel_rfl
theorem sell_c7 : sellS ⟨1, 0, 1, 7⟩ 7 = (Mem.zero, 18) := by kernel_rfl
theorem sell_c8 : sellS ⟨1, 0, 1, 7⟩ 8 = (⟨1, 0, 2, 7⟩, 0) := by kernel_rfl
theorem soon_c : soonS ⟨1, 0, 1, 7⟩ 6 = 2 := by kernel_rfl

set_option maxRecDepth 100000 in
theorem lives_any (w : World) :
    CallsX Try.prog 18 #[] w fun v w' => v = .bool true ∧ Below w.heap.size w w' := by
  refine start [] Try.func18 rfl (by decide +kernel) rfl [] rfl trivial ?_
  intro W1 hs1
  refine onCall hs1 (Below.refl _ w) (Nat.le_refl _) trivial (fail_c ▸ fail_any ⟨1, 0, 0, 0⟩ 5 2 W1) fun W2 k2 => ?_
  clear hs1
  intro b0 hb0
  replace hb0 := Nat.le_trans k2.size hb0
  intro W3 hs3
  refine onCall hs3 k2 (Nat.le_refl _) ⟨hb0, trivial⟩ (sell_c7 ▸ sell_any ⟨1, 0, 1, 7⟩ 7 W3) fun W4 k4 => ?_
  clear hs3 k2
  intro b2 hb2
  replace hb2 := Nat.le_trans k4.size hb2
  intro W5 hs5
  refine onCall hs5 k4 (Nat.le_refl _) ⟨hb0, hb2, trivial⟩ (sell_c8 ▸ sell_any ⟨1, 0, 1, 7⟩ 8 W5) fun W6 k6 => ?_
  clear hs5 k4
  intro b1 hb1
  replace hb1 := Nat.le_trans k6.size hb1
  repeat' (apply And.intro <;> intro h)
  all_goals first
    | (exfalso; simp [oneRes, XV.den, denL, ofConst, constL, inj0, inj1, tupME] at *; done)
    | skip
  intro W7 hs7
  refine onCall hs7 k6 (Nat.le_refl _) ⟨hb0, hb2, hb1, trivial⟩ (soon_c ▸ soon_any ⟨1, 0, 1, 7⟩ 6 W7) fun W8 k8 => ?_
  intro w' hs
  refine ⟨?_, hs.on k8 (Nat.le_refl _) ⟨hb0, hb2, hb1, trivial⟩⟩
  simp [oneRes, XV.den, denL, ofConst, constL, inj0, inj1, tupME]
end Go.Proofs.Ytnldhkhnfodplaa
