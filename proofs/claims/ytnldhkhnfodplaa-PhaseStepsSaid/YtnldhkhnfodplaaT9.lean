import Derived.Test.YtnldhkhnfodplaaVcN
import Derived.Test.YtnldhkhnfodplaaT5
namespace Go.Proofs.Ytnldhkhnfodplaa
open Go Go.Vc Go.RowKit

set_option maxRecDepth 100000 in
theorem is_any (m : Mem) (w : World) :
    CallsX Try.prog 142 #[m.v] w fun v w' => v = .bool m.ok ∧ Below w.heap.size w w' := by
  refine start [] Try.func142 rfl (by decide +kernel) rfl [.agg [.int .i64 m.id, .int .i64 m.cap, .int .i64 m.ph, .int .i64 m.un]] rfl ⟨⟨trivial, trivial, trivial, trivial, trivial⟩, trivial⟩ ?_
  intro b0 hb0
  repeat' (apply And.intro <;> intro h)
  all_goals
    intro w' hs
    refine ⟨?_, hs.on (Below.refl _ w) (Nat.le_refl _) ⟨hb0, trivial⟩⟩
    clear hs
    simp only [oneRes, XV.den, denL, ofConst, Mem.ok, memberIs, decide_eq_true_eq, decide_eq_false_iff_not, Value.bool.injEq] at *
    first
      | (symm; rw [decide_eq_true_eq]; omega)
      | (symm; rw [decide_eq_false_iff_not]; omega)
      | (rw [decide_eq_decide]; omega)
      | trace_state

set_option maxRecDepth 100000 in
theorem may_any (m : Mem) (day : Int) (w : World) :
    CallsX Try.prog 81 #[m.v, .int .i64 day] w fun v w' => v = .bool (m.ok && decide (0 ≤ day) && decide (day ≤ 1048576)) ∧ Below w.heap.size w w' := by
  refine start [] Try.func81 rfl (by decide +kernel) rfl [.agg [.int .i64 m.id, .int .i64 m.cap, .int .i64 m.ph, .int .i64 m.un], .int .i64 day] rfl ⟨⟨trivial, trivial, trivial, trivial, trivial⟩, trivial, trivial⟩ ?_
  intro b0 hb0 W1 hs1
  refine onCall hs1 (Below.refl _ w) (Nat.le_refl _) ⟨hb0, trivial⟩ (is_any m W1) fun W2 k2 => ?_
  repeat' (apply And.intro <;> intro h)
  all_goals
    intro w' hs
    refine ⟨?_, hs.on k2 (Nat.le_refl _) ⟨hb0, trivial⟩⟩
    clear hs
    simp_all [oneRes, XV.den, denL, ofConst]
    try omega

set_option maxRecDepth 100000 in
theorem ropen_any (m : Mem) (day : Int) (w : World) :
    CallsX Try.prog 24 #[m.v, .int .i64 day] w fun v w' => v = .int .i64 (if m.ph = 1 ∧ day ≤ m.un then 0 else 18) ∧ Below w.heap.size w w' := by
  refine start [] Try.func24 rfl (by decide +kernel) rfl [.agg [.int .i64 m.id, .int .i64 m.cap, .int .i64 m.ph, .int .i64 m.un], .int .i64 day] rfl ⟨⟨trivial, trivial, trivial, trivial, trivial⟩, trivial, trivial⟩ ?_
  intro b0 hb0
  repeat' (apply And.intro <;> intro h)
  all_goals
    intro w' hs
    refine ⟨?_, hs.on (Below.refl _ w) (Nat.le_refl _) ⟨hb0, trivial⟩⟩
    clear hs
    simp_all [oneRes, XV.den, denL, ofConst]
    try omega
end Go.Proofs.Ytnldhkhnfodplaa
