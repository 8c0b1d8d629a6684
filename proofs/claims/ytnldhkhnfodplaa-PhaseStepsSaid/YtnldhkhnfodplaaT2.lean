import Derived.Test.YtnldhkhnfodplaaT1
namespace Go.Proofs.Ytnldhkhnfodplaa
open Go Go.Vc Go.RowKit

structure Mem where
  id : Int
  cap : Int
  ph : Int
  un : Int
def Mem.v (m : Mem) : Value := .agg #[.int .i64 m.id, .int .i64 m.cap, .int .i64 m.ph, .int .i64 m.un]
def Mem.zero : Mem := ⟨0, 0, 0, 0⟩
def Mem.ok (m : Mem) : Bool := memberIs m.id m.cap m.ph m.un
def tupME (r : Mem × Int) : Value := .tuple #[r.1.v, .int .i64 r.2]
def stepS (m : Mem) (day fr : Int) : Mem × Int :=
  if m.ok = false ∨ day < 0 ∨ 1048576 < day then (Mem.zero, 2) else if m.ph ≠ fr then (Mem.zero, 13) else (⟨m.id, m.cap, m.ph + 1, m.un⟩, 0)

theorem check_m (m : Mem) (w : World) : CallsX Try.prog 141 #[m.v] w fun v w' => v = .int .i64 (if m.ok then 0 else 2) ∧ Below w.heap.size w w' := check_any m.id m.cap m.ph m.un w

theorem ph_range {m : Mem} (h : m.ok = true) : 1 ≤ m.id ∧ m.id ≤ 8 ∧ 0 ≤ m.cap ∧ m.cap ≤ 4611686018427387904 ∧ 0 ≤ m.ph ∧ m.ph ≤ 3 ∧ 0 ≤ m.un ∧ m.un ≤ 2097152 := by
  simpa [Mem.ok, memberIs] using h

set_option maxRecDepth 100000 in
theorem step_any (m : Mem) (day fr : Int) (w : World) :
    CallsX Try.prog 80 #[m.v, .int .i64 day, .int .i64 fr] w fun v w' => v = tupME (stepS m day fr) ∧ Below w.heap.size w w' := by
  refine start [] Try.func80 rfl (by decide +kernel) rfl [.agg [.int .i64 m.id, .int .i64 m.cap, .int .i64 m.ph, .int .i64 m.un], .int .i64 day, .int .i64 fr] rfl ⟨⟨trivial, trivial, trivial, trivial, trivial⟩, trivial, trivial, trivial⟩ ?_
  intro b0 hb0 b1 hb1 W1 hs1
  refine (check_m m W1).mono ?_
  rintro _ W2 ⟨rfl, hb2⟩
  refine ⟨Kept.of_below' _ hs1 hb2, ?_⟩
  have k1 := hs1.on (Below.refl _ w) (Nat.le_refl _) ⟨hb0, hb1, trivial⟩
  have k2 := below_on k1 (Nat.le_refl _) hb2
  repeat' (apply And.intro <;> intro h)
  all_goals
    intro w' hs
    refine ⟨?_, hs.on k2 (Nat.le_refl _) ⟨hb0, hb1, trivial⟩⟩
    clear hs k2 k1 hb2 hs1
    have hr := @ph_range m
    cases hm : m.ok <;> simp_all [oneRes, XV.den, denL, ofConst, constL, tupME, stepS, Mem.v, Mem.zero]
    all_goals first
      | omega
      | (split <;> first | omega | (simp; done) | (simp; omega))
      | (exact IntWalk.i64_in _ (by omega))
      | (rw [if_neg (by omega)]; exact ⟨⟨rfl, rfl, IntWalk.i64_in _ (by omega), rfl⟩, rfl⟩)
      | (rw [if_neg (by omega)]; trace_state)
      | trace_state
end Go.Proofs.Ytnldhkhnfodplaa
