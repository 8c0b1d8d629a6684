import Derived.Test.YtnldhkhnfodplaaT9
namespace Go.Proofs.Ytnldhkhnfodplaa
open Go Go.Vc Go.RowKit

def mayS (m : Mem) (day : Int) : Bool := m.ok && decide (0 ≤ day) && decide (day ≤ 1048576)
theorem stepS_eq (m : Mem) (day fr : Int) : stepS m day fr = if mayS m day = true then if m.ph ≠ fr then (Mem.zero, 13) else (⟨m.id, m.cap, m.ph + 1, m.un⟩, 0) else (Mem.zero, 2) := by
  unfold stepS mayS
  cases hm : m.ok
  · simp
  · by_cases h1 : day < 0
    · rw [if_pos (by simp [h1])]
      rw [if_neg (by simp; omega)]
    · by_cases h2 : 1048576 < day
      · rw [if_pos (by simp [h2])]
        rw [if_neg (by simp; omega)]
      · rw [if_neg (by simp; omega)]
        have e : (true && decide (0 ≤ day) && decide (day ≤ 1048576)) = true := by simp; omega
        rw [if_pos e]
theorem may_m (m : Mem) (day : Int) (w : World) : CallsX Try.prog 81 #[m.v, .int .i64 day] w fun v w' => v = .bool (mayS m day) ∧ Below w.heap.size w w' := may_any m day w

set_option maxRecDepth 100000 in
theorem rclose_any (m : Mem) (day : Int) (w : World) :
    CallsX Try.prog 23 #[m.v, .int .i64 day] w fun v w' => v = tupME (stepS m day 2) ∧ Below w.heap.size w w' := by
  rw [stepS_eq]
  refine start [] Try.func23 rfl (by decide +kernel) rfl [.agg [.int .i64 m.id, .int .i64 m.cap, .int .i64 m.ph, .int .i64 m.un], .int .i64 day] rfl ⟨⟨trivial, trivial, trivial, trivial, trivial⟩, trivial, trivial⟩ ?_
  intro b0 hb0 b1 hb1 W1 hs1
  refine onCall hs1 (Below.refl _ w) (Nat.le_refl _) ⟨hb0, hb1, trivial⟩ (may_m m day W1) fun W2 k2 => ?_
  repeat' (apply And.intro <;> intro h)
  all_goals
    intro w' hs
    refine ⟨?_, hs.on k2 (Nat.le_refl _) ⟨hb0, hb1, trivial⟩⟩
    clear hs
    simp_all [oneRes, XV.den, denL, ofConst, constL, tupME, Mem.v, Mem.zero]

set_option maxRecDepth 100000 in
theorem rsell_any (m : Mem) (day : Int) (w : World) :
    CallsX Try.prog 22 #[m.v, .int .i64 day] w fun v w' => v = tupME (sellS m day) ∧ Below w.heap.size w w' := by
  unfold sellS
  rw [stepS_eq]
  refine start [] Try.func22 rfl (by decide +kernel) rfl [.agg [.int .i64 m.id, .int .i64 m.cap, .int .i64 m.ph, .int .i64 m.un], .int .i64 day] rfl ⟨⟨trivial, trivial, trivial, trivial, trivial⟩, trivial, trivial⟩ ?_
  intro b0 hb0 b1 hb1 W1 hs1
  refine onCall hs1 (Below.refl _ w) (Nat.le_refl _) ⟨hb0, hb1, trivial⟩ (may_m m day W1) fun W2 k2 => ?_
  repeat' (apply And.intro <;> intro h)
  all_goals
    intro w' hs
    refine ⟨?_, hs.on k2 (Nat.le_refl _) ⟨hb0, hb1, trivial⟩⟩
    clear hs
    simp_all [oneRes, XV.den, denL, ofConst, constL, tupME, Mem.v, Mem.zero]
  all_goals (rw [if_neg (by omega)]; simp_all)

set_option maxRecDepth 100000 in
theorem rfail_any (m : Mem) (day days : Int) (w : World) :
    CallsX Try.prog 21 #[m.v, .int .i64 day, .int .i64 days] w fun v w' => v = tupME (failS m day days) ∧ Below w.heap.size w w' := by
  unfold failS
  rw [stepS_eq]
  refine start [] Try.func21 rfl (by decide +kernel) rfl [.agg [.int .i64 m.id, .int .i64 m.cap, .int .i64 m.ph, .int .i64 m.un], .int .i64 day, .int .i64 days] rfl ⟨⟨trivial, trivial, trivial, trivial, trivial⟩, trivial, trivial, trivial⟩ ?_
  intro b0 hb0 b1 hb1 W1 hs1
  refine onCall hs1 (Below.refl _ w) (Nat.le_refl _) ⟨hb0, hb1, trivial⟩ (may_m m day W1) fun W2 k2 => ?_
  repeat' (apply And.intro <;> intro h)
  all_goals
    intro w' hs
    refine ⟨?_, hs.on k2 (Nat.le_refl _) ⟨hb0, hb1, trivial⟩⟩
    clear hs
    try simp only [decide_eq_true_eq, decide_eq_false_iff_not] at *
    first
      | (rw [if_pos (by omega)]; simp_all [oneRes, XV.den, denL, ofConst, constL, tupME, Mem.v, Mem.zero]; done)
      | (rw [if_neg (by omega)]; simp_all [oneRes, XV.den, denL, ofConst, constL, tupME, Mem.v, Mem.zero]; done)
      | (by_cases hd : days < 0 ∨ 16 < days
         · rw [if_pos hd]; simp_all [oneRes, XV.den, denL, ofConst, constL, tupME, Mem.v, Mem.zero]; done
         · rw [if_neg hd]; simp_all [oneRes, XV.den, denL, ofConst, constL, tupME, Mem.v, Mem.zero]; done)
      | trace_state
end Go.Proofs.Ytnldhkhnfodplaa
