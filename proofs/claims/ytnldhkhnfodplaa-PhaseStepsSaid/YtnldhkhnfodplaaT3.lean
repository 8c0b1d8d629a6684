import Derived.Test.YtnldhkhnfodplaaT2
namespace Go.Proofs.Ytnldhkhnfodplaa
open Go Go.Vc Go.RowKit

def soonS (m : Mem) (day : Int) : Int :=
  if m.ph ≠ 1 ∨ m.un < day then 0 else max 1 (IntKind.i64.wrap (IntKind.i64.wrap (m.un - day) + 1))

set_option maxRecDepth 100000 in
theorem soon_any (m : Mem) (day : Int) (w : World) :
    CallsX Try.prog 19 #[m.v, .int .i64 day] w fun v w' => v = .int .i64 (soonS m day) ∧ Below w.heap.size w w' := by
  refine start [] Try.func19 rfl (by decide +kernel) rfl [.agg [.int .i64 m.id, .int .i64 m.cap, .int .i64 m.ph, .int .i64 m.un], .int .i64 day] rfl ⟨⟨trivial, trivial, trivial, trivial, trivial⟩, trivial, trivial⟩ ?_
  intro b0 hb0
  repeat' (apply And.intro <;> intro h)
  all_goals
    intro w' hs
    refine ⟨?_, hs.on (Below.refl _ w) (Nat.le_refl _) ⟨hb0, trivial⟩⟩
    clear hs
    simp_all [oneRes, XV.den, denL, ofConst, constL, soonS]
    all_goals first
      | omega
      | (rw [if_neg (by omega)]; done)
      | (rw [if_neg (by omega)]; omega)
      | trace_state

set_option maxRecDepth 100000 in
theorem open_any (m : Mem) (day : Int) (w : World) :
    CallsX Try.prog 20 #[m.v, .int .i64 day] w fun v w' => v = .int .i64 (if soonS m day = 0 then 18 else 0) ∧ Below w.heap.size w w' := by
  refine start [] Try.func20 rfl (by decide +kernel) rfl [.agg [.int .i64 m.id, .int .i64 m.cap, .int .i64 m.ph, .int .i64 m.un], .int .i64 day] rfl ⟨⟨trivial, trivial, trivial, trivial, trivial⟩, trivial, trivial⟩ ?_
  intro b0 hb0 W1 hs1
  refine (soon_any m day W1).mono ?_
  rintro _ W2 ⟨rfl, hb2⟩
  refine ⟨Kept.of_below' _ hs1 hb2, ?_⟩
  have k1 := hs1.on (Below.refl _ w) (Nat.le_refl _) ⟨hb0, trivial⟩
  have k2 := below_on k1 (Nat.le_refl _) hb2
  repeat' (apply And.intro <;> intro h)
  all_goals
    intro w' hs
    refine ⟨?_, hs.on k2 (Nat.le_refl _) ⟨hb0, trivial⟩⟩
    clear hs k2 k1 hb2 hs1
    simp_all [oneRes, XV.den, denL, ofConst, constL]

def failS (m : Mem) (day days : Int) : Mem × Int :=
  if days < 0 ∨ 16 < days then (Mem.zero, 2) else
  if (stepS m day 0).2 = 0 then (⟨(stepS m day 0).1.id, (stepS m day 0).1.cap, (stepS m day 0).1.ph, IntKind.i64.wrap (day + days)⟩, 0) else stepS m day 0

set_option maxRecDepth 100000 in
theorem fail_any (m : Mem) (day days : Int) (w : World) :
    CallsX Try.prog 15 #[m.v, .int .i64 day, .int .i64 days] w fun v w' => v = tupME (failS m day days) ∧ Below w.heap.size w w' := by
  refine start [] Try.func15 rfl (by decide +kernel) rfl [.agg [.int .i64 m.id, .int .i64 m.cap, .int .i64 m.ph, .int .i64 m.un], .int .i64 day, .int .i64 days] rfl ⟨⟨trivial, trivial, trivial, trivial, trivial⟩, trivial, trivial, trivial⟩ ?_
  intro b0 hb0
  intro b1 hb1
  repeat' (apply And.intro <;> intro h)
  rotate_left
  · rename_i h1
    intro W1 hs1
    refine (step_any m day 0 W1).mono ?_
    rintro _ W2 ⟨rfl, hb2⟩
    refine ⟨Kept.of_below' _ hs1 hb2, ?_⟩
    have k1 := hs1.on (Below.refl _ w) (Nat.le_refl _) ⟨hb0, hb1, trivial⟩
    have k2 := below_on k1 (Nat.le_refl _) hb2
    clear hs1 hb2 k1
    repeat' (apply And.intro <;> intro h2)
    all_goals
      intro w' hs
      refine ⟨?_, hs.on k2 (Nat.le_refl _) ⟨hb0, hb1, trivial⟩⟩
      clear hs k2
      simp_all [oneRes, XV.den, denL, ofConst, constL, inj0, tupME, Mem.v, failS]
      all_goals (rw [if_neg (by omega)]; simp_all [Mem.v])
  all_goals
    intro w' hs
    refine ⟨?_, hs.on (Below.refl _ w) (Nat.le_refl _) ⟨hb0, hb1, trivial⟩⟩
    clear hs
    simp_all [oneRes, XV.den, denL, ofConst, constL, inj0, tupME, Mem.v, failS, Mem.zero]

def sellS (m : Mem) (day : Int) : Mem × Int :=
  if (stepS m day 1).2 ≠ 0 then (Mem.zero, (stepS m day 1).2) else if day ≤ m.un then (Mem.zero, 18) else ((stepS m day 1).1, 0)

set_option maxRecDepth 100000 in
theorem sell_any (m : Mem) (day : Int) (w : World) :
    CallsX Try.prog 16 #[m.v, .int .i64 day] w fun v w' => v = tupME (sellS m day) ∧ Below w.heap.size w w' := by
  refine start [] Try.func16 rfl (by decide +kernel) rfl [.agg [.int .i64 m.id, .int .i64 m.cap, .int .i64 m.ph, .int .i64 m.un], .int .i64 day] rfl ⟨⟨trivial, trivial, trivial, trivial, trivial⟩, trivial, trivial⟩ ?_
  intro b0 hb0 b1 hb1 W1 hs1
  refine (step_any m day 1 W1).mono ?_
  rintro _ W2 ⟨rfl, hb3⟩
  refine ⟨Kept.of_below' _ hs1 hb3, ?_⟩
  have k1 := hs1.on (Below.refl _ w) (Nat.le_refl _) ⟨hb0, hb1, trivial⟩
  have k2 := below_on k1 (Nat.le_refl _) hb3
  clear hs1 hb3 k1
  intro b2 hb2
  replace hb2 := Nat.le_trans k2.size hb2
  repeat' (apply And.intro <;> intro h2)
  all_goals
    intro w' hs
    refine ⟨?_, hs.on k2 (Nat.le_refl _) ⟨hb0, hb1, hb2, trivial⟩⟩
    clear hs k2
    simp_all [oneRes, XV.den, denL, ofConst, constL, inj0, tupME, Mem.v, Mem.zero, sellS]
  all_goals (rw [if_neg (by omega)]; simp_all [Mem.v])

set_option maxRecDepth 100000 in
theorem close_any (m : Mem) (day : Int) (w : World) :
    CallsX Try.prog 17 #[m.v, .int .i64 day] w fun v w' => v = tupME (stepS m day 2) ∧ Below w.heap.size w w' := by
  refine start [] Try.func17 rfl (by decide +kernel) rfl [.agg [.int .i64 m.id, .int .i64 m.cap, .int .i64 m.ph, .int .i64 m.un], .int .i64 day] rfl ⟨⟨trivial, trivial, trivial, trivial, trivial⟩, trivial, trivial⟩ ?_
  intro b0 hb0 b1 hb1 W1 hs1
  refine (step_any m day 2 W1).mono ?_
  rintro _ W2 ⟨rfl, hb3⟩
  refine ⟨Kept.of_below' _ hs1 hb3, ?_⟩
  have k1 := hs1.on (Below.refl _ w) (Nat.le_refl _) ⟨hb0, hb1, trivial⟩
  have k2 := below_on k1 (Nat.le_refl _) hb3
  clear hs1 hb3 k1
  intro w' hs
  refine ⟨?_, hs.on k2 (Nat.le_refl _) ⟨hb0, hb1, trivial⟩⟩
  clear hs k2
  simp_all [oneRes, XV.den, denL, ofConst, constL, inj0, tupME, Mem.v, Mem.zero]
end Go.Proofs.Ytnldhkhnfodplaa
