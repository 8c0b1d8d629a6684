import Derived.Test.YtnldhkhnfodplaaT4
namespace Go.Proofs.Ytnldhkhnfodplaa
open Go Go.Vc Go.RowKit

theorem i64c (z : Int) (h : -9223372036854775808 ≤ z ∧ z ≤ 9223372036854775807) : IntKind.i64.wrap z = z := IntWalk.i64_in z (by omega)

theorem soon_val (m : Mem) (day : Int) (h : 0 ≤ m.un ∧ m.un ≤ 4194304 ∧ 0 ≤ day ∧ day ≤ 8388610) : soonS m day = if m.ph ≠ 1 ∨ m.un < day then 0 else m.un - day + 1 := by
  unfold soonS
  split
  · rfl
  · rw [i64c (m.un - day) (by omega), i64c _ (by omega)]; omega

theorem open_at (m : Mem) (day r : Int) (w : World) (h : (if soonS m day = 0 then (18 : Int) else 0) = r) : CallsX Try.prog 20 #[m.v, .int .i64 day] w fun v w' => v = .int .i64 r ∧ Below w.heap.size w w' := h ▸ open_any m day w

set_option maxRecDepth 100000 in
theorem phaseSoon_any (m : Mem) (day : Int) (w : World) :
    CallsX Try.prog 4 #[m.v, .int .i64 day] w fun v w' => v = .bool true ∧ Below w.heap.size w w' := by
  refine start [] Try.func4 rfl (by decide +kernel) rfl [.agg [.int .i64 m.id, .int .i64 m.cap, .int .i64 m.ph, .int .i64 m.un], .int .i64 day] rfl ⟨⟨trivial, trivial, trivial, trivial, trivial⟩, trivial, trivial⟩ ?_
  intro b0 hb0
  repeat' (apply And.intro <;> intro h)
  case left.left.left.right =>
    simp only [decide_eq_false_iff_not] at *
    rename_i h1 h2 h3
    intro W1 hs1
    refine onCall hs1 (Below.refl _ w) (Nat.le_refl _) ⟨hb0, trivial⟩ (soon_any m day W1) fun W2 k2 => ?_
    clear hs1
    rw [soon_val m day (by omega)]
    by_cases hn : m.ph ≠ 1 ∨ m.un < day
    · rw [if_pos hn]
      apply And.intro <;> intro h
      · intro W3 hs3
        refine onCall hs3 k2 (Nat.le_refl _) ⟨hb0, trivial⟩ (open_at m _ 18 W3 (by rw [soon_val _ _ (by omega), if_pos hn]; rfl)) fun W4 k4 => ?_
        clear hs3 k2
        apply And.intro <;> intro h
        · intro W5 hs5
          refine onCall hs5 k4 (Nat.le_refl _) ⟨hb0, trivial⟩ (lives_any W5) fun W6 k6 => ?_
          intro w' hs
          exact ⟨rfl, hs.on k6 (Nat.le_refl _) ⟨hb0, trivial⟩⟩
        · exact absurd h (by decide)
      · exact absurd h (by decide)
    · rw [if_neg hn]
      apply And.intro <;> intro h
      · exact absurd h (by simp; omega)
      apply And.intro <;> intro h
      rotate_left
      · exact absurd h (by simp; omega)
      intro W3 hs3
      refine onCall hs3 k2 (Nat.le_refl _) ⟨hb0, trivial⟩ (open_at m _ 0 W3 (by rw [soon_val _ _ (by omega), if_neg hn]; omega)) fun W4 k4 => ?_
      clear hs3 k2
      apply And.intro <;> intro h
      rotate_left
      · exact absurd h (by decide)
      intro W5 hs5
      refine onCall hs5 k4 (Nat.le_refl _) ⟨hb0, trivial⟩ (open_at m _ 0 W5 ?_) fun W6 k6 => ?_
      · rw [i64c (day + (m.un - day + 1)) (by omega), i64c _ (by omega), soon_val _ _ (by omega), if_neg (by omega)]
      clear hs5 k4
      apply And.intro <;> intro h
      rotate_left
      · exact absurd h (by decide)
      intro W7 hs7
      refine onCall hs7 k6 (Nat.le_refl _) ⟨hb0, trivial⟩ (open_at m _ 18 W7 ?_) fun W8 k8 => ?_
      · rw [i64c (day + (m.un - day + 1)) (by omega), soon_val _ _ (by omega), if_pos (by omega)]
      clear hs7 k6
      apply And.intro <;> intro h
      rotate_left
      · exact absurd h (by decide)
      apply And.intro <;> intro h
      rotate_left
      · exact absurd h (by simp; omega)
      intro W9 hs9
      refine onCall hs9 k8 (Nat.le_refl _) ⟨hb0, trivial⟩ (lives_any W9) fun W10 k10 => ?_
      intro w' hs
      exact ⟨rfl, hs.on k10 (Nat.le_refl _) ⟨hb0, trivial⟩⟩
  all_goals
    intro W1 hs1
    refine onCall hs1 (Below.refl _ w) (Nat.le_refl _) ⟨hb0, trivial⟩ (lives_any W1) fun W2 k2 => ?_
    intro w' hs
    exact ⟨rfl, hs.on k2 (Nat.le_refl _) ⟨hb0, trivial⟩⟩
end Go.Proofs.Ytnldhkhnfodplaa
