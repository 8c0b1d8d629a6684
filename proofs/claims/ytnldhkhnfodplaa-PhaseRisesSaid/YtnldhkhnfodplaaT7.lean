import Derived.Test.YtnldhkhnfodplaaT5
namespace Go.Proofs.Ytnldhkhnfodplaa
open Go Go.Vc Go.RowKit

theorem wrS (i : Nat) (h : i < 30) : XV.int .i64 (IntKind.i64.wrap ((i : Int) + 1)) = .int .i64 ((i + 1 : Nat) : Int) := by
  rw [i64c _ (by omega)]; rfl

def Nxt (m n : Mem) : Prop := n.id = m.id ∧ n.cap = m.cap ∧ n.ph = IntKind.i64.wrap (m.ph + 1) ∧ m.ph ≤ n.ph
theorem step_nxt {m : Mem} {d f : Int} (h : (stepS m d f).2 = 0) : Nxt m (stepS m d f).1 := by
  unfold stepS at h ⊢
  split at h
  · simp at h
  · split at h
    · simp at h
    · rename_i h1 h2
      rw [if_neg h1, if_neg h2]
      simp only [not_or, Bool.not_eq_false] at h1
      have := ph_range h1.1
      exact ⟨rfl, rfl, (i64c (m.ph + 1) (by omega)).symm, show m.ph ≤ m.ph + 1 by omega⟩
theorem fail_nxt {m : Mem} {d f : Int} (h : (failS m d f).2 = 0) : Nxt m (failS m d f).1 := by
  unfold failS at h ⊢
  split at h
  · simp at h
  · split at h
    · rename_i h1 h2
      rw [if_neg h1, if_pos h2]
      exact step_nxt h2
    · contradiction
theorem sell_nxt {m : Mem} {d : Int} (h : (sellS m d).2 = 0) : Nxt m (sellS m d).1 := by
  unfold sellS at h ⊢
  split at h
  · contradiction
  · split at h
    · simp at h
    · rename_i h1 h2
      rw [if_neg h1, if_neg h2]
      exact step_nxt (by simpa using h1)

structure RS where
  was : Mem
  i : Nat
  day : Int

def annR (w : World) (n : Nat) (m : Mem) : Anns := [(3, [2, 6, 8, 9, 10, 12, 13, 14, 15, 16, 17, 18, 19, 20, 21, 22, 23, 24, 25, 26, 27, 28, 29, 30, 31, 32, 33, 34, 35, 36, 37, 38, 39, 40, 41, 42, 43, 44, 45, 46, 47, 48, 49, 50, 51, 52, 53, 54, 55, 56, 57, 58, 59, 60, 61, 62, 63, 64, 65, 66, 67, 68, 69, 70, 71, 72, 73, 74, 75, 76, 77, 78, 79, 80, 81, 82, 83, 84, 85, 86, 87, 88, 89, 90, 91, 92, 93, 94, 95, 96, 97],
  { X := RS, slots := [2, 8], vals := fun x => [.int .i64 x.day, .int .i64 x.i],
    boxes := [1], cells := fun x => [[.int .i64 x.was.id, .int .i64 x.was.cap, .int .i64 x.was.ph, .int .i64 x.was.un]],
    inv := fun x w' => Below w.heap.size w w' ∧ m.ph ≤ x.was.ph ∧ x.i ≤ 30, μ := fun x => 30 - x.i })]

set_option maxRecDepth 100000 in
theorem phaseRises_any (m : Mem) (a : Option Addr) (n c : Nat) (zs : List Int) (day : Int) (w : World) (hrow : RowI .i64 w a n zs) :
    CallsX Try.prog 3 #[m.v, .slice a n c, .int .i64 day] w fun v w' => v = .bool true ∧ Below w.heap.size w w' := by
  refine start (annR w n m) Try.func3 rfl (by decide +kernel) (by kernel_rfl) [.agg [.int .i64 m.id, .int .i64 m.cap, .int .i64 m.ph, .int .i64 m.un], .slc a n c, .int .i64 day] rfl ⟨⟨trivial, trivial, trivial, trivial, trivial⟩, trivial, trivial, trivial⟩ ?_
  intro b0 hb0 b1 hb1
  refine ⟨?_, ?_, ?_⟩
  · intro x
    exact ⟨⟨trivial, trivial, trivial⟩, ⟨trivial, trivial, trivial, trivial, trivial⟩, trivial⟩
  · intro w' hs
    exact ⟨⟨m, 0, day⟩, rfl, rfl, rfl, rfl, hs.on (Below.refl _ w) (Nat.le_refl _) ⟨hb0, hb1, trivial⟩, Int.le_refl _, Nat.zero_le _⟩
  · rintro ⟨was, i, day'⟩ w0 ⟨k0, hph, hi⟩
    dsimp only at hph hi
    apply And.intro <;> intro h
    rotate_left
    · apply And.intro <;> intro h9
      rotate_left
      · exact absurd h9 (by simp; omega)
      intro W1 hs1
      refine onCall hs1 k0 (Nat.le_refl _) ⟨hb0, hb1, trivial⟩ (lives_any W1) fun W2 k2 => ?_
      intro w' hs
      exact ⟨rfl, hs.on k2 (Nat.le_refl _) ⟨hb0, hb1, trivial⟩⟩
    apply And.intro <;> intro h1
    rotate_left
    · apply And.intro <;> intro h9
      rotate_left
      · exact absurd h9 (by simp; omega)
      intro W1 hs1
      refine onCall hs1 k0 (Nat.le_refl _) ⟨hb0, hb1, trivial⟩ (lives_any W1) fun W2 k2 => ?_
      intro w' hs
      exact ⟨rfl, hs.on k2 (Nat.le_refl _) ⟨hb0, hb1, trivial⟩⟩
    simp only [decide_eq_true_eq] at h h1
    intro b2 hb2
    replace hb2 := Nat.le_trans k0.size hb2
    obtain ⟨x, s, hax, hx, hxb⟩ : ∃ x s, a = some x ∧ w.cell? (x.add i) = some (.int .i64 s) ∧ x.block < w.heap.size := by
      obtain ⟨x, h1, h2, h3⟩ := hrow i (by omega)
      exact ⟨x, _, h1, h2, h3⟩
    have hxa := fun j => addLt x j _ hxb
    have cellOf : ∀ w', Below w.heap.size w w' → w'.cell? (x.add ((i : Int).toNat * 1)) = some (.int .i64 s) := fun w' k => by
      rw [k.cell (hxa _)]; simpa using hx
    have hin : (i : Int) < (n : Int) := h
    refine ⟨x, hax, Int.natCast_nonneg _, hin, _, cellOf _ k0, notBox_of_ge ⟨hb0, hb1, hb2, trivial⟩ (hxa _), ?_⟩
    apply And.intro <;> intro h2
    · obtain rfl : s = 0 := by simpa using h2
      intro W1 hs1
      refine onCall hs1 k0 (Nat.le_refl _) ⟨hb0, hb1, hb2, trivial⟩ (fail_any was _ 1 W1) fun W2 k2 => ?_
      clear hs1
      apply And.intro <;> intro h3
      · intro w' hs
        exact ⟨⟨was, i + 1, day'⟩, rfl, wrS i (by omega), rfl, rfl, ⟨hs.on k2 (Nat.le_refl _) ⟨hb0, hb1, hb2, trivial⟩, hph, by simp; omega⟩, by simp; omega⟩
      have hN := fail_nxt (show (failS was day' 1).2 = 0 by simpa using h3)
      obtain ⟨n1, n2, n3, n4⟩ := hN
      refine ⟨x, hax, Int.natCast_nonneg _, hin, _, cellOf _ k2, notBox_of_ge ⟨hb0, hb1, hb2, trivial⟩ (hxa _), ?_⟩
      apply And.intro <;> intro h4
      rotate_left
      · exact absurd h4 (by simp)
      refine ⟨x, hax, Int.natCast_nonneg _, hin, _, cellOf _ k2, notBox_of_ge ⟨hb0, hb1, hb2, trivial⟩ (hxa _), ?_⟩
      apply And.intro <;> intro h5
      rotate_left
      · exact absurd h5 (by simp)
      apply And.intro <;> intro h6
      rotate_left
      · exact absurd h6 (by simp [n3])
      apply And.intro <;> intro h7
      rotate_left
      · exact absurd h7 (by simp [n1])
      apply And.intro <;> intro h8
      · exact absurd h8 (by simp [n2])
      intro w' hs
      exact ⟨⟨(failS was day' 1).1, i + 1, day'⟩, rfl, wrS i (by omega), rfl, rfl, ⟨hs.on k2 (Nat.le_refl _) ⟨hb0, hb1, hb2, trivial⟩, Int.le_trans hph n4, by simp; omega⟩, by simp; omega⟩
    apply And.intro <;> intro h2b
    · obtain rfl : s = 1 := by simpa using h2b
      intro W1 hs1
      refine onCall hs1 k0 (Nat.le_refl _) ⟨hb0, hb1, hb2, trivial⟩ (sell_any was _ W1) fun W2 k2 => ?_
      clear hs1
      apply And.intro <;> intro h3
      · intro w' hs
        exact ⟨⟨was, i + 1, day'⟩, rfl, wrS i (by omega), rfl, rfl, ⟨hs.on k2 (Nat.le_refl _) ⟨hb0, hb1, hb2, trivial⟩, hph, by simp; omega⟩, by simp; omega⟩
      have hN := sell_nxt (show (sellS was day').2 = 0 by simpa using h3)
      obtain ⟨n1, n2, n3, n4⟩ := hN
      refine ⟨x, hax, Int.natCast_nonneg _, hin, _, cellOf _ k2, notBox_of_ge ⟨hb0, hb1, hb2, trivial⟩ (hxa _), ?_⟩
      apply And.intro <;> intro h4
      rotate_left
      · exact absurd h4 (by simp)
      refine ⟨x, hax, Int.natCast_nonneg _, hin, _, cellOf _ k2, notBox_of_ge ⟨hb0, hb1, hb2, trivial⟩ (hxa _), ?_⟩
      apply And.intro <;> intro h5
      rotate_left
      · exact absurd h5 (by simp)
      apply And.intro <;> intro h6
      rotate_left
      · exact absurd h6 (by simp [n3])
      apply And.intro <;> intro h7
      rotate_left
      · exact absurd h7 (by simp [n1])
      apply And.intro <;> intro h8
      · exact absurd h8 (by simp [n2])
      intro w' hs
      exact ⟨⟨(sellS was day').1, i + 1, day'⟩, rfl, wrS i (by omega), rfl, rfl, ⟨hs.on k2 (Nat.le_refl _) ⟨hb0, hb1, hb2, trivial⟩, Int.le_trans hph n4, by simp; omega⟩, by simp; omega⟩
    apply And.intro <;> intro h2c
    · obtain rfl : s = 2 := by simpa using h2c
      intro W1 hs1
      refine onCall hs1 k0 (Nat.le_refl _) ⟨hb0, hb1, hb2, trivial⟩ (close_any was _ W1) fun W2 k2 => ?_
      clear hs1
      apply And.intro <;> intro h3
      · intro w' hs
        exact ⟨⟨was, i + 1, day'⟩, rfl, wrS i (by omega), rfl, rfl, ⟨hs.on k2 (Nat.le_refl _) ⟨hb0, hb1, hb2, trivial⟩, hph, by simp; omega⟩, by simp; omega⟩
      have hN := step_nxt (show (stepS was day' 2).2 = 0 by simpa using h3)
      obtain ⟨n1, n2, n3, n4⟩ := hN
      refine ⟨x, hax, Int.natCast_nonneg _, hin, _, cellOf _ k2, notBox_of_ge ⟨hb0, hb1, hb2, trivial⟩ (hxa _), ?_⟩
      apply And.intro <;> intro h4
      rotate_left
      · exact absurd h4 (by simp)
      refine ⟨x, hax, Int.natCast_nonneg _, hin, _, cellOf _ k2, notBox_of_ge ⟨hb0, hb1, hb2, trivial⟩ (hxa _), ?_⟩
      apply And.intro <;> intro h5
      rotate_left
      · exact absurd h5 (by simp)
      apply And.intro <;> intro h6
      rotate_left
      · exact absurd h6 (by simp [n3])
      apply And.intro <;> intro h7
      rotate_left
      · exact absurd h7 (by simp [n1])
      apply And.intro <;> intro h8
      · exact absurd h8 (by simp [n2])
      intro w' hs
      exact ⟨⟨(stepS was day' 2).1, i + 1, day'⟩, rfl, wrS i (by omega), rfl, rfl, ⟨hs.on k2 (Nat.le_refl _) ⟨hb0, hb1, hb2, trivial⟩, Int.le_trans hph n4, by simp; omega⟩, by simp; omega⟩
    refine ⟨x, hax, Int.natCast_nonneg _, hin, _, cellOf _ k0, notBox_of_ge ⟨hb0, hb1, hb2, trivial⟩ (hxa _), ?_⟩
    have e0 : s ≠ 0 := by simpa using h2
    have e1 : s ≠ 1 := by simpa using h2b
    have e2 : s ≠ 2 := by simpa using h2c
    refine ⟨by decide, ?_⟩
    apply And.intro <;> intro h3
    · exact absurd h3 (by decide)
    refine ⟨x, hax, Int.natCast_nonneg _, hin, _, cellOf _ k0, notBox_of_ge ⟨hb0, hb1, hb2, trivial⟩ (hxa _), ?_⟩
    apply And.intro <;> intro h4
    · refine ⟨x, hax, Int.natCast_nonneg _, hin, _, cellOf _ k0, notBox_of_ge ⟨hb0, hb1, hb2, trivial⟩ (hxa _), ?_⟩
      apply And.intro <;> intro h5
      · exact absurd h5 (by simp at h4 ⊢; omega)
      apply And.intro <;> intro h7
      rotate_left
      · exact absurd h7 (by simp)
      apply And.intro <;> intro h8
      · exact absurd h8 (by simp)
      intro w' hs
      exact ⟨⟨was, i + 1, _⟩, rfl, wrS i (by omega), rfl, rfl, ⟨hs.on k0 (Nat.le_refl _) ⟨hb0, hb1, hb2, trivial⟩, hph, by simp; omega⟩, by simp; omega⟩
    · apply And.intro <;> intro h7
      rotate_left
      · exact absurd h7 (by simp)
      apply And.intro <;> intro h8
      · exact absurd h8 (by simp)
      intro w' hs
      exact ⟨⟨was, i + 1, _⟩, rfl, wrS i (by omega), rfl, rfl, ⟨hs.on k0 (Nat.le_refl _) ⟨hb0, hb1, hb2, trivial⟩, hph, by simp; omega⟩, by simp; omega⟩
end Go.Proofs.Ytnldhkhnfodplaa
