import Derived.Test.YtllkmncnmlmefaaGreatB8
import Derived.Test.YtllkmncnmlmefaaGreatProg
import Derived.Lib.SliceRun
import Derived.Lib.SlicesDelete
import Derived.Lib.Overlaps
import Derived.Lib.AppendZerosOnto
import Derived.Laws.Externs
import Derived.Laws.IdiomCopy
import Derived.Laws.NewBlocks
import Derived.Deep.RegionLaw
import Derived.Shelf.RegionOpenPlain
import Derived.WalkKit
import Derived.Shelf.SlSortCmp.WholeK
import Derived.Shelf.SlSortCmp.NoneTotal
import Derived.Shelf.Spec.SlicesGrow
import Derived.Handy
import Derived.StillTailTactics
import Derived.Test.YtllkmncnmlmefaaGreatRows
import Derived.JoinedOf
namespace Go.Proofs.YtllkmncnmlmefaaGreat
open Go Go.Vc Go.RowKit
/-! ### units as a set's keys -/
theorem chkU (e : Bool) (a b : Int) (w : World) : (Instr.checkKey e 10000 47 (uV a b)).run Tryz.prog w = .ok () w := by cases e <;> kernel_rfl
theorem leaves85 : leavesOf Tryz.prog 9 47 = some [.int .i64, .int .i64] := by kernel_rfl
theorem uV_inj {a b c d : Int} (h : uV a b = uV c d) : a = c ∧ b = d := by
  simpa only [uV, Value.agg.injEq, Array.mk.injEq, List.cons.injEq, Value.int.injEq, true_and, and_true] using h
set_option maxRecDepth 100000 in
theorem eqU2 (a b c d : Int) (w : World) : (Op.equal 47 (uV a b) (uV c d)).run Tryz.prog w = .ok (a == c && (b == d && true)) w := by
  have h := eq_leaves 9 47 _ leaves85 Op.maxDepth (by decide) [.int .i64 a, .int .i64 b] [.int .i64 c, .int .i64 d] (a == c && (b == d && true)) rfl w
  have e1 : ∀ a b : Int, wrapV Tryz.prog 47 [.int .i64 a, .int .i64 b] = uV a b := fun a b => by kernel_rfl
  rw [e1, e1] at h
  exact h
theorem eqU_t (a b : Int) (w : World) : (Op.equal 47 (uV a b) (uV a b)).run Tryz.prog w = .ok true w := by rw [eqU2]; simp
theorem eqU_f {a b c d : Int} (h : ¬ (a = c ∧ b = d)) (w : World) : (Op.equal 47 (uV a b) (uV c d)).run Tryz.prog w = .ok false w := by
  rw [eqU2]
  have : (a == c && (b == d && true)) = false := by
    cases hh : (a == c && (b == d && true)) with
    | false => rfl
    | true => simp at hh; exact absurd hh h
  rw [this]
theorem askU (a b : Int) (w : World) : ∀ (es : List MapEntry), (∀ e ∈ es, isU e.key) → ∀ i,
    ((Instr.findAsking 47 (uV a b) es i).run Tryz.prog w = .ok none w ∧ ∀ e ∈ es, e.key ≠ uV a b) ∨ ∃ j e, (Instr.findAsking 47 (uV a b) es i).run Tryz.prog w = .ok (some (i + j, e.val)) w ∧ es[j]? = some e ∧ e.key = uV a b
  | [], _, i => .inl ⟨rfl, by simp⟩
  | e :: es, h, i => by
    obtain ⟨c, d, hy⟩ := h e (by simp)
    by_cases hxy : a = c ∧ b = d
    · obtain ⟨rfl, rfl⟩ := hxy
      refine .inr ⟨0, e, ?_, rfl, hy⟩
      simp only [Instr.findAsking, Sem.run_bind, hy, eqU_t, Result.andThen_ok, if_true, Sem.run_pure, Nat.add_zero]
    · have e1 : (Instr.findAsking 47 (uV a b) (e :: es) i).run Tryz.prog w = (Instr.findAsking 47 (uV a b) es (i + 1)).run Tryz.prog w := by
        simp only [Instr.findAsking, Sem.run_bind, hy, eqU_f hxy, Result.andThen_ok, Bool.false_eq_true, if_false]
      rcases askU a b w es (fun e he => h e (by simp [he])) (i + 1) with ⟨h1, h2⟩ | ⟨j, e', h1, h2, h3⟩
      · refine .inl ⟨e1.trans h1, fun e' he' => ?_⟩
        rcases List.mem_cons.1 he' with rfl | he'
        · rw [hy]; exact fun hh => hxy (let ⟨g1, g2⟩ := uV_inj hh; ⟨g1.symm, g2.symm⟩)
        · exact h2 e' he'
      · exact .inr ⟨j + 1, e', by rw [e1, h1, show i + 1 + j = i + (j + 1) by omega], by simpa using h2, h3⟩
theorem keyU : KeyOk Tryz.prog 47 where
  check := by rintro e w v ⟨a, b, rfl⟩; exact chkU e a b w
  find := by
    rintro w v ⟨a, b, rfl⟩ es hes
    have e1 : (Instr.findKey 47 (uV a b) es).run Tryz.prog w = (Instr.findAsking 47 (uV a b) es).run Tryz.prog w := by
      cases es with
      | nil => kernel_rfl
      | cons e es =>
        obtain ⟨c, d, hy⟩ := hes e (by simp)
        obtain ⟨k, v, b⟩ := e
        simp only at hy
        subst hy
        kernel_rfl
    rw [e1]
    rcases askU a b w es hes 0 with h | ⟨j, e, h1, h2, h3⟩
    · exact .inl h
    · exact .inr ⟨j, e, by rw [h1, Nat.zero_add], h2, h3⟩
  stays := by
    rintro w v ⟨a, b, rfl⟩
    simp [Instr.keyThatStays, Instr.sameBits, uV]
end Go.Proofs.YtllkmncnmlmefaaGreat
namespace Go.Proofs.YtllkmncnmlmefaaGreat
open Go Go.Vc
def tab : List TI := [
  ⟨false, .other, 0, 0, false, [], none⟩,
  ⟨false, .other, 0, 0, false, [], none⟩,
  ⟨true, .int .i64, 1, 8, false, [.int .i64 0], some [.int .i64]⟩,
  ⟨true, .int .i64, 1, 8, false, [.int .i64 0], some [.int .i64]⟩,
  ⟨true, .bool, 1, 1, false, [.bool false], some [.bool]⟩,
  ⟨true, .int .u8, 1, 1, false, [.int .u8 0], some [.int .u8]⟩,
  ⟨false, .other, 0, 0, false, [], none⟩,
  ⟨false, .other, 0, 0, false, [], none⟩,
  ⟨false, .other, 0, 0, false, [], none⟩,
  ⟨true, .string, 1, 16, false, [.string .empty], some [.str]⟩,
  ⟨false, .other, 0, 0, false, [], none⟩,
  ⟨false, .other, 0, 0, false, [], none⟩,
  ⟨true, .int .u64, 1, 8, false, [.int .u64 0], some [.int .u64]⟩,
  ⟨false, .other, 0, 0, false, [], none⟩,
  ⟨false, .other, 0, 0, false, [], none⟩,
  ⟨false, .other, 0, 0, false, [], none⟩,
  ⟨false, .other, 0, 0, false, [], none⟩,
  ⟨false, .other, 0, 0, false, [], none⟩,
  ⟨false, .other, 0, 0, false, [], none⟩,
  ⟨false, .other, 0, 0, false, [], none⟩,
  ⟨false, .other, 0, 0, false, [], none⟩,
  ⟨true, .int .i32, 1, 4, false, [.int .i32 0], some [.int .i32]⟩,
  ⟨true, .slice 118, 1, 24, false, [.slice none 0 0], none⟩,
  ⟨true, .slice 124, 1, 24, false, [.slice none 0 0], none⟩,
  ⟨true, .slice 120, 1, 24, false, [.slice none 0 0], none⟩,
  ⟨true, .slice 60, 1, 24, false, [.slice none 0 0], none⟩,
  ⟨true, .slice 140, 1, 24, false, [.slice none 0 0], none⟩,
  ⟨true, .slice 126, 1, 24, false, [.slice none 0 0], none⟩,
  ⟨true, .slice 128, 1, 24, false, [.slice none 0 0], none⟩,
  ⟨true, .slice 50, 1, 24, false, [.slice none 0 0], none⟩,
  ⟨true, .slice 143, 1, 24, false, [.slice none 0 0], none⟩,
  ⟨true, .slice 55, 1, 24, false, [.slice none 0 0], none⟩,
  ⟨true, .struct [(0, 3, 1), (1, 22, 1), (2, 23, 1), (3, 24, 1), (4, 25, 1), (5, 26, 1), (6, 27, 1), (7, 28, 1), (8, 29, 1), (9, 29, 1), (10, 30, 1), (11, 31, 1)], 12, 272, true, [.int .i64 0, .slice none 0 0, .slice none 0 0, .slice none 0 0, .slice none 0 0, .slice none 0 0, .slice none 0 0, .slice none 0 0, .slice none 0 0, .slice none 0 0, .slice none 0 0, .slice none 0 0], none⟩,
  ⟨true, .struct [(0, 3, 1), (1, 22, 1), (2, 23, 1), (3, 24, 1), (4, 25, 1), (5, 26, 1), (6, 27, 1), (7, 28, 1), (8, 29, 1), (9, 29, 1), (10, 30, 1), (11, 31, 1)], 12, 272, true, [.int .i64 0, .slice none 0 0, .slice none 0 0, .slice none 0 0, .slice none 0 0, .slice none 0 0, .slice none 0 0, .slice none 0 0, .slice none 0 0, .slice none 0 0, .slice none 0 0, .slice none 0 0], none⟩,
  ⟨false, .other, 0, 0, false, [], none⟩,
  ⟨false, .other, 0, 0, false, [], none⟩,
  ⟨true, .slice 5, 1, 24, false, [.slice none 0 0], none⟩,
  ⟨false, .other, 0, 0, false, [], none⟩,
  ⟨false, .other, 0, 0, false, [], none⟩,
  ⟨false, .other, 0, 0, false, [], none⟩,
  ⟨false, .other, 0, 0, false, [], none⟩,
  ⟨true, .int .i64, 1, 8, false, [.int .i64 0], some [.int .i64]⟩,
  ⟨false, .other, 0, 0, false, [], none⟩,
  ⟨false, .other, 0, 0, false, [], none⟩,
  ⟨false, .other, 0, 0, false, [], none⟩,
  ⟨false, .other, 0, 0, false, [], none⟩,
  ⟨true, .struct [(0, 3, 1), (1, 3, 1)], 2, 16, true, [.int .i64 0, .int .i64 0], some [.int .i64, .int .i64]⟩,
  ⟨true, .struct [(0, 3, 1), (1, 3, 1)], 2, 16, true, [.int .i64 0, .int .i64 0], some [.int .i64, .int .i64]⟩,
  ⟨true, .slice 52, 1, 24, false, [.slice none 0 0], none⟩,
  ⟨true, .struct [(0, 47, 2), (2, 48, 1)], 3, 40, true, [.int .i64 0, .int .i64 0, .slice none 0 0], none⟩,
  ⟨true, .struct [(0, 47, 2), (2, 48, 1)], 3, 40, true, [.int .i64 0, .int .i64 0, .slice none 0 0], none⟩,
  ⟨true, .struct [(0, 3, 1), (1, 2, 1)], 2, 16, true, [.int .i64 0, .int .i64 0], some [.int .i64, .int .i64]⟩,
  ⟨true, .struct [(0, 3, 1), (1, 2, 1)], 2, 16, true, [.int .i64 0, .int .i64 0], some [.int .i64, .int .i64]⟩,
  ⟨true, .slice 57, 1, 24, false, [.slice none 0 0], none⟩,
  ⟨true, .struct [(0, 47, 2), (2, 53, 1)], 3, 40, true, [.int .i64 0, .int .i64 0, .slice none 0 0], none⟩,
  ⟨true, .struct [(0, 47, 2), (2, 53, 1)], 3, 40, true, [.int .i64 0, .int .i64 0, .slice none 0 0], none⟩,
  ⟨true, .struct [(0, 3, 1), (1, 3, 1), (2, 2, 1)], 3, 24, true, [.int .i64 0, .int .i64 0, .int .i64 0], some [.int .i64, .int .i64, .int .i64]⟩,
  ⟨true, .struct [(0, 3, 1), (1, 3, 1), (2, 2, 1)], 3, 24, true, [.int .i64 0, .int .i64 0, .int .i64 0], some [.int .i64, .int .i64, .int .i64]⟩,
  ⟨true, .slice 3, 1, 24, false, [.slice none 0 0], none⟩,
  ⟨true, .struct [(0, 3, 1), (1, 3, 1), (2, 3, 1), (3, 58, 1)], 4, 48, true, [.int .i64 0, .int .i64 0, .int .i64 0, .slice none 0 0], none⟩,
  ⟨true, .struct [(0, 3, 1), (1, 3, 1), (2, 3, 1), (3, 58, 1)], 4, 48, true, [.int .i64 0, .int .i64 0, .int .i64 0, .slice none 0 0], none⟩,
  ⟨false, .other, 0, 0, false, [], none⟩,
  ⟨false, .other, 0, 0, false, [], none⟩,
  ⟨false, .other, 0, 0, false, [], none⟩,
  ⟨false, .other, 0, 0, false, [], none⟩,
  ⟨false, .other, 0, 0, false, [], none⟩,
  ⟨false, .other, 0, 0, false, [], none⟩,
  ⟨false, .other, 0, 0, false, [], none⟩,
  ⟨false, .other, 0, 0, false, [], none⟩,
  ⟨false, .other, 0, 0, false, [], none⟩,
  ⟨false, .other, 0, 0, false, [], none⟩,
  ⟨true, .struct [(0, 4, 1), (1, 36, 1)], 2, 32, true, [.bool false, .slice none 0 0], none⟩,
  ⟨true, .struct [(0, 4, 1), (1, 36, 1)], 2, 32, true, [.bool false, .slice none 0 0], none⟩,
  ⟨false, .other, 0, 0, false, [], none⟩,
  ⟨false, .other, 0, 0, false, [], none⟩,
  ⟨false, .other, 0, 0, false, [], none⟩,
  ⟨false, .other, 0, 0, false, [], none⟩,
  ⟨false, .other, 0, 0, false, [], none⟩,
  ⟨false, .other, 0, 0, false, [], none⟩,
  ⟨false, .other, 0, 0, false, [], none⟩,
  ⟨false, .other, 0, 0, false, [], none⟩,
  ⟨false, .other, 0, 0, false, [], none⟩,
  ⟨false, .other, 0, 0, false, [], none⟩,
  ⟨false, .other, 0, 0, false, [], none⟩,
  ⟨false, .other, 0, 0, false, [], none⟩,
  ⟨false, .other, 0, 0, false, [], none⟩,
  ⟨false, .other, 0, 0, false, [], none⟩,
  ⟨false, .other, 0, 0, false, [], none⟩,
  ⟨false, .other, 0, 0, false, [], none⟩,
  ⟨false, .other, 0, 0, false, [], none⟩,
  ⟨false, .other, 0, 0, false, [], none⟩,
  ⟨false, .other, 0, 0, false, [], none⟩,
  ⟨false, .other, 0, 0, false, [], none⟩,
  ⟨false, .other, 0, 0, false, [], none⟩,
  ⟨false, .other, 0, 0, false, [], none⟩,
  ⟨true, .slice 107, 1, 24, false, [.slice none 0 0], none⟩,
  ⟨false, .other, 0, 0, false, [], none⟩,
  ⟨false, .other, 0, 0, false, [], none⟩,
  ⟨false, .other, 0, 0, false, [], none⟩,
  ⟨false, .other, 0, 0, false, [], none⟩,
  ⟨false, .other, 0, 0, false, [], none⟩,
  ⟨false, .other, 0, 0, false, [], none⟩,
  ⟨false, .other, 0, 0, false, [], none⟩,
  ⟨false, .other, 0, 0, false, [], none⟩,
  ⟨false, .other, 0, 0, false, [], none⟩,
  ⟨false, .other, 0, 0, false, [], none⟩,
  ⟨true, .struct [(0, 47, 2), (2, 47, 2), (4, 2, 1)], 5, 40, true, [.int .i64 0, .int .i64 0, .int .i64 0, .int .i64 0, .int .i64 0], some [.int .i64, .int .i64, .int .i64, .int .i64, .int .i64]⟩,
  ⟨true, .struct [(0, 47, 2), (2, 47, 2), (4, 2, 1)], 5, 40, true, [.int .i64 0, .int .i64 0, .int .i64 0, .int .i64 0, .int .i64 0], some [.int .i64, .int .i64, .int .i64, .int .i64, .int .i64]⟩,
  ⟨true, .slice 47, 1, 24, false, [.slice none 0 0], none⟩,
  ⟨false, .other, 0, 0, false, [], none⟩,
  ⟨false, .other, 0, 0, false, [], none⟩,
  ⟨false, .other, 0, 0, false, [], none⟩,
  ⟨false, .other, 0, 0, false, [], none⟩,
  ⟨false, .other, 0, 0, false, [], none⟩,
  ⟨false, .other, 0, 0, false, [], none⟩,
  ⟨false, .other, 0, 0, false, [], none⟩,
  ⟨false, .other, 0, 0, false, [], none⟩,
  ⟨true, .struct [(0, 3, 1), (1, 2, 1), (2, 3, 1), (3, 3, 1)], 4, 32, true, [.int .i64 0, .int .i64 0, .int .i64 0, .int .i64 0], some [.int .i64, .int .i64, .int .i64, .int .i64]⟩,
  ⟨true, .struct [(0, 3, 1), (1, 2, 1), (2, 3, 1), (3, 3, 1)], 4, 32, true, [.int .i64 0, .int .i64 0, .int .i64 0, .int .i64 0], some [.int .i64, .int .i64, .int .i64, .int .i64]⟩,
  ⟨true, .struct [(0, 3, 1), (1, 2, 1), (2, 2, 1)], 3, 24, true, [.int .i64 0, .int .i64 0, .int .i64 0], some [.int .i64, .int .i64, .int .i64]⟩,
  ⟨true, .struct [(0, 3, 1), (1, 2, 1), (2, 2, 1)], 3, 24, true, [.int .i64 0, .int .i64 0, .int .i64 0], some [.int .i64, .int .i64, .int .i64]⟩,
  ⟨false, .other, 0, 0, false, [], none⟩,
  ⟨true, .slice 2, 1, 24, false, [.slice none 0 0], none⟩,
  ⟨true, .struct [(0, 3, 1), (1, 2, 1), (2, 2, 1), (3, 2, 1), (4, 122, 1)], 5, 56, true, [.int .i64 0, .int .i64 0, .int .i64 0, .int .i64 0, .slice none 0 0], none⟩,
  ⟨true, .struct [(0, 3, 1), (1, 2, 1), (2, 2, 1), (3, 2, 1), (4, 122, 1)], 5, 56, true, [.int .i64 0, .int .i64 0, .int .i64 0, .int .i64 0, .slice none 0 0], none⟩,
  ⟨true, .struct [(0, 3, 1), (1, 47, 2), (3, 3, 1), (4, 2, 1), (5, 2, 1)], 6, 48, true, [.int .i64 0, .int .i64 0, .int .i64 0, .int .i64 0, .int .i64 0, .int .i64 0], some [.int .i64, .int .i64, .int .i64, .int .i64, .int .i64, .int .i64]⟩,
  ⟨true, .struct [(0, 3, 1), (1, 47, 2), (3, 3, 1), (4, 2, 1), (5, 2, 1)], 6, 48, true, [.int .i64 0, .int .i64 0, .int .i64 0, .int .i64 0, .int .i64 0, .int .i64 0], some [.int .i64, .int .i64, .int .i64, .int .i64, .int .i64, .int .i64]⟩,
  ⟨true, .struct [(0, 3, 1), (1, 47, 2), (3, 47, 2), (5, 52, 2), (7, 2, 1), (8, 3, 1), (9, 3, 1), (10, 3, 1)], 11, 88, true, [.int .i64 0, .int .i64 0, .int .i64 0, .int .i64 0, .int .i64 0, .int .i64 0, .int .i64 0, .int .i64 0, .int .i64 0, .int .i64 0, .int .i64 0], some [.int .i64, .int .i64, .int .i64, .int .i64, .int .i64, .int .i64, .int .i64, .int .i64, .int .i64, .int .i64, .int .i64]⟩,
  ⟨true, .struct [(0, 3, 1), (1, 47, 2), (3, 47, 2), (5, 52, 2), (7, 2, 1), (8, 3, 1), (9, 3, 1), (10, 3, 1)], 11, 88, true, [.int .i64 0, .int .i64 0, .int .i64 0, .int .i64 0, .int .i64 0, .int .i64 0, .int .i64 0, .int .i64 0, .int .i64 0, .int .i64 0, .int .i64 0], some [.int .i64, .int .i64, .int .i64, .int .i64, .int .i64, .int .i64, .int .i64, .int .i64, .int .i64, .int .i64, .int .i64]⟩,
  ⟨true, .ptr 255, 1, 8, false, [.pointer none], none⟩,
  ⟨false, .other, 0, 0, false, [], none⟩,
  ⟨true, .struct [(0, 129, 1)], 1, 8, true, [.pointer none], none⟩,
  ⟨true, .struct [(0, 129, 1)], 1, 8, true, [.pointer none], none⟩,
  ⟨false, .other, 0, 0, false, [], none⟩,
  ⟨false, .other, 0, 0, false, [], none⟩,
  ⟨false, .other, 0, 0, false, [], none⟩,
  ⟨false, .other, 0, 0, false, [], none⟩,
  ⟨false, .other, 0, 0, false, [], none⟩,
  ⟨false, .other, 0, 0, false, [], none⟩,
  ⟨true, .struct [(0, 47, 2), (2, 47, 2), (4, 4, 1)], 5, 40, true, [.int .i64 0, .int .i64 0, .int .i64 0, .int .i64 0, .bool false], some [.int .i64, .int .i64, .int .i64, .int .i64, .bool]⟩,
  ⟨true, .struct [(0, 47, 2), (2, 47, 2), (4, 4, 1)], 5, 40, true, [.int .i64 0, .int .i64 0, .int .i64 0, .int .i64 0, .bool false], some [.int .i64, .int .i64, .int .i64, .int .i64, .bool]⟩,
  ⟨false, .other, 0, 0, false, [], none⟩,
  ⟨true, .struct [(0, 47, 2), (2, 2, 1)], 3, 24, true, [.int .i64 0, .int .i64 0, .int .i64 0], some [.int .i64, .int .i64, .int .i64]⟩,
  ⟨true, .struct [(0, 47, 2), (2, 2, 1)], 3, 24, true, [.int .i64 0, .int .i64 0, .int .i64 0], some [.int .i64, .int .i64, .int .i64]⟩,
  ⟨false, .other, 0, 0, false, [], none⟩,
  ⟨true, .ptr 262, 1, 8, false, [.pointer none], none⟩,
  ⟨false, .other, 0, 0, false, [], none⟩,
  ⟨true, .struct [(0, 145, 1)], 1, 8, true, [.pointer none], none⟩,
  ⟨true, .struct [(0, 145, 1)], 1, 8, true, [.pointer none], none⟩,
  ⟨false, .other, 0, 0, false, [], none⟩,
  ⟨false, .other, 0, 0, false, [], none⟩,
  ⟨true, .ptr 33, 1, 8, false, [.pointer none], none⟩,
  ⟨false, .other, 0, 0, false, [], none⟩,
  ⟨false, .other, 0, 0, false, [], none⟩,
  ⟨false, .other, 0, 0, false, [], none⟩,
  ⟨false, .other, 0, 0, false, [], none⟩,
  ⟨false, .other, 0, 0, false, [], none⟩,
  ⟨false, .other, 0, 0, false, [], none⟩,
  ⟨false, .other, 0, 0, false, [], none⟩,
  ⟨false, .other, 0, 0, false, [], none⟩,
  ⟨false, .other, 0, 0, false, [], none⟩,
  ⟨false, .other, 0, 0, false, [], none⟩,
  ⟨false, .other, 0, 0, false, [], none⟩,
  ⟨false, .other, 0, 0, false, [], none⟩,
  ⟨false, .other, 0, 0, false, [], none⟩,
  ⟨false, .other, 0, 0, false, [], none⟩,
  ⟨false, .other, 0, 0, false, [], none⟩,
  ⟨false, .other, 0, 0, false, [], none⟩,
  ⟨false, .other, 0, 0, false, [], none⟩,
  ⟨false, .other, 0, 0, false, [], none⟩,
  ⟨false, .other, 0, 0, false, [], none⟩,
  ⟨false, .other, 0, 0, false, [], none⟩,
  ⟨false, .other, 0, 0, false, [], none⟩,
  ⟨false, .other, 0, 0, false, [], none⟩,
  ⟨false, .other, 0, 0, false, [], none⟩,
  ⟨false, .other, 0, 0, false, [], none⟩,
  ⟨false, .other, 0, 0, false, [], none⟩,
  ⟨false, .other, 0, 0, false, [], none⟩,
  ⟨false, .other, 0, 0, false, [], none⟩,
  ⟨false, .other, 0, 0, false, [], none⟩,
  ⟨false, .other, 0, 0, false, [], none⟩,
  ⟨false, .other, 0, 0, false, [], none⟩,
  ⟨false, .other, 0, 0, false, [], none⟩,
  ⟨false, .other, 0, 0, false, [], none⟩,
  ⟨false, .other, 0, 0, false, [], none⟩,
  ⟨false, .other, 0, 0, false, [], none⟩,
  ⟨false, .other, 0, 0, false, [], none⟩,
  ⟨false, .other, 0, 0, false, [], none⟩,
  ⟨false, .other, 0, 0, false, [], none⟩,
  ⟨false, .other, 0, 0, false, [], none⟩,
  ⟨false, .other, 0, 0, false, [], none⟩,
  ⟨false, .other, 0, 0, false, [], none⟩,
  ⟨false, .other, 0, 0, false, [], none⟩,
  ⟨false, .other, 0, 0, false, [], none⟩,
  ⟨false, .other, 0, 0, false, [], none⟩,
  ⟨false, .other, 0, 0, false, [], none⟩,
  ⟨false, .other, 0, 0, false, [], none⟩,
  ⟨false, .other, 0, 0, false, [], none⟩,
  ⟨false, .other, 0, 0, false, [], none⟩,
  ⟨false, .other, 0, 0, false, [], none⟩,
  ⟨false, .other, 0, 0, false, [], none⟩,
  ⟨false, .other, 0, 0, false, [], none⟩,
  ⟨false, .other, 0, 0, false, [], none⟩,
  ⟨false, .other, 0, 0, false, [], none⟩,
  ⟨false, .other, 0, 0, false, [], none⟩,
  ⟨false, .other, 0, 0, false, [], none⟩,
  ⟨false, .other, 0, 0, false, [], none⟩,
  ⟨false, .other, 0, 0, false, [], none⟩,
  ⟨false, .other, 0, 0, false, [], none⟩,
  ⟨false, .other, 0, 0, false, [], none⟩,
  ⟨false, .other, 0, 0, false, [], none⟩,
  ⟨false, .other, 0, 0, false, [], none⟩,
  ⟨false, .other, 0, 0, false, [], none⟩,
  ⟨false, .other, 0, 0, false, [], none⟩,
  ⟨false, .other, 0, 0, false, [], none⟩,
  ⟨false, .other, 0, 0, false, [], none⟩,
  ⟨false, .other, 0, 0, false, [], none⟩,
  ⟨false, .other, 0, 0, false, [], none⟩,
  ⟨false, .other, 0, 0, false, [], none⟩,
  ⟨false, .other, 0, 0, false, [], none⟩,
  ⟨false, .other, 0, 0, false, [], none⟩,
  ⟨false, .other, 0, 0, false, [], none⟩,
  ⟨false, .other, 0, 0, false, [], none⟩,
  ⟨false, .other, 0, 0, false, [], none⟩,
  ⟨false, .other, 0, 0, false, [], none⟩,
  ⟨false, .other, 0, 0, false, [], none⟩,
  ⟨false, .other, 0, 0, false, [], none⟩,
  ⟨false, .other, 0, 0, false, [], none⟩,
  ⟨false, .other, 0, 0, false, [], none⟩,
  ⟨false, .other, 0, 0, false, [], none⟩,
  ⟨false, .other, 0, 0, false, [], none⟩,
  ⟨false, .other, 0, 0, false, [], none⟩,
  ⟨false, .other, 0, 0, false, [], none⟩,
  ⟨false, .other, 0, 0, false, [], none⟩,
  ⟨false, .other, 0, 0, false, [], none⟩,
  ⟨false, .other, 0, 0, false, [], none⟩,
  ⟨false, .other, 0, 0, false, [], none⟩,
  ⟨false, .other, 0, 0, false, [], none⟩,
  ⟨false, .other, 0, 0, false, [], none⟩,
  ⟨false, .other, 0, 0, false, [], none⟩,
  ⟨false, .other, 0, 0, false, [], none⟩,
  ⟨true, .ptr 243, 1, 8, false, [.pointer none], none⟩,
  ⟨true, .struct [(0, 33, 12), (12, 95, 1), (13, 41, 1)], 14, 304, true, [.int .i64 0, .slice none 0 0, .slice none 0 0, .slice none 0 0, .slice none 0 0, .slice none 0 0, .slice none 0 0, .slice none 0 0, .slice none 0 0, .slice none 0 0, .slice none 0 0, .slice none 0 0, .slice none 0 0, .int .i64 0], none⟩,
  ⟨true, .struct [(0, 33, 12), (12, 95, 1), (13, 41, 1)], 14, 304, true, [.int .i64 0, .slice none 0 0, .slice none 0 0, .slice none 0 0, .slice none 0 0, .slice none 0 0, .slice none 0 0, .slice none 0 0, .slice none 0 0, .slice none 0 0, .slice none 0 0, .slice none 0 0, .slice none 0 0, .int .i64 0], none⟩,
  ⟨false, .other, 0, 0, false, [], none⟩,
  ⟨false, .other, 0, 0, false, [], none⟩,
  ⟨false, .other, 0, 0, false, [], none⟩,
  ⟨false, .other, 0, 0, false, [], none⟩,
  ⟨false, .other, 0, 0, false, [], none⟩,
  ⟨false, .other, 0, 0, false, [], none⟩,
  ⟨false, .other, 0, 0, false, [], none⟩,
  ⟨true, .int .u64, 1, 8, false, [.int .u64 0], some [.int .u64]⟩,
  ⟨false, .other, 0, 0, false, [], none⟩,
  ⟨false, .other, 0, 0, false, [], none⟩,
  ⟨true, .struct [(0, 4, 1), (1, 36, 1)], 2, 32, true, [.bool false, .slice none 0 0], none⟩,
  ⟨true, .struct [(0, 4, 1), (1, 36, 1)], 2, 32, true, [.bool false, .slice none 0 0], none⟩,
  ⟨false, .other, 0, 0, false, [], none⟩,
  ⟨false, .other, 0, 0, false, [], none⟩,
  ⟨false, .other, 0, 0, false, [], none⟩,
  ⟨false, .other, 0, 0, false, [], none⟩,
  ⟨false, .other, 0, 0, false, [], none⟩,
  ⟨true, .struct [(0, 4, 1), (1, 36, 1), (2, 41, 1)], 3, 40, true, [.bool false, .slice none 0 0, .int .i64 0], none⟩,
  ⟨true, .struct [(0, 4, 1), (1, 36, 1), (2, 41, 1)], 3, 40, true, [.bool false, .slice none 0 0, .int .i64 0], none⟩,
  ⟨false, .other, 0, 0, false, [], none⟩,
  ⟨false, .other, 0, 0, false, [], none⟩,
  ⟨false, .other, 0, 0, false, [], none⟩,
  ⟨false, .other, 0, 0, false, [], none⟩,
  ⟨false, .other, 0, 0, false, [], none⟩,
  ⟨false, .other, 0, 0, false, [], none⟩,
  ⟨false, .other, 0, 0, false, [], none⟩,
  ⟨false, .other, 0, 0, false, [], none⟩,
  ⟨false, .other, 0, 0, false, [], none⟩,
  ⟨false, .other, 0, 0, false, [], none⟩,
  ⟨false, .other, 0, 0, false, [], none⟩,
  ⟨false, .other, 0, 0, false, [], none⟩,
  ⟨false, .other, 0, 0, false, [], none⟩,
  ⟨false, .other, 0, 0, false, [], none⟩,
  ⟨false, .other, 0, 0, false, [], none⟩,
  ⟨false, .other, 0, 0, false, [], none⟩,
  ⟨false, .other, 0, 0, false, [], none⟩,
  ⟨false, .other, 0, 0, false, [], none⟩,
  ⟨false, .other, 0, 0, false, [], none⟩,
  ⟨false, .other, 0, 0, false, [], none⟩,
  ⟨false, .other, 0, 0, false, [], none⟩,
  ⟨true, .map 47 4, 1, 8, false, [.map none], none⟩,
  ⟨true, .struct [(0, 33, 12), (12, 284, 1)], 13, 280, true, [.int .i64 0, .slice none 0 0, .slice none 0 0, .slice none 0 0, .slice none 0 0, .slice none 0 0, .slice none 0 0, .slice none 0 0, .slice none 0 0, .slice none 0 0, .slice none 0 0, .slice none 0 0, .map none], none⟩,
  ⟨true, .struct [(0, 33, 12), (12, 284, 1)], 13, 280, true, [.int .i64 0, .slice none 0 0, .slice none 0 0, .slice none 0 0, .slice none 0 0, .slice none 0 0, .slice none 0 0, .slice none 0 0, .slice none 0 0, .slice none 0 0, .slice none 0 0, .slice none 0 0, .map none], none⟩,
  ⟨false, .other, 0, 0, false, [], none⟩,
  ⟨false, .other, 0, 0, false, [], none⟩,
  ⟨false, .other, 0, 0, false, [], none⟩,
  ⟨false, .other, 0, 0, false, [], none⟩,
  ⟨false, .other, 0, 0, false, [], none⟩,
  ⟨false, .other, 0, 0, false, [], none⟩,
  ⟨false, .other, 0, 0, false, [], none⟩,
  ⟨false, .other, 0, 0, false, [], none⟩,
  ⟨false, .other, 0, 0, false, [], none⟩,
  ⟨false, .other, 0, 0, false, [], none⟩,
  ⟨false, .other, 0, 0, false, [], none⟩,
  ⟨false, .other, 0, 0, false, [], none⟩,
  ⟨false, .other, 0, 0, false, [], none⟩,
  ⟨false, .other, 0, 0, false, [], none⟩,
  ⟨false, .other, 0, 0, false, [], none⟩,
  ⟨false, .other, 0, 0, false, [], none⟩,
  ⟨false, .other, 0, 0, false, [], none⟩,
  ⟨false, .other, 0, 0, false, [], none⟩,
  ⟨false, .other, 0, 0, false, [], none⟩,
  ⟨false, .other, 0, 0, false, [], none⟩,
  ⟨false, .other, 0, 0, false, [], none⟩,
  ⟨false, .other, 0, 0, false, [], none⟩,
  ⟨true, .slice 48, 1, 24, false, [.slice none 0 0], none⟩,
  ⟨false, .other, 0, 0, false, [], none⟩,
  ⟨false, .other, 0, 0, false, [], none⟩,
  ⟨false, .other, 0, 0, false, [], none⟩,
  ⟨false, .other, 0, 0, false, [], none⟩,
  ⟨false, .other, 0, 0, false, [], none⟩,
  ⟨false, .other, 0, 0, false, [], none⟩,
  ⟨true, .struct [(0, 2, 1), (1, 251, 1)], 2, 16, true, [.int .i64 0, .int .u64 0], some [.int .i64, .int .u64]⟩,
  ⟨true, .struct [(0, 2, 1), (1, 251, 1)], 2, 16, true, [.int .i64 0, .int .u64 0], some [.int .i64, .int .u64]⟩,
  ⟨false, .other, 0, 0, false, [], none⟩,
  ⟨false, .other, 0, 0, false, [], none⟩,
  ⟨false, .other, 0, 0, false, [], none⟩,
  ⟨false, .other, 0, 0, false, [], none⟩,
  ⟨false, .other, 0, 0, false, [], none⟩,
  ⟨false, .other, 0, 0, false, [], none⟩,
  ⟨false, .other, 0, 0, false, [], none⟩,
  ⟨false, .other, 0, 0, false, [], none⟩,
  ⟨false, .other, 0, 0, false, [], none⟩,
  ⟨false, .other, 0, 0, false, [], none⟩,
  ⟨false, .other, 0, 0, false, [], none⟩,
  ⟨false, .other, 0, 0, false, [], none⟩,
  ⟨false, .other, 0, 0, false, [], none⟩,
  ⟨false, .other, 0, 0, false, [], none⟩,
  ⟨false, .other, 0, 0, false, [], none⟩,
  ⟨false, .other, 0, 0, false, [], none⟩,
  ⟨false, .other, 0, 0, false, [], none⟩,
  ⟨false, .other, 0, 0, false, [], none⟩,
  ⟨false, .other, 0, 0, false, [], none⟩,
  ⟨false, .other, 0, 0, false, [], none⟩,
  ⟨false, .other, 0, 0, false, [], none⟩,
  ⟨false, .other, 0, 0, false, [], none⟩,
  ⟨false, .other, 0, 0, false, [], none⟩,
  ⟨false, .other, 0, 0, false, [], none⟩,
  ⟨false, .other, 0, 0, false, [], none⟩,
  ⟨false, .other, 0, 0, false, [], none⟩,
  ⟨true, .slice 317, 1, 24, false, [.slice none 0 0], none⟩,
  ⟨false, .other, 0, 0, false, [], none⟩,
  ⟨false, .other, 0, 0, false, [], none⟩,
  ⟨false, .other, 0, 0, false, [], none⟩,
  ⟨false, .other, 0, 0, false, [], none⟩,
  ⟨false, .other, 0, 0, false, [], none⟩,
  ⟨false, .other, 0, 0, false, [], none⟩,
  ⟨false, .other, 0, 0, false, [], none⟩,
  ⟨true, .slice 41, 1, 24, false, [.slice none 0 0], none⟩,
  ⟨false, .other, 0, 0, false, [], none⟩,
  ⟨false, .other, 0, 0, false, [], none⟩,
  ⟨false, .other, 0, 0, false, [], none⟩,
  ⟨false, .other, 0, 0, false, [], none⟩,
  ⟨false, .other, 0, 0, false, [], none⟩,
  ⟨false, .other, 0, 0, false, [], none⟩,
  ⟨false, .other, 0, 0, false, [], none⟩,
  ⟨false, .other, 0, 0, false, [], none⟩,
  ⟨false, .other, 0, 0, false, [], none⟩,
  ⟨false, .other, 0, 0, false, [], none⟩,
  ⟨false, .other, 0, 0, false, [], none⟩,
  ⟨false, .other, 0, 0, false, [], none⟩,
  ⟨false, .other, 0, 0, false, [], none⟩,
  ⟨false, .other, 0, 0, false, [], none⟩,
  ⟨false, .other, 0, 0, false, [], none⟩,
  ⟨false, .other, 0, 0, false, [], none⟩,
  ⟨false, .other, 0, 0, false, [], none⟩,
  ⟨false, .other, 0, 0, false, [], none⟩,
  ⟨false, .other, 0, 0, false, [], none⟩,
  ⟨false, .other, 0, 0, false, [], none⟩,
  ⟨false, .other, 0, 0, false, [], none⟩,
  ⟨false, .other, 0, 0, false, [], none⟩,
  ⟨false, .other, 0, 0, false, [], none⟩,
  ⟨true, .slice 72, 1, 24, false, [.slice none 0 0], none⟩,
  ⟨false, .other, 0, 0, false, [], none⟩,
  ⟨false, .other, 0, 0, false, [], none⟩,
  ⟨false, .other, 0, 0, false, [], none⟩,
  ⟨true, .struct [(0, 251, 1), (1, 251, 1)], 2, 16, true, [.int .u64 0, .int .u64 0], some [.int .u64, .int .u64]⟩,
  ⟨true, .struct [(0, 251, 1), (1, 251, 1)], 2, 16, true, [.int .u64 0, .int .u64 0], some [.int .u64, .int .u64]⟩,
  ⟨false, .other, 0, 0, false, [], none⟩,
  ⟨false, .other, 0, 0, false, [], none⟩,
  ⟨false, .other, 0, 0, false, [], none⟩,
  ⟨false, .other, 0, 0, false, [], none⟩,
  ⟨false, .other, 0, 0, false, [], none⟩,
  ⟨false, .other, 0, 0, false, [], none⟩,
  ⟨false, .other, 0, 0, false, [], none⟩,
  ⟨false, .other, 0, 0, false, [], none⟩,
  ⟨false, .other, 0, 0, false, [], none⟩,
  ⟨false, .other, 0, 0, false, [], none⟩,
  ⟨false, .other, 0, 0, false, [], none⟩,
  ⟨false, .other, 0, 0, false, [], none⟩,
  ⟨false, .other, 0, 0, false, [], none⟩,
  ⟨false, .other, 0, 0, false, [], none⟩,
  ⟨false, .other, 0, 0, false, [], none⟩,
  ⟨false, .other, 0, 0, false, [], none⟩,
  ⟨false, .other, 0, 0, false, [], none⟩,
  ⟨false, .other, 0, 0, false, [], none⟩,
  ⟨false, .other, 0, 0, false, [], none⟩,
  ⟨false, .other, 0, 0, false, [], none⟩,
  ⟨false, .other, 0, 0, false, [], none⟩,
  ⟨true, .int .u64, 1, 8, false, [.int .u64 0], some [.int .u64]⟩,
  ⟨true, .struct [(0, 2, 1), (1, 317, 2)], 3, 24, true, [.int .i64 0, .int .i64 0, .int .u64 0], some [.int .i64, .int .i64, .int .u64]⟩,
  ⟨true, .struct [(0, 2, 1), (1, 317, 2)], 3, 24, true, [.int .i64 0, .int .i64 0, .int .u64 0], some [.int .i64, .int .i64, .int .u64]⟩,
  ⟨false, .other, 0, 0, false, [], none⟩,
  ⟨false, .other, 0, 0, false, [], none⟩,
  ⟨false, .other, 0, 0, false, [], none⟩,
  ⟨false, .other, 0, 0, false, [], none⟩,
  ⟨false, .other, 0, 0, false, [], none⟩,
  ⟨false, .other, 0, 0, false, [], none⟩,
  ⟨false, .other, 0, 0, false, [], none⟩,
  ⟨false, .other, 0, 0, false, [], none⟩,
  ⟨false, .other, 0, 0, false, [], none⟩,
  ⟨false, .other, 0, 0, false, [], none⟩,
  ⟨false, .other, 0, 0, false, [], none⟩,
  ⟨false, .other, 0, 0, false, [], none⟩,
  ⟨false, .other, 0, 0, false, [], none⟩,
  ⟨false, .other, 0, 0, false, [], none⟩,
  ⟨false, .other, 0, 0, false, [], none⟩,
  ⟨false, .other, 0, 0, false, [], none⟩,
  ⟨false, .other, 0, 0, false, [], none⟩,
  ⟨false, .other, 0, 0, false, [], none⟩,
  ⟨false, .other, 0, 0, false, [], none⟩,
  ⟨true, .slice 30, 1, 24, false, [.slice none 0 0], none⟩,
  ⟨false, .other, 0, 0, false, [], none⟩,
  ⟨false, .other, 0, 0, false, [], none⟩,
  ⟨false, .other, 0, 0, false, [], none⟩,
  ⟨false, .other, 0, 0, false, [], none⟩,
  ⟨false, .other, 0, 0, false, [], none⟩,
  ⟨false, .other, 0, 0, false, [], none⟩,
  ⟨true, .ptr 405, 1, 8, false, [.pointer none], none⟩,
  ⟨false, .other, 0, 0, false, [], none⟩,
  ⟨false, .other, 0, 0, false, [], none⟩,
  ⟨false, .other, 0, 0, false, [], none⟩,
  ⟨false, .other, 0, 0, false, [], none⟩,
  ⟨false, .other, 0, 0, false, [], none⟩,
  ⟨false, .other, 0, 0, false, [], none⟩,
  ⟨false, .other, 0, 0, false, [], none⟩,
  ⟨false, .other, 0, 0, false, [], none⟩,
  ⟨false, .other, 0, 0, false, [], none⟩,
  ⟨false, .other, 0, 0, false, [], none⟩,
  ⟨true, .slice 251, 1, 24, false, [.slice none 0 0], none⟩,
  ⟨false, .other, 0, 0, false, [], none⟩,
  ⟨false, .other, 0, 0, false, [], none⟩,
  ⟨false, .other, 0, 0, false, [], none⟩,
  ⟨false, .other, 0, 0, false, [], none⟩,
  ⟨false, .other, 0, 0, false, [], none⟩,
  ⟨false, .other, 0, 0, false, [], none⟩,
  ⟨false, .other, 0, 0, false, [], none⟩,
  ⟨false, .other, 0, 0, false, [], none⟩,
  ⟨false, .other, 0, 0, false, [], none⟩,
  ⟨true, .slice 457, 1, 24, false, [.slice none 0 0], none⟩,
  ⟨false, .other, 0, 0, false, [], none⟩,
  ⟨false, .other, 0, 0, false, [], none⟩,
  ⟨true, .struct [(0, 3, 1), (1, 2, 1), (2, 2, 1)], 3, 24, true, [.int .i64 0, .int .i64 0, .int .i64 0], some [.int .i64, .int .i64, .int .i64]⟩,
  ⟨true, .struct [(0, 3, 1), (1, 2, 1), (2, 2, 1)], 3, 24, true, [.int .i64 0, .int .i64 0, .int .i64 0], some [.int .i64, .int .i64, .int .i64]⟩,
  ⟨false, .other, 0, 0, false, [], none⟩,
  ⟨false, .other, 0, 0, false, [], none⟩,
  ⟨false, .other, 0, 0, false, [], none⟩,
  ⟨false, .other, 0, 0, false, [], none⟩,
  ⟨true, .int .i64, 1, 8, false, [.int .i64 0], some [.int .i64]⟩,
  ⟨false, .other, 0, 0, false, [], none⟩,
  ⟨false, .other, 0, 0, false, [], none⟩,
  ⟨false, .other, 0, 0, false, [], none⟩,
  ⟨false, .other, 0, 0, false, [], none⟩,
  ⟨false, .other, 0, 0, false, [], none⟩,
  ⟨false, .other, 0, 0, false, [], none⟩,
  ⟨true, .int .u32, 1, 4, false, [.int .u32 0], some [.int .u32]⟩,
  ⟨false, .other, 0, 0, false, [], none⟩,
  ⟨false, .other, 0, 0, false, [], none⟩,
  ⟨false, .other, 0, 0, false, [], none⟩,
  ⟨false, .other, 0, 0, false, [], none⟩,
  ⟨false, .other, 0, 0, false, [], none⟩,
  ⟨false, .other, 0, 0, false, [], none⟩,
  ⟨false, .other, 0, 0, false, [], none⟩,
  ⟨false, .other, 0, 0, false, [], none⟩,
  ⟨true, .int .u64, 1, 8, false, [.int .u64 0], some [.int .u64]⟩,
  ⟨false, .other, 0, 0, false, [], none⟩,
  ⟨false, .other, 0, 0, false, [], none⟩,
  ⟨false, .other, 0, 0, false, [], none⟩,
  ⟨true, .ptr 3, 1, 8, false, [.pointer none], none⟩,
  ⟨false, .other, 0, 0, false, [], none⟩,
  ⟨false, .other, 0, 0, false, [], none⟩,
  ⟨false, .other, 0, 0, false, [], none⟩,
  ⟨false, .other, 0, 0, false, [], none⟩,
  ⟨false, .other, 0, 0, false, [], none⟩,
  ⟨false, .other, 0, 0, false, [], none⟩,
  ⟨true, .ptr 478, 1, 8, false, [.pointer none], none⟩,
  ⟨false, .other, 0, 0, false, [], none⟩,
  ⟨false, .other, 0, 0, false, [], none⟩,
  ⟨false, .other, 0, 0, false, [], none⟩,
  ⟨false, .other, 0, 0, false, [], none⟩,
  ⟨false, .other, 0, 0, false, [], none⟩,
  ⟨false, .other, 0, 0, false, [], none⟩,
  ⟨true, .ptr 512, 1, 8, false, [.pointer none], none⟩,
  ⟨false, .other, 0, 0, false, [], none⟩,
  ⟨false, .other, 0, 0, false, [], none⟩,
  ⟨false, .other, 0, 0, false, [], none⟩,
  ⟨false, .other, 0, 0, false, [], none⟩,
  ⟨false, .other, 0, 0, false, [], none⟩,
  ⟨false, .other, 0, 0, false, [], none⟩,
  ⟨false, .other, 0, 0, false, [], none⟩,
  ⟨false, .other, 0, 0, false, [], none⟩,
  ⟨false, .other, 0, 0, false, [], none⟩,
  ⟨true, .ptr 5, 1, 8, false, [.pointer none], none⟩,
  ⟨false, .other, 0, 0, false, [], none⟩,
  ⟨false, .other, 0, 0, false, [], none⟩,
  ⟨false, .other, 0, 0, false, [], none⟩,
  ⟨false, .other, 0, 0, false, [], none⟩,
  ⟨true, .struct [(0, 9, 1)], 1, 16, true, [.string .empty], some [.str]⟩,
  ⟨true, .struct [(0, 9, 1)], 1, 16, true, [.string .empty], some [.str]⟩,
  ⟨false, .other, 0, 0, false, [], none⟩]

theorem zero4 (w : World) : (zeroValue 4).run Tryz.prog w = .ok (.bool false) w := by kernel_rfl
theorem tab_keys : ∀ p ∈ keysIn tab, MapOk Tryz.prog p.1 p.2 := by
  have e : keysIn tab = [(47, 4)] := by kernel_rfl
  rw [e]; intro p hp; simp at hp; subst hp; exact ⟨keyU, zero4⟩
theorem tab_ok : TableOk Tryz.prog tab := tableOk_of (by kernel_rfl) tab_keys
theorem kp : KProg Tryz.prog tab := ⟨tab_ok, by decide +kernel⟩
end Go.Proofs.YtllkmncnmlmefaaGreat
namespace Go.Proofs.YtllkmncnmlmefaaGreat
open Go Go.Vc Go.RowKit
end Go.Proofs.YtllkmncnmlmefaaGreat

namespace Go.Vc
open Go Go.RowKit
end Go.Vc
namespace Go.Proofs.YtllkmncnmlmefaaGreat
open Go Go.Vc
end Go.Proofs.YtllkmncnmlmefaaGreat

namespace Go.Vc
open Go Go.RowKit Go.Lib
end Go.Vc
namespace Go.Proofs.YtllkmncnmlmefaaGreat
open Go Go.Vc Go.RowKit Go.Lib Go.Sort Go.Proofs
end Go.Proofs.YtllkmncnmlmefaaGreat

namespace Go.Vc
open Go Go.RowKit Go.Lib
end Go.Vc
namespace Go.Proofs.YtllkmncnmlmefaaGreat
open Go Go.Vc Go.RowKit Go.Lib Go.Sort Go.Proofs
end Go.Proofs.YtllkmncnmlmefaaGreat

namespace Go.Vc
open Go Go.RowKit Go.Lib
end Go.Vc
namespace Go.Proofs.YtllkmncnmlmefaaGreat
open Go Go.Vc Go.RowKit Go.Lib Go.Sort Go.Proofs
end Go.Proofs.YtllkmncnmlmefaaGreat

namespace Go.Proofs.YtllkmncnmlmefaaGreat
open Go Go.Vc Go.RowKit Go.Lib Go.Sort Go.Proofs
end Go.Proofs.YtllkmncnmlmefaaGreat

namespace Go.Proofs.YtllkmncnmlmefaaGreat
open Go Go.Vc Go.RowKit Go.Lib
end Go.Proofs.YtllkmncnmlmefaaGreat

namespace Go.Vc
open Go Go.RowKit Go.Lib
end Go.Vc
namespace Go.Proofs.YtllkmncnmlmefaaGreat
open Go Go.Vc Go.RowKit Go.Lib
end Go.Proofs.YtllkmncnmlmefaaGreat

namespace Go.Proofs.YtllkmncnmlmefaaGreat.Lot
open Go.Proofs.YtllkmncnmlmefaaGreat
open Go Go.Vc Go.RowKit Go.Lib Go.Sort Go.Proofs
end Go.Proofs.YtllkmncnmlmefaaGreat.Lot

namespace Go.Proofs.YtllkmncnmlmefaaGreat.Lot
open Go.Proofs.YtllkmncnmlmefaaGreat
open Go Go.Vc Go.RowKit Go.Lib Go.Sort Go.Proofs
end Go.Proofs.YtllkmncnmlmefaaGreat.Lot

namespace Go.Proofs.YtllkmncnmlmefaaGreat.Lot
open Go.Proofs.YtllkmncnmlmefaaGreat
open Go Go.Vc Go.RowKit Go.Lib Go.Sort Go.Proofs
end Go.Proofs.YtllkmncnmlmefaaGreat.Lot

namespace Go.Proofs.YtllkmncnmlmefaaGreat.Lot
open Go.Proofs.YtllkmncnmlmefaaGreat
open Go Go.Vc Go.RowKit Go.Lib Go.Sort Go.Proofs
end Go.Proofs.YtllkmncnmlmefaaGreat.Lot

namespace Go.Proofs.YtllkmncnmlmefaaGreat.Lot
open Go.Proofs.YtllkmncnmlmefaaGreat
open Go Go.Vc Go.RowKit Go.Lib
end Go.Proofs.YtllkmncnmlmefaaGreat.Lot

namespace Go.Proofs.YtllkmncnmlmefaaGreat.Lot
open Go.Proofs.YtllkmncnmlmefaaGreat
open Go Go.Vc Go.RowKit Go.Lib
end Go.Proofs.YtllkmncnmlmefaaGreat.Lot

namespace Go.Vc
open Go Go.RowKit Go.Sort Go.Proofs
/-! ### A row of one's own that the library sorts in its place -/
end Go.Vc
namespace Go.Proofs.YtllkmncnmlmefaaGreat
open Go Go.Vc Go.RowKit Go.Sort Go.Proofs Go.Shelf
/-! ### units put in order -/
theorem grow_drewN_grow (W : World) (q1 q2 : Nat) (o1 o2 : Array Obj) : grow ((grow (W.drewN q1) o1).drewN q2) o2 = grow (W.drewN (q1 + q2)) (o1 ++ o2) := by
  simp [grow, World.drewN, Array.append_assoc, Nat.add_assoc]
theorem alloc_drew (W : World) (o : Obj) : W.alloc o = grow (W.drewN 0) #[o] := by rw [alloc_eq_grow]; rfl
def G2 (W w' : World) : Prop := ∃ q os', w' = grow (W.drewN q) os'
theorem G2.trans {a b c : World} (h : G2 a b) (h' : G2 b c) : G2 a c := by
  obtain ⟨q, os, rfl⟩ := h; obtain ⟨q', os', rfl⟩ := h'; exact ⟨_, _, grow_drewN_grow _ _ _ _ _⟩
theorem G2.alloc (W : World) (o : Obj) : G2 W (W.alloc o) := ⟨0, _, alloc_drew W o⟩
end Go.Proofs.YtllkmncnmlmefaaGreat
namespace Go.Proofs.YtllkmncnmlmefaaGreat
open Go Go.Vc Go.RowKit Go.Shelf
end Go.Proofs.YtllkmncnmlmefaaGreat

namespace Go.Proofs.YtllkmncnmlmefaaGreat
open Go Go.Vc Go.RowKit Go.Lib Go.Shelf
/-! ### slices.Grow of flows -/
end Go.Proofs.YtllkmncnmlmefaaGreat
namespace Go.Proofs.YtllkmncnmlmefaaGreat
open Go Go.Vc Go.RowKit
end Go.Proofs.YtllkmncnmlmefaaGreat

namespace Go.Proofs.YtllkmncnmlmefaaGreat
open Go Go.Vc Go.RowKit Go.Sort Go.Proofs Go.Shelf
/-! ### two quotas compared -/
end Go.Proofs.YtllkmncnmlmefaaGreat
namespace Go.Proofs.YtllkmncnmlmefaaGreat
open Go Go.Vc Go.RowKit Go.Sort Go.Proofs Go.Shelf
end Go.Proofs.YtllkmncnmlmefaaGreat

namespace Go.Proofs.YtllkmncnmlmefaaGreat
open Go Go.Vc Go.RowKit Go.Sort Go.Proofs Go.Shelf
end Go.Proofs.YtllkmncnmlmefaaGreat

namespace Go.Proofs.YtllkmncnmlmefaaGreat
open Go Go.Vc Go.RowKit
open Lot
set_option maxRecDepth 100000
set_option synthInstance.maxSize 100000
set_option synthInstance.maxHeartbeats 0
set_option maxHeartbeats 8000000
def law25_Short_k : KC Tryz.prog := kes kp 77 (.pair tAAccount .unit) (.v tAAccount) (fun W x => law25_ShortW W x.1) [] [] [(3, ⟨[], [(0, [.t (.int .i64), .t (.int .i64), .t (.int .i64), .t (.slc (.int .i64))])], []⟩)] [] Tryz.func77 rfl (by decide +kernel) (fun W x => by kernel_rfl)
def ref12_Is_k : KC Tryz.prog := kes kp 243 (.pair tALot .unit) (.v .bool) (fun W x => ref12_IsW W x.1) [] [] [] [] Tryz.func243 rfl (by decide +kernel) (fun W x => by kernel_rfl)
def ref12_Find_k : KC Tryz.prog := kes kp 114 (.pair (.slc tALot) (.pair (.int .i64) .unit)) (.pair (.v tALot) (.pair (.v .bool) .unit)) (fun W x => ref12_FindW W x.1 x.2.1) [] [] [] [(2, ⟨[(6, .t (.int .i64))], [], []⟩)] Tryz.func114 rfl (by decide +kernel) (fun W x => by kernel_rfl)
def ref15_Is_k : KC Tryz.prog := kes kp 244 (.pair tAAccount .unit) (.v .bool) (fun W x => ref15_IsW W x.1) [] [(8, [], (ofL [(0, true), (1, true), (2, true), (3, true), (4, true), (5, true), (6, true), (7, true), (8, true), (9, true), (10, true), (11, true), (12, true), (13, true), (14, true), (15, true), (16, true), (17, true), (18, true), (19, true), (20, true), (21, true), (22, true), (23, true), (24, true), (25, true), (26, true), (27, true), (28, true), (29, true), (30, true), (31, true)]))] [(500031, ⟨[(31, .t .bool)], [], []⟩), (500051, ⟨[(51, .t .bool)], [], []⟩), (500090, ⟨[(90, .t .bool)], [], []⟩)] [(6, ⟨[(3, .t (.int .i64))], [], []⟩)] Tryz.func244 rfl (by decide +kernel) (fun W x => by kernel_rfl)
def law17_Few_k : KC Tryz.prog := kes kp 75 (.pair (.slc tAFlow) .unit) (.v (.slc tAFlow)) (fun W x => law17_FewW W x.1) [] [] [] [] Tryz.func75 rfl (by decide +kernel) (fun W x => by kernel_rfl)
def law18_Few_k : KC Tryz.prog := kes kp 205 (.pair (.slc tALot) .unit) (.v (.slc tALot)) (fun W x => law18_FewW W x.1) [] [] [] [] Tryz.func205 rfl (by decide +kernel) (fun W x => by kernel_rfl)
def law26_Few_k : KC Tryz.prog := kes kp 76 (.pair (.slc tAHold) .unit) (.own 55 tAHold) (fun W x => law26_FewW W x.1) [law18_Few_k] [(5, [], (ofL [(0, true), (1, true), (2, true), (3, true), (4, true), (5, true), (6, true), (7, true), (8, true), (9, true), (10, true), (11, false), (12, true), (13, false), (14, false), (15, true)]))] [(6, ⟨[(3, .row 1)], [], [.dead, .own 55 tAHold]⟩)] [(3, ⟨[(3, .row 1), (4, .t (.int .i64))], [], [.dead, .own 55 tAHold]⟩)] Tryz.func76 rfl (by decide +kernel) (fun W x => by kernel_rfl)
def lots_right_k : KC Tryz.prog := kes kp 379 (.pair tALot .unit) (.v .bool) (fun W x => lots_rightW W x.1) [] [] [] [] Tryz.func379 rfl (by decide +kernel) (fun W x => by kernel_rfl)
def cmp_isNaN_k : KC Tryz.prog := kes kp 426 (.pair (.int .i64) .unit) (.v .bool) (fun W x => cmp_isNaNW W x.1) [] [] [] [] Tryz.func426 rfl (by decide +kernel) (fun W x => by kernel_rfl)
def cmp_Compare_k : KC Tryz.prog := kes kp 410 (.pair (.int .i64) (.pair (.int .i64) .unit)) (.v (.int .i64)) (fun W x => cmp_CompareW W x.1 x.2.1) [cmp_isNaN_k] [] [] [] Tryz.func410 rfl (by decide +kernel) (fun W x => by kernel_rfl)
def cmp_Or_k : KC Tryz.prog := kes kp 409 (.pair (.slc (.int .i64)) .unit) (.v (.int .i64)) (fun W x => cmp_OrW W x.1) [] [] [] [(3, ⟨[(8, .t (.int .i64))], [], []⟩)] Tryz.func409 rfl (by decide +kernel) (fun W x => by kernel_rfl)
def lots_order_k : KC Tryz.prog := kes kp 380 (.pair tALot (.pair tALot .unit)) (.v (.int .i64)) (fun W x => lots_orderW W x.1 x.2.1) [cmp_Compare_k, cmp_Or_k] [(1, [], (ofL [(0, true), (1, true), (2, true), (3, true), (5, true), (6, true), (7, true), (8, true), (4, false), (9, false), (10, false), (11, false), (12, true)]))] [] [] Tryz.func380 rfl (by decide +kernel) (fun W x => by kernel_rfl)
def lots_Is_k : KC Tryz.prog := kes kp 305 (.pair (.slc tALot) .unit) (.v .bool) (fun W x => lots_IsW W x.1) [lots_right_k, lots_order_k] [(4, [], (.rd 0 (.op 1 (.rd 2 (.rd 3 (.rd 4 (.rd 5 (.rd 6 (.rd 7 (.rd 8 (.rd 9 (.rd 10 (.two 11 12 (ofL [(12, false), (13, false), (14, true), (15, true), (16, true)]) (ofL [(11, false), (13, false), (14, true), (15, true), (16, true)]))))))))))))))] [(500028, ⟨[(28, .t .bool)], [], []⟩)] [(2, ⟨[(7, .t (.int .i64))], [], []⟩)] Tryz.func305 rfl (by decide +kernel) (fun W x => by kernel_rfl)
def asset_Find_k : KC Tryz.prog := kes kp 307 (.pair (.slc tALot) (.pair (.int .i64) .unit)) (.pair (.v tALot) (.pair (.v .bool) .unit)) (fun W x => asset_FindW W x.1 x.2.1) [] [] [] [(2, ⟨[(10, .t (.int .i64))], [], []⟩)] Tryz.func307 rfl (by decide +kernel) (fun W x => by kernel_rfl)
def asset_priced_k : KC Tryz.prog := kes kp 393 (.pair (.int .i64) .unit) (.v .bool) (fun W x => asset_pricedW W x.1) [] [] [] [] Tryz.func393 rfl (by decide +kernel) (fun W x => by kernel_rfl)
def asset_Check_k : KC Tryz.prog := kes kp 328 (.pair tALot .unit) (.v (.int .i64)) (fun W x => asset_CheckW W x.1) [asset_priced_k] [] [(500026, ⟨[(26, .t .bool)], [], []⟩)] [] Tryz.func328 rfl (by decide +kernel) (fun W x => by kernel_rfl)
def ref18_one_k : KC Tryz.prog := kes kp 337 (.pair tALot .unit) (.v .bool) (fun W x => ref18_oneW W x.1) [] [] [] [] Tryz.func337 rfl (by decide +kernel) (fun W x => by kernel_rfl)
def ref18_less_k : KC Tryz.prog := kes kp 338 (.pair tALot (.pair tALot .unit)) (.v .bool) (fun W x => ref18_lessW W x.1 x.2.1) [] [] [] [] Tryz.func338 rfl (by decide +kernel) (fun W x => by kernel_rfl)
def ref18_Is_k : KC Tryz.prog := kes kp 249 (.pair (.slc tALot) .unit) (.v .bool) (fun W x => ref18_IsW W x.1) [ref18_one_k, ref18_less_k] [(4, [], (.rd 0 (.rd 1 (.rd 2 (.rd 3 (.op 4 (.rd 5 (.rd 6 (.rd 7 (.rd 8 (.rd 9 (.rd 10 (.rd 11 (.rd 12 (.rd 13 (.rd 15 (.rd 16 (.rd 17 (.two 14 18 (ofL [(18, false), (19, false), (20, true), (21, true), (22, true)]) (ofL [(14, false), (19, false), (20, true), (21, true), (22, true)]))))))))))))))))))))] [(500032, ⟨[(32, .t .bool)], [], []⟩)] [(2, ⟨[(3, .t (.int .i64))], [], []⟩)] Tryz.func249 rfl (by decide +kernel) (fun W x => by kernel_rfl)
def acct_Less_k : KC Tryz.prog := kes kp 304 (.pair tAUnit (.pair tAUnit .unit)) (.v .bool) (fun W x => acct_LessW W x.1 x.2.1) [] [] [] [] Tryz.func304 rfl (by decide +kernel) (fun W x => by kernel_rfl)
def purse_Is_k : KC Tryz.prog := kes kp 181 (.pair (.slc tAFlow) .unit) (.v .bool) (fun W x => purse_IsW W x.1) [acct_Less_k] [(4, [], (ofL [(0, true), (1, true), (2, true), (3, true), (4, true), (5, true), (6, true), (7, true), (8, true), (9, true), (10, true), (11, true), (12, true), (13, true), (14, true), (15, false), (16, true), (17, true), (18, true)]))] [(500030, ⟨[(30, .t .bool)], [], []⟩)] [(2, ⟨[(7, .t (.int .i64))], [], []⟩)] Tryz.func181 rfl (by decide +kernel) (fun W x => by kernel_rfl)
def hold_Is_k : KC Tryz.prog := kes kp 182 (.pair (.slc tAHold) .unit) (.v .bool) (fun W x => hold_IsW W x.1) [lots_Is_k, acct_Less_k] [(4, [], (.rd 0 (.rd 1 (.rd 2 (.rd 3 (.rd 4 (.rd 5 (.rd 6 (.op 7 (.rd 8 (.rd 9 (.rd 10 (.rd 11 (.rd 12 (.rd 13 (.rd 14 (.rd 15 (.rd 16 (.rd 17 (.rd 18 (.rd 20 (.two 19 21 (ofL [(21, false), (22, false), (23, true), (24, true), (25, true)]) (ofL [(19, false), (22, false), (23, true), (24, true), (25, true)])))))))))))))))))))))))] [(500037, ⟨[(37, .t .bool)], [], []⟩)] [(2, ⟨[(7, .t (.int .i64))], [], []⟩)] Tryz.func182 rfl (by decide +kernel) (fun W x => by kernel_rfl)
def ref15_Less_k : KC Tryz.prog := kes kp 248 (.pair tAUnit (.pair tAUnit .unit)) (.v .bool) (fun W x => ref15_LessW W x.1 x.2.1) [] [] [] [] Tryz.func248 rfl (by decide +kernel) (fun W x => by kernel_rfl)
def ref17_Is_k : KC Tryz.prog := kes kp 111 (.pair (.slc tAFlow) .unit) (.v .bool) (fun W x => ref17_IsW W x.1) [ref15_Less_k] [(4, [], (ofL [(0, true), (1, true), (2, true), (3, true), (4, true), (5, true), (6, true), (7, true), (8, true), (9, true), (10, true), (11, true), (12, true), (13, true), (14, true), (15, true), (16, true), (17, true), (18, true), (19, true), (20, true), (21, false), (22, true), (23, true), (24, true)]))] [(500034, ⟨[(34, .t .bool)], [], []⟩)] [(2, ⟨[(3, .t (.int .i64))], [], []⟩)] Tryz.func111 rfl (by decide +kernel) (fun W x => by kernel_rfl)
def ref26_Is_k : KC Tryz.prog := kes kp 112 (.pair (.slc tAHold) .unit) (.v .bool) (fun W x => ref26_IsW W x.1) [ref18_Is_k, ref15_Less_k] [(4, [], (.rd 0 (.rd 1 (.rd 2 (.rd 3 (.rd 4 (.rd 5 (.rd 6 (.rd 7 (.rd 8 (.rd 9 (.rd 10 (.rd 11 (.rd 12 (.op 13 (.rd 14 (.rd 15 (.rd 16 (.rd 17 (.rd 18 (.rd 19 (.rd 20 (.rd 21 (.rd 22 (.rd 23 (.rd 24 (.rd 26 (.rd 27 (.rd 28 (.rd 29 (.two 25 30 (ofL [(30, false), (31, false), (32, true), (33, true), (34, true)]) (ofL [(25, false), (31, false), (32, true), (33, true), (34, true)]))))))))))))))))))))))))))))))))] [(500044, ⟨[(44, .t .bool)], [], []⟩)] [(2, ⟨[(3, .t (.int .i64))], [], []⟩)] Tryz.func112 rfl (by decide +kernel) (fun W x => by kernel_rfl)
def ref17_Same_k : KC Tryz.prog := kes kp 120 (.pair (.slc tAFlow) (.pair (.slc tAFlow) .unit)) (.v .bool) (fun W x => ref17_SameW W x.1 x.2.1) [] [(6, [], (ofL [(0, true), (1, true), (2, true), (3, true), (4, true), (5, true), (6, true), (7, true), (8, true)]))] [] [(4, ⟨[(5, .t (.int .i64))], [], []⟩)] Tryz.func120 rfl (by decide +kernel) (fun W x => by kernel_rfl)
def ref18_Same_k : KC Tryz.prog := kes kp 251 (.pair (.slc tALot) (.pair (.slc tALot) .unit)) (.v .bool) (fun W x => ref18_SameW W x.1 x.2.1) [] [(6, [], (ofL [(0, true), (1, true), (2, true), (3, true), (4, true), (5, true), (6, true), (7, true), (8, true)]))] [] [(4, ⟨[(5, .t (.int .i64))], [], []⟩)] Tryz.func251 rfl (by decide +kernel) (fun W x => by kernel_rfl)
def ref26_Same_k : KC Tryz.prog := kes kp 121 (.pair (.slc tAHold) (.pair (.slc tAHold) .unit)) (.v .bool) (fun W x => ref26_SameW W x.1 x.2.1) [ref18_Same_k] [(6, [], (ofL [(0, true), (1, true), (2, true), (3, true), (4, true), (5, true), (6, true), (7, true), (8, true), (9, true), (10, true), (11, true), (12, true), (13, true), (14, true), (15, true), (16, true), (17, true), (18, true), (19, true), (20, true), (21, true), (22, false), (23, true), (24, true)]))] [(500041, ⟨[(41, .t .bool)], [], []⟩)] [(4, ⟨[(5, .t (.int .i64))], [], []⟩)] Tryz.func121 rfl (by decide +kernel) (fun W x => by kernel_rfl)
def acct_Units_k : KC Tryz.prog := kes kp 316 (.pair tAAccount .unit) (.own 47 tAUnit) (fun W x => acct_UnitsW W x.1) [] [] [] [(5, ⟨[(3, .row 1), (16, .t (.int .i64))], [], [.dead, .own 47 tAUnit]⟩)] Tryz.func316 rfl (by decide +kernel) (fun W x => by kernel_rfl)
def ref15_Units_k : KC Tryz.prog := kes kp 68 (.pair tAAccount .unit) (.own 47 tAUnit) (fun W x => ref15_UnitsW W x.1) [] [(7, [], (ofL [(0, true), (1, true), (2, true), (3, true), (4, true), (5, true), (6, true), (7, true), (8, true), (9, false), (10, false), (11, true)]))] [] [(5, ⟨[(3, .row 1), (4, .t (.int .i64))], [], [.dead, .own 47 tAUnit]⟩)] Tryz.func68 rfl (by decide +kernel) (fun W x => by kernel_rfl)
def ref15_Has_k : KC Tryz.prog := kes kp 153 (.pair tAAccount (.pair tAUnit .unit)) (.v .bool) (fun W x => ref15_HasW W x.1 x.2.1) [ref15_Units_k] [(5, [], (ofL [(0, true), (1, true), (2, true), (4, true), (3, false), (5, true)]))] [] [(3, ⟨[(5, .row 0), (6, .t (.int .i64))], [], [.own 47 tAUnit]⟩)] Tryz.func153 rfl (by decide +kernel) (fun W x => by kernel_rfl)
end Go.Proofs.YtllkmncnmlmefaaGreat

namespace Go.Proofs.YtllkmncnmlmefaaGreat
open Go Go.Vc Go.RowKit
open Lot
set_option maxRecDepth 100000
set_option synthInstance.maxSize 100000
set_option synthInstance.maxHeartbeats 0
set_option maxHeartbeats 8000000
def law16_Few_k : KC Tryz.prog := kes kp 73 (.pair (.slc tAChoice) .unit) (.v (.slc tAChoice)) (fun W x => law16_FewW W x.1) [] [] [] [] Tryz.func73 rfl (by decide +kernel) (fun W x => by kernel_rfl)
def law11_Few_k : KC Tryz.prog := kes kp 204 (.pair (.slc tAUnit) .unit) (.v (.slc tAUnit)) (fun W x => law11_FewW W x.1) [] [] [] [] Tryz.func204 rfl (by decide +kernel) (fun W x => by kernel_rfl)
def law19_Few_k : KC Tryz.prog := kes kp 74 (.pair (.slc tAPos) .unit) (.own 50 tAPos) (fun W x => law19_FewW W x.1) [law11_Few_k] [(5, [], (ofL [(0, true), (1, true), (2, true), (3, true), (4, true), (5, true), (6, true), (7, true), (8, true), (9, true), (10, true), (11, false), (12, true), (13, false), (14, false), (15, true)]))] [(6, ⟨[(3, .row 1)], [], [.dead, .own 50 tAPos]⟩)] [(3, ⟨[(3, .row 1), (4, .t (.int .i64))], [], [.dead, .own 50 tAPos]⟩)] Tryz.func74 rfl (by decide +kernel) (fun W x => by kernel_rfl)
def law33_Few_k : KC Tryz.prog := kes kp 15 (.pair tAState .unit) (.v tAState) (fun W x => law33_FewW W x.1) [law16_Few_k, law19_Few_k, law17_Few_k, law26_Few_k, law25_Short_k] [(1, [], (.rd 0 (.rd 1 (.rd 2 (.rd 3 (.rd 5 (.rd 6 (.rd 8 (.rd 9 (.rd 11 (.rd 12 (.rd 14 (.rd 15 (.two 4 18 (.two 7 18 (.two 10 18 (.two 13 18 (.two 16 18 (ofL [(17, true), (18, false), (19, false)]) (ofL [(16, false), (17, true), (19, false)])) (ofL [(13, false), (16, false), (17, true), (19, false)])) (ofL [(10, false), (13, false), (16, false), (17, true), (19, false)])) (ofL [(7, false), (10, false), (13, false), (16, false), (17, true), (19, false)])) (ofL [(4, false), (7, false), (10, false), (13, false), (16, false), (17, true), (19, false)]))))))))))))))), (6, [2], (.rd 0 (.rd 2 (.rd 3 (.rd 4 (.rd 5 (.rd 6 (.two 1 7 (ofL [(7, false), (8, false), (9, true), (10, false)]) (ofL [(1, false), (8, false), (9, true), (10, false)]))))))))), (8, [2], (.rd 0 (.rd 2 (.rd 3 (.rd 4 (.rd 5 (.rd 6 (.two 1 7 (ofL [(7, false), (8, false), (9, true), (10, false)]) (ofL [(1, false), (8, false), (9, true), (10, false)]))))))))), (10, [2], (.rd 0 (.rd 2 (.rd 3 (.rd 4 (.rd 5 (.rd 6 (.two 1 7 (ofL [(7, false), (8, false), (9, false), (10, true), (11, false)]) (.two 1 8 (ofL [(8, false), (9, false), (10, true), (11, false)]) (ofL [(1, false), (9, false), (10, true), (11, false)])))))))))), (20, [2], (.rd 0 (.rd 2 (.rd 3 (.rd 4 (.rd 5 (.rd 6 (.two 1 7 (ofL [(7, false), (8, false), (9, true), (10, false)]) (ofL [(1, false), (8, false), (9, true), (10, false)]))))))))), (22, [2], (.rd 0 (.rd 2 (.rd 3 (.rd 4 (.rd 5 (.rd 6 (.two 1 7 (ofL [(7, false), (8, false), (9, true), (10, false)]) (ofL [(1, false), (8, false), (9, true), (10, false)])))))))))] [(4, ⟨[], [(2, [.t (.int .i64), .row 4, .row 10, .row 6, .row 8, .t (.slc tAChoice), .nil, .nil, .row 0, .row 1, .t (.slc tAFlow), .row 2])], [.own 50 tAPos, .own 50 tAPos, .own 55 tAHold, .dead, .own 118 tAMember, .dead, .own 120 tALot, .dead, .own 60 tAAccount, .dead, .own 124 tAInst]⟩), (7, ⟨[], [(2, [.t (.int .i64), .row 4, .row 10, .row 6, .row 8, .t (.slc tAChoice), .nil, .nil, .row 0, .row 1, .t (.slc tAFlow), .row 2])], [.own 50 tAPos, .own 50 tAPos, .own 55 tAHold, .dead, .own 118 tAMember, .dead, .own 120 tALot, .dead, .own 60 tAAccount, .dead, .own 124 tAInst]⟩), (9, ⟨[], [(2, [.t (.int .i64), .row 4, .row 10, .row 6, .row 8, .t (.slc tAChoice), .nil, .nil, .row 0, .row 1, .t (.slc tAFlow), .row 2])], [.own 50 tAPos, .own 50 tAPos, .own 55 tAHold, .dead, .own 118 tAMember, .dead, .own 120 tALot, .dead, .own 60 tAAccount, .dead, .own 124 tAInst]⟩), (11, ⟨[], [(2, [.t (.int .i64), .row 4, .row 10, .row 6, .row 8, .t (.slc tAChoice), .nil, .nil, .row 0, .row 1, .t (.slc tAFlow), .row 2])], [.own 50 tAPos, .own 50 tAPos, .own 55 tAHold, .dead, .own 118 tAMember, .dead, .own 120 tALot, .dead, .own 60 tAAccount, .dead, .own 124 tAInst]⟩), (15, ⟨[], [(2, [.t (.int .i64), .row 4, .row 10, .row 6, .row 8, .t (.slc tAChoice), .nil, .nil, .row 0, .row 1, .t (.slc tAFlow), .row 2]), (3, [.t (.int .i64), .t (.int .i64), .t (.int .i64), .t (.int .i64), .t (.slc (.int .i64))])], [.own 50 tAPos, .own 50 tAPos, .own 55 tAHold, .dead, .own 118 tAMember, .dead, .own 120 tALot, .dead, .own 60 tAAccount, .dead, .own 124 tAInst]⟩), (18, ⟨[], [(2, [.t (.int .i64), .row 4, .row 10, .row 6, .row 8, .t (.slc tAChoice), .row 12, .row 14, .row 0, .row 1, .t (.slc tAFlow), .row 2])], [.own 50 tAPos, .own 50 tAPos, .own 55 tAHold, .dead, .own 118 tAMember, .dead, .own 120 tALot, .dead, .own 60 tAAccount, .dead, .own 124 tAInst, .dead, .own 126 tAGroup, .dead, .own 128 tAGive]⟩), (21, ⟨[], [(2, [.t (.int .i64), .row 4, .row 10, .row 6, .row 8, .t (.slc tAChoice), .row 12, .row 14, .row 0, .row 1, .t (.slc tAFlow), .row 2])], [.own 50 tAPos, .own 50 tAPos, .own 55 tAHold, .dead, .own 118 tAMember, .dead, .own 120 tALot, .dead, .own 60 tAAccount, .dead, .own 124 tAInst, .dead, .own 126 tAGroup, .dead, .own 128 tAGive]⟩)] [(3, ⟨[(4, .t (.int .i64))], [(2, [.t (.int .i64), .row 4, .row 10, .row 6, .row 8, .t (.slc tAChoice), .nil, .nil, .row 0, .row 1, .t (.slc tAFlow), .row 2])], [.own 50 tAPos, .own 50 tAPos, .own 55 tAHold, .dead, .own 118 tAMember, .dead, .own 120 tALot, .dead, .own 60 tAAccount, .dead, .own 124 tAInst]⟩), (17, ⟨[(6, .t (.int .i64))], [(2, [.t (.int .i64), .row 4, .row 10, .row 6, .row 8, .t (.slc tAChoice), .row 12, .row 14, .row 0, .row 1, .t (.slc tAFlow), .row 2])], [.own 50 tAPos, .own 50 tAPos, .own 55 tAHold, .dead, .own 118 tAMember, .dead, .own 120 tALot, .dead, .own 60 tAAccount, .dead, .own 124 tAInst, .dead, .own 126 tAGroup, .dead, .own 128 tAGive]⟩)] Tryz.func15 rfl (by decide +kernel) (fun W x => by kernel_rfl)
def pack_New_k : KC Tryz.prog := kls kp 78 [] [] [⟨255, [.v .bool, .row 5 (.int .u8)]⟩] (.ptr 0) (fun W x => pack_NewW W ) [] [] [] [] Tryz.func78 rfl (by decide +kernel) (fun W x => by kernel_rfl)
def pack_Writer_ok_k : KC Tryz.prog := kls kp 209 [⟨255, [.v .bool, .row 5 (.int .u8)]⟩] [.ptr 0] [⟨255, [.v .bool, .row 5 (.int .u8)]⟩] (.v .bool) (fun W x => pack_Writer_okW W x.1 x.2.1) [] [] [] [] Tryz.func209 rfl (by decide +kernel) (fun W x => by kernel_rfl)
def pack_folded_k : KC Tryz.prog := kes kp 322 (.pair (.int .i64) .unit) (.v (.int .u64)) (fun W x => pack_foldedW W x.1) [] [] [] [] Tryz.func322 rfl (by decide +kernel) (fun W x => by kernel_rfl)
def pack_Writer_one_k : KC Tryz.prog := kls kp 321 [⟨255, [.v .bool, .row 5 (.int .u8)]⟩] [.ptr 0, .v (.int .u64)] [⟨255, [.v .bool, .row 5 (.int .u8)]⟩] .unit (fun W x => pack_Writer_oneW W x.1 x.2.1 x.2.2.1) [] [] [] [(0, ⟨[(1, .t (.int .u64))], [(0, [.t .bool, .row 0])], [.own 5 (.int .u8)]⟩)] Tryz.func321 rfl (by decide +kernel) (fun W x => by kernel_rfl)
def pack_Writer_Int_k : KC Tryz.prog := kls kp 206 [⟨255, [.v .bool, .row 5 (.int .u8)]⟩] [.ptr 0, .v (.slc (.int .i64))] [⟨255, [.v .bool, .row 5 (.int .u8)]⟩] (.ptr 0) (fun W x => pack_Writer_IntW W x.1 x.2.1 x.2.2.1) [pack_Writer_ok_k, pack_folded_k, pack_Writer_one_k] [] [(7, ⟨[], [(0, [.t .bool, .row 0])], [.own 5 (.int .u8)]⟩)] [(3, ⟨[(11, .t (.int .i64))], [(0, [.t .bool, .row 0])], [.own 5 (.int .u8)]⟩)] Tryz.func206 rfl (by decide +kernel) (fun W x => by kernel_rfl)
def ledger_writer_nums_k : KC Tryz.prog := kls kp 79 [⟨255, [.v .bool, .row 5 (.int .u8)]⟩] [.agg [.ptr 0], .v (.slc (.int .i64))] [⟨255, [.v .bool, .row 5 (.int .u8)]⟩] .unit (fun W x => ledger_writer_numsW W x.1 x.2.1 x.2.2.1) [pack_Writer_Int_k] [] [] [(2, ⟨[(8, .t (.int .i64))], [(0, [.t .bool, .row 0])], [.own 5 (.int .u8)]⟩)] Tryz.func79 rfl (by decide +kernel) (fun W x => by kernel_rfl)
def ledger_writer_tables_k : KC Tryz.prog := kls kp 80 [⟨255, [.v .bool, .row 5 (.int .u8)]⟩] [.agg [.ptr 0], .v tAState] [⟨255, [.v .bool, .row 5 (.int .u8)]⟩] .unit (fun W x => ledger_writer_tablesW W x.1 x.2.1 x.2.2.1) [ledger_writer_nums_k, pack_Writer_Int_k] [] [] [(3, ⟨[(19, .t (.int .i64))], [(0, [.t .bool, .row 0])], [.own 5 (.int .u8)]⟩), (11, ⟨[(51, .t (.int .i64))], [(0, [.t .bool, .row 0])], [.own 5 (.int .u8)]⟩), (20, ⟨[(91, .t (.int .i64))], [(0, [.t .bool, .row 0])], [.own 5 (.int .u8)]⟩)] Tryz.func80 rfl (by decide +kernel) (fun W x => by kernel_rfl)
def ledger_writer_units_k : KC Tryz.prog := kls kp 207 [⟨255, [.v .bool, .row 5 (.int .u8)]⟩] [.agg [.ptr 0], .v (.slc tAUnit)] [⟨255, [.v .bool, .row 5 (.int .u8)]⟩] .unit (fun W x => ledger_writer_unitsW W x.1 x.2.1 x.2.2.1) [ledger_writer_nums_k] [] [] [(2, ⟨[(8, .t (.int .i64))], [(0, [.t .bool, .row 0])], [.own 5 (.int .u8)]⟩)] Tryz.func207 rfl (by decide +kernel) (fun W x => by kernel_rfl)
def ledger_writer_flag_k : KC Tryz.prog := kls kp 208 [⟨255, [.v .bool, .row 5 (.int .u8)]⟩] [.agg [.ptr 0], .v .bool] [⟨255, [.v .bool, .row 5 (.int .u8)]⟩] .unit (fun W x => ledger_writer_flagW W x.1 x.2.1 x.2.2.1) [ledger_writer_nums_k] [] [(4, ⟨[(4, .t (.int .i64))], [(0, [.t .bool, .row 0])], [.own 5 (.int .u8)]⟩)] [] Tryz.func208 rfl (by decide +kernel) (fun W x => by kernel_rfl)
def ledger_writer_accounts_k : KC Tryz.prog := kls kp 81 [⟨255, [.v .bool, .row 5 (.int .u8)]⟩] [.agg [.ptr 0], .v tAState] [⟨255, [.v .bool, .row 5 (.int .u8)]⟩] .unit (fun W x => ledger_writer_accountsW W x.1 x.2.1 x.2.2.1) [ledger_writer_nums_k, ledger_writer_units_k, ledger_writer_flag_k] [] [] [(3, ⟨[(17, .t (.int .i64))], [(0, [.t .bool, .row 0])], [.own 5 (.int .u8)]⟩), (10, ⟨[(47, .t (.int .i64))], [(0, [.t .bool, .row 0])], [.own 5 (.int .u8)]⟩)] Tryz.func81 rfl (by decide +kernel) (fun W x => by kernel_rfl)
def ledger_writer_deals_k : KC Tryz.prog := kls kp 82 [⟨255, [.v .bool, .row 5 (.int .u8)]⟩] [.agg [.ptr 0], .v tAState] [⟨255, [.v .bool, .row 5 (.int .u8)]⟩] .unit (fun W x => ledger_writer_dealsW W x.1 x.2.1 x.2.2.1) [ledger_writer_nums_k, ledger_writer_units_k, pack_Writer_Int_k] [] [] [(3, ⟨[(17, .t (.int .i64))], [(0, [.t .bool, .row 0])], [.own 5 (.int .u8)]⟩), (12, ⟨[(54, .t (.int .i64))], [(0, [.t .bool, .row 0])], [.own 5 (.int .u8)]⟩)] Tryz.func82 rfl (by decide +kernel) (fun W x => by kernel_rfl)
def ledger_writer_book_k : KC Tryz.prog := kls kp 83 [⟨255, [.v .bool, .row 5 (.int .u8)]⟩] [.agg [.ptr 0], .v (.slc tAPos)] [⟨255, [.v .bool, .row 5 (.int .u8)]⟩] .unit (fun W x => ledger_writer_bookW W x.1 x.2.1 x.2.2.1) [ledger_writer_nums_k, ledger_writer_units_k, pack_Writer_Int_k] [] [] [(3, ⟨[(15, .t (.int .i64))], [(0, [.t .bool, .row 0])], [.own 5 (.int .u8)]⟩), (8, ⟨[(33, .t (.int .i64))], [(0, [.t .bool, .row 0])], [.own 5 (.int .u8)]⟩)] Tryz.func83 rfl (by decide +kernel) (fun W x => by kernel_rfl)
def ledger_writer_money_k : KC Tryz.prog := kls kp 84 [⟨255, [.v .bool, .row 5 (.int .u8)]⟩] [.agg [.ptr 0], .v tAState] [⟨255, [.v .bool, .row 5 (.int .u8)]⟩] .unit (fun W x => ledger_writer_moneyW W x.1 x.2.1 x.2.2.1) [ledger_writer_nums_k, ledger_writer_units_k, pack_Writer_Int_k] [] [] [(3, ⟨[(19, .t (.int .i64))], [(0, [.t .bool, .row 0])], [.own 5 (.int .u8)]⟩), (10, ⟨[(44, .t (.int .i64))], [(0, [.t .bool, .row 0])], [.own 5 (.int .u8)]⟩), (15, ⟨[(62, .t (.int .i64))], [(0, [.t .bool, .row 0])], [.own 5 (.int .u8)]⟩)] Tryz.func84 rfl (by decide +kernel) (fun W x => by kernel_rfl)
def slices_Clonebyte_byte_k : KC Tryz.prog := kes kp 210 (.pair (.slc (.int .u8)) .unit) (.own 5 (.int .u8)) (fun W x => slices_Clonebyte_byteW W x.1) [] [] [] [] Tryz.func210 rfl (by decide +kernel) (fun W x => by kernel_rfl)
def pack_Writer_Done_k : KC Tryz.prog := kls kp 85 [⟨255, [.v .bool, .row 5 (.int .u8)]⟩] [.ptr 0] [⟨255, [.v .bool, .row 5 (.int .u8)]⟩] (.own 5 (.int .u8)) (fun W x => pack_Writer_DoneW W x.1 x.2.1) [pack_Writer_ok_k, slices_Clonebyte_byte_k] [] [] [] Tryz.func85 rfl (by decide +kernel) (fun W x => by kernel_rfl)
def ledger_Encode_k : KC Tryz.prog := kes kp 17 (.pair tAState .unit) (.own 5 (.int .u8)) (fun W x => ledger_EncodeW W x.1) [pack_New_k, ledger_writer_nums_k, ledger_writer_tables_k, ledger_writer_accounts_k, ledger_writer_deals_k, ledger_writer_book_k, ledger_writer_money_k, pack_Writer_Done_k] [] [] [] Tryz.func17 rfl (by decide +kernel) (fun W x => by kernel_rfl)
def ref04_Int_k : KC Tryz.prog := kes kp 86 (.pair (.int .i64) .unit) (.own 5 (.int .u8)) (fun W x => ref04_IntW W x.1) [] [] [(5, ⟨[(3, .t (.int .u64))], [], []⟩)] [(6, ⟨[(3, .t (.int .u64)), (4, .row 1)], [], [.dead, .own 5 (.int .u8)]⟩)] Tryz.func86 rfl (by decide +kernel) (fun W x => by kernel_rfl)
def ref33_count_k : KC Tryz.prog := kls kp 87 [] [.row 5 (.int .u8), .v (.int .i64)] [] (.own 5 (.int .u8)) (fun W x => ref33_countW W x.1 x.2.1) [ref04_Int_k] [] [] [] Tryz.func87 rfl (by decide +kernel) (fun W x => by kernel_rfl)
def ref04_Ints_k : KC Tryz.prog := kes kp 211 (.pair (.slc (.int .i64)) .unit) (.own 5 (.int .u8)) (fun W x => ref04_IntsW W x.1) [ref04_Int_k] [] [] [(3, ⟨[(3, .row 1), (4, .t (.int .i64))], [], [.dead, .own 5 (.int .u8)]⟩)] Tryz.func211 rfl (by decide +kernel) (fun W x => by kernel_rfl)
def ref33_nums_k : KC Tryz.prog := kls kp 88 [] [.row 5 (.int .u8), .v (.slc (.int .i64))] [] (.own 5 (.int .u8)) (fun W x => ref33_numsW W x.1 x.2.1) [ref04_Ints_k] [] [] [] Tryz.func88 rfl (by decide +kernel) (fun W x => by kernel_rfl)
def ref33_positions_k : KC Tryz.prog := kls kp 89 [] [.row 5 (.int .u8), .v (.slc tAPos)] [] (.own 5 (.int .u8)) (fun W x => ref33_positionsW W x.1 x.2.1) [ref33_count_k, ref33_nums_k] [(5, [], (ofL [(0, true), (1, true), (2, true), (3, true), (4, true), (5, true), (6, true), (7, true), (8, true), (9, true), (10, true), (11, true), (12, true), (13, true), (14, true), (15, true), (16, true), (17, true), (18, true), (19, false), (20, false), (21, true)])), (9, [], (ofL [(0, true), (1, true), (2, true), (3, true), (4, true), (5, true), (6, true), (7, true), (8, true), (9, true), (10, true), (11, true), (12, true), (13, true), (14, true), (15, true), (16, true), (17, true), (18, true), (19, false), (20, false), (21, true)]))] [] [(3, ⟨[(0, .row 0), (5, .t (.int .i64))], [], [.own 5 (.int .u8)]⟩), (7, ⟨[(0, .row 0), (6, .t (.int .i64))], [], [.own 5 (.int .u8)]⟩)] Tryz.func89 rfl (by decide +kernel) (fun W x => by kernel_rfl)
def ref33_Encode_k : KC Tryz.prog := kes kp 18 (.pair tAState .unit) (.own 5 (.int .u8)) (fun W x => ref33_EncodeW W x.1) [ref04_Int_k, ref33_count_k, ref33_nums_k, ref33_positions_k] [(19, [], (ofL [(0, true), (1, true), (2, true), (3, true), (4, true), (5, true), (6, true), (7, true), (8, true), (9, true), (10, true), (11, true), (12, true), (13, true), (14, true), (15, true), (16, true), (17, true), (18, true), (19, false), (20, false), (21, true)])), (51, [], (ofL [(0, true), (1, true), (2, true), (4, true), (5, true), (3, false), (6, false), (7, true)])), (67, [], (ofL [(0, true), (1, true), (2, true), (3, true), (4, true), (5, true), (6, true), (7, true), (8, true), (9, true), (10, true), (11, true), (12, true), (13, true), (14, true), (15, true), (16, true), (17, true), (18, true), (19, false), (20, false), (21, true)]))] [(38, ⟨[(3, .row 0), (14, .t (.int .i64))], [], [.own 5 (.int .u8)]⟩)] [(4, ⟨[(3, .row 0), (4, .t (.int .i64))], [], [.own 5 (.int .u8)]⟩), (10, ⟨[(3, .row 0), (6, .t (.int .i64))], [], [.own 5 (.int .u8)]⟩), (17, ⟨[(3, .row 0), (8, .t (.int .i64))], [], [.own 5 (.int .u8)]⟩), (22, ⟨[(3, .row 0), (9, .t (.int .i64))], [], [.own 5 (.int .u8)]⟩), (27, ⟨[(3, .row 0), (11, .t (.int .i64))], [], [.own 5 (.int .u8)]⟩), (32, ⟨[(3, .row 0), (12, .t (.int .i64))], [], [.own 5 (.int .u8)]⟩), (41, ⟨[(3, .row 0), (15, .t (.int .i64))], [], [.own 5 (.int .u8)]⟩), (47, ⟨[(3, .row 0), (17, .t (.int .i64))], [], [.own 5 (.int .u8)]⟩), (54, ⟨[(3, .row 0), (19, .t (.int .i64))], [], [.own 5 (.int .u8)]⟩), (60, ⟨[(3, .row 0), (21, .t (.int .i64))], [], [.own 5 (.int .u8)]⟩), (65, ⟨[(3, .row 0), (23, .t (.int .i64))], [], [.own 5 (.int .u8)]⟩)] Tryz.func18 rfl (by decide +kernel) (fun W x => by kernel_rfl)
def ref01_Same_k : KC Tryz.prog := kes kp 16 (.pair (.slc (.int .u8)) (.pair (.slc (.int .u8)) .unit)) (.v .bool) (fun W x => ref01_SameW W x.1 x.2.1) [] [(6, [], (ofL [(0, true), (1, true), (2, true), (3, true), (4, true), (5, true), (6, true), (7, true), (8, true)]))] [] [(4, ⟨[(5, .t (.int .i64))], [], []⟩)] Tryz.func16 rfl (by decide +kernel) (fun W x => by kernel_rfl)
def ledger_Empty_k : KC Tryz.prog := kes kp 90 .unit (.v tAState) (fun W x => ledger_EmptyW W ) [] [] [] [] Tryz.func90 rfl (by decide +kernel) (fun W x => by kernel_rfl)
def pack_Open_k : KC Tryz.prog := kls kp 91 [] [.v (.slc (.int .u8))] [⟨262, [.v .bool, .row 5 (.int .u8), .v (.int .i64)]⟩] (.ptr 0) (fun W x => pack_OpenW W x.1) [slices_Clonebyte_byte_k] [] [] [] Tryz.func91 rfl (by decide +kernel) (fun W x => by kernel_rfl)
def pack_Reader_good_k : KC Tryz.prog := kls kp 323 [⟨262, [.v .bool, .v (.slc (.int .u8)), .v (.int .i64)]⟩] [.ptr 0] [⟨262, [.v .bool, .v (.slc (.int .u8)), .v (.int .i64)]⟩] (.v .bool) (fun W x => pack_Reader_goodW W x.1 x.2.1 x.2.2.1) [] [] [] [] Tryz.func323 rfl (by decide +kernel) (fun W x => by kernel_rfl)
def pack_Reader_fail_k : KC Tryz.prog := kls kp 326 [⟨262, [.v .bool, .v (.slc (.int .u8)), .v (.int .i64)]⟩] [.ptr 0, .v (.int .i64)] [⟨262, [.v .bool, .v (.slc (.int .u8)), .v (.int .i64)]⟩] .unit (fun W x => pack_Reader_failW W x.1 x.2.1 x.2.2.1 x.2.2.2.1) [] [] [] [] Tryz.func326 rfl (by decide +kernel) (fun W x => by kernel_rfl)
def pack_Reader_number_k : KC Tryz.prog := kls kp 324 [⟨262, [.v .bool, .v (.slc (.int .u8)), .v (.int .i64)]⟩] [.ptr 0] [⟨262, [.v .bool, .v (.slc (.int .u8)), .v (.int .i64)]⟩] (.pair (.v (.int .u64)) (.pair (.v .bool) .unit)) (fun W x => pack_Reader_numberW W x.1 x.2.1 x.2.2.1) [pack_Reader_fail_k] [] [(500048, ⟨[(48, .t .bool)], [], []⟩)] [(4, ⟨[(4, .t (.int .u64)), (5, .t (.int .i64))], [(0, [.t .bool, .t (.slc (.int .u8)), .t (.int .i64)])], []⟩)] Tryz.func324 rfl (by decide +kernel) (fun W x => by kernel_rfl)
def pack_unfolded_k : KC Tryz.prog := kes kp 325 (.pair (.int .u64) .unit) (.v (.int .i64)) (fun W x => pack_unfoldedW W x.1) [] [] [] [] Tryz.func325 rfl (by decide +kernel) (fun W x => by kernel_rfl)
def pack_Reader_Int_k : KC Tryz.prog := kls kp 212 [⟨262, [.v .bool, .v (.slc (.int .u8)), .v (.int .i64)]⟩] [.ptr 0, .v (.int .i64), .v (.int .i64)] [⟨262, [.v .bool, .v (.slc (.int .u8)), .v (.int .i64)]⟩] (.v (.int .i64)) (fun W x => pack_Reader_IntW W x.1 x.2.1 x.2.2.1 x.2.2.2.1 x.2.2.2.2.1) [pack_Reader_good_k, pack_Reader_number_k, pack_unfolded_k, pack_Reader_fail_k] [] [(500023, ⟨[(23, .t .bool)], [], []⟩)] [] Tryz.func212 rfl (by decide +kernel) (fun W x => by kernel_rfl)
def ledger_reader_num_k : KC Tryz.prog := kls kp 92 [⟨262, [.v .bool, .v (.slc (.int .u8)), .v (.int .i64)]⟩] [.agg [.ptr 0]] [⟨262, [.v .bool, .v (.slc (.int .u8)), .v (.int .i64)]⟩] (.v (.int .i64)) (fun W x => ledger_reader_numW W x.1 x.2.1 x.2.2.1) [pack_Reader_Int_k] [] [] [] Tryz.func92 rfl (by decide +kernel) (fun W x => by kernel_rfl)
def pack_Reader_Err_k : KC Tryz.prog := kls kp 233 [⟨262, [.v .bool, .v (.slc (.int .u8)), .v (.int .i64)]⟩] [.ptr 0] [⟨262, [.v .bool, .v (.slc (.int .u8)), .v (.int .i64)]⟩] (.v (.int .i64)) (fun W x => pack_Reader_ErrW W x.1 x.2.1 x.2.2.1) [] [] [] [] Tryz.func233 rfl (by decide +kernel) (fun W x => by kernel_rfl)
def ledger_reader_long_k : KC Tryz.prog := kls kp 100 [⟨262, [.v .bool, .v (.slc (.int .u8)), .v (.int .i64)]⟩] [.agg [.ptr 0]] [⟨262, [.v .bool, .v (.slc (.int .u8)), .v (.int .i64)]⟩] (.v (.int .i64)) (fun W x => ledger_reader_longW W x.1 x.2.1 x.2.2.1) [pack_Reader_Int_k] [] [] [] Tryz.func100 rfl (by decide +kernel) (fun W x => by kernel_rfl)
def ledger_reader_tables_1_k : KC Tryz.prog := kls kp 214 [⟨148, [.ptr 1]⟩, ⟨262, [.v .bool, .v (.slc (.int .u8)), .v (.int .i64)]⟩] [.ptr 0] [⟨148, [.ptr 1]⟩, ⟨262, [.v .bool, .v (.slc (.int .u8)), .v (.int .i64)]⟩] (.v tAMember) (fun W x => ledger_reader_tables_1W W x.1 x.2.1 x.2.2.1) [ledger_reader_num_k, ledger_reader_long_k] [(1, [1, 2], (ofL [(0, true), (2, true), (4, true), (6, true), (1, false), (3, false), (5, false), (7, false), (8, true), (9, false)]))] [] [] Tryz.func214 rfl (by decide +kernel) (fun W x => by kernel_rfl)
def ledger_list_ledger_reader_tables_1_k : KC Tryz.prog := kls kp 213 [⟨262, [.v .bool, .v (.slc (.int .u8)), .v (.int .i64)]⟩, ⟨148, [.ptr 0]⟩] [.agg [.ptr 0], .fn 214 [.ptr 1]] [⟨262, [.v .bool, .v (.slc (.int .u8)), .v (.int .i64)]⟩, ⟨148, [.ptr 0]⟩] (.own 118 tAMember) (fun W x => ledger_list_ledger_reader_tables_1W W x.1 x.2.1 x.2.2.1) [pack_Reader_Int_k, pack_Reader_Err_k, ledger_reader_tables_1_k] [] [(6, ⟨[(5, .row 1)], [(0, [.t .bool, .t (.slc (.int .u8)), .t (.int .i64)]), (1, [.own 0 0])], [.dead, .own 118 tAMember]⟩)] [(3, ⟨[(5, .row 1), (6, .t (.int .i64))], [(0, [.t .bool, .t (.slc (.int .u8)), .t (.int .i64)]), (1, [.own 0 0])], [.dead, .own 118 tAMember]⟩)] Tryz.func213 rfl (by decide +kernel) (fun W x => by kernel_rfl)
def ledger_list_ledger_reader_long_k : KC Tryz.prog := kls kp 217 [⟨262, [.v .bool, .v (.slc (.int .u8)), .v (.int .i64)]⟩] [.agg [.ptr 0], .fn 1000100 [.agg [.ptr 0]]] [⟨262, [.v .bool, .v (.slc (.int .u8)), .v (.int .i64)]⟩] (.own 2 (.int .i64)) (fun W x => ledger_list_ledger_reader_longW W x.1 x.2.1 x.2.2.1) [pack_Reader_Int_k, pack_Reader_Err_k, ledger_reader_long_k] [] [(6, ⟨[(5, .row 1)], [(0, [.t .bool, .t (.slc (.int .u8)), .t (.int .i64)])], [.dead, .own 2 (.int .i64)]⟩)] [(3, ⟨[(5, .row 1), (6, .t (.int .i64))], [(0, [.t .bool, .t (.slc (.int .u8)), .t (.int .i64)])], [.dead, .own 2 (.int .i64)]⟩)] Tryz.func217 rfl (by decide +kernel) (fun W x => by kernel_rfl)
def ledger_reader_tables_2_k : KC Tryz.prog := kls kp 216 [⟨148, [.ptr 1]⟩, ⟨262, [.v .bool, .v (.slc (.int .u8)), .v (.int .i64)]⟩] [.ptr 0] [⟨148, [.ptr 1]⟩, ⟨262, [.v .bool, .v (.slc (.int .u8)), .v (.int .i64)]⟩] (.v tAInst) (fun W x => ledger_reader_tables_2W W x.1 x.2.1 x.2.2.1) [ledger_reader_num_k, ledger_reader_long_k, ledger_list_ledger_reader_long_k] [(1, [1, 2], (ofL [(0, true), (2, true), (4, true), (6, true), (8, true), (9, true), (10, true), (1, false), (3, false), (5, false), (7, false), (11, false), (12, true), (13, false)]))] [] [] Tryz.func216 rfl (by decide +kernel) (fun W x => by kernel_rfl)
def ledger_list_ledger_reader_tables_2_k : KC Tryz.prog := kls kp 215 [⟨262, [.v .bool, .v (.slc (.int .u8)), .v (.int .i64)]⟩, ⟨148, [.ptr 0]⟩] [.agg [.ptr 0], .fn 216 [.ptr 1]] [⟨262, [.v .bool, .v (.slc (.int .u8)), .v (.int .i64)]⟩, ⟨148, [.ptr 0]⟩] (.own 124 tAInst) (fun W x => ledger_list_ledger_reader_tables_2W W x.1 x.2.1 x.2.2.1) [pack_Reader_Int_k, pack_Reader_Err_k, ledger_reader_tables_2_k] [] [(6, ⟨[(5, .row 1)], [(0, [.t .bool, .t (.slc (.int .u8)), .t (.int .i64)]), (1, [.own 0 0])], [.dead, .own 124 tAInst]⟩)] [(3, ⟨[(5, .row 1), (6, .t (.int .i64))], [(0, [.t .bool, .t (.slc (.int .u8)), .t (.int .i64)]), (1, [.own 0 0])], [.dead, .own 124 tAInst]⟩)] Tryz.func215 rfl (by decide +kernel) (fun W x => by kernel_rfl)
def ledger_reader_tables_3_k : KC Tryz.prog := kls kp 219 [⟨148, [.ptr 1]⟩, ⟨262, [.v .bool, .v (.slc (.int .u8)), .v (.int .i64)]⟩] [.ptr 0] [⟨148, [.ptr 1]⟩, ⟨262, [.v .bool, .v (.slc (.int .u8)), .v (.int .i64)]⟩] (.v tALot) (fun W x => ledger_reader_tables_3W W x.1 x.2.1 x.2.2.1) [ledger_reader_num_k, ledger_reader_long_k] [(1, [1, 2], (ofL [(0, true), (2, true), (4, true), (1, false), (3, false), (5, false), (6, true), (7, false)]))] [] [] Tryz.func219 rfl (by decide +kernel) (fun W x => by kernel_rfl)
def ledger_list_ledger_reader_tables_3_k : KC Tryz.prog := kls kp 218 [⟨262, [.v .bool, .v (.slc (.int .u8)), .v (.int .i64)]⟩, ⟨148, [.ptr 0]⟩] [.agg [.ptr 0], .fn 219 [.ptr 1]] [⟨262, [.v .bool, .v (.slc (.int .u8)), .v (.int .i64)]⟩, ⟨148, [.ptr 0]⟩] (.own 120 tALot) (fun W x => ledger_list_ledger_reader_tables_3W W x.1 x.2.1 x.2.2.1) [pack_Reader_Int_k, pack_Reader_Err_k, ledger_reader_tables_3_k] [] [(6, ⟨[(5, .row 1)], [(0, [.t .bool, .t (.slc (.int .u8)), .t (.int .i64)]), (1, [.own 0 0])], [.dead, .own 120 tALot]⟩)] [(3, ⟨[(5, .row 1), (6, .t (.int .i64))], [(0, [.t .bool, .t (.slc (.int .u8)), .t (.int .i64)]), (1, [.own 0 0])], [.dead, .own 120 tALot]⟩)] Tryz.func218 rfl (by decide +kernel) (fun W x => by kernel_rfl)
def ledger_reader_tables_k : KC Tryz.prog := kls kp 93 [⟨262, [.v .bool, .v (.slc (.int .u8)), .v (.int .i64)]⟩, ⟨33, [.v (.int .i64), .row 118 tAMember, .row 124 tAInst, .row 120 tALot, .row 60 tAAccount, .v (.slc tAChoice), .row 126 tAGroup, .row 128 tAGive, .v (.slc tAPos), .v (.slc tAPos), .v (.slc tAFlow), .v (.slc tAHold)]⟩] [.agg [.ptr 0], .ptr 1] [⟨262, [.v .bool, .v (.slc (.int .u8)), .v (.int .i64)]⟩, ⟨33, [.v (.int .i64), .row 118 tAMember, .row 124 tAInst, .row 120 tALot, .row 60 tAAccount, .v (.slc tAChoice), .row 126 tAGroup, .row 128 tAGive, .v (.slc tAPos), .v (.slc tAPos), .v (.slc tAFlow), .v (.slc tAHold)]⟩] .unit (fun W x => ledger_reader_tablesW W x.1 x.2.1 x.2.2.1 x.2.2.2.1 x.2.2.2.2.1 x.2.2.2.2.2.1 x.2.2.2.2.2.2.1 x.2.2.2.2.2.2.2.1 x.2.2.2.2.2.2.2.2.1 x.2.2.2.2.2.2.2.2.2.1 x.2.2.2.2.2.2.2.2.2.2.1 x.2.2.2.2.2.2.2.2.2.2.2.1 x.2.2.2.2.2.2.2.2.2.2.2.2.1 x.2.2.2.2.2.2.2.2.2.2.2.2.2.1 x.2.2.2.2.2.2.2.2.2.2.2.2.2.2.1) [ledger_list_ledger_reader_tables_1_k, ledger_list_ledger_reader_tables_2_k, ledger_list_ledger_reader_tables_3_k] [] [] [] Tryz.func93 rfl (by decide +kernel) (fun W x => by kernel_rfl)
def ledger_list_ledger_reader_num_k : KC Tryz.prog := kls kp 222 [⟨262, [.v .bool, .v (.slc (.int .u8)), .v (.int .i64)]⟩] [.agg [.ptr 0], .fn 1000092 [.agg [.ptr 0]]] [⟨262, [.v .bool, .v (.slc (.int .u8)), .v (.int .i64)]⟩] (.own 3 (.int .i64)) (fun W x => ledger_list_ledger_reader_numW W x.1 x.2.1 x.2.2.1) [pack_Reader_Int_k, pack_Reader_Err_k, ledger_reader_num_k] [] [(6, ⟨[(5, .row 1)], [(0, [.t .bool, .t (.slc (.int .u8)), .t (.int .i64)])], [.dead, .own 3 (.int .i64)]⟩)] [(3, ⟨[(5, .row 1), (6, .t (.int .i64))], [(0, [.t .bool, .t (.slc (.int .u8)), .t (.int .i64)])], [.dead, .own 3 (.int .i64)]⟩)] Tryz.func222 rfl (by decide +kernel) (fun W x => by kernel_rfl)
def ledger_reader_accounts_1_k : KC Tryz.prog := kls kp 221 [⟨148, [.ptr 1]⟩, ⟨262, [.v .bool, .v (.slc (.int .u8)), .v (.int .i64)]⟩] [.ptr 0] [⟨148, [.ptr 1]⟩, ⟨262, [.v .bool, .v (.slc (.int .u8)), .v (.int .i64)]⟩] (.v tAAccount) (fun W x => ledger_reader_accounts_1W W x.1 x.2.1 x.2.2.1) [ledger_reader_num_k, ledger_list_ledger_reader_num_k] [(1, [1, 2], (ofL [(0, true), (2, true), (4, true), (6, true), (7, true), (8, true), (1, false), (3, false), (5, false), (9, false), (10, true), (11, false)]))] [] [] Tryz.func221 rfl (by decide +kernel) (fun W x => by kernel_rfl)
def ledger_list_ledger_reader_accounts_1_k : KC Tryz.prog := kls kp 220 [⟨262, [.v .bool, .v (.slc (.int .u8)), .v (.int .i64)]⟩, ⟨148, [.ptr 0]⟩] [.agg [.ptr 0], .fn 221 [.ptr 1]] [⟨262, [.v .bool, .v (.slc (.int .u8)), .v (.int .i64)]⟩, ⟨148, [.ptr 0]⟩] (.own 60 tAAccount) (fun W x => ledger_list_ledger_reader_accounts_1W W x.1 x.2.1 x.2.2.1) [pack_Reader_Int_k, pack_Reader_Err_k, ledger_reader_accounts_1_k] [] [(6, ⟨[(5, .row 1)], [(0, [.t .bool, .t (.slc (.int .u8)), .t (.int .i64)]), (1, [.own 0 0])], [.dead, .own 60 tAAccount]⟩)] [(3, ⟨[(5, .row 1), (6, .t (.int .i64))], [(0, [.t .bool, .t (.slc (.int .u8)), .t (.int .i64)]), (1, [.own 0 0])], [.dead, .own 60 tAAccount]⟩)] Tryz.func220 rfl (by decide +kernel) (fun W x => by kernel_rfl)
def ledger_reader_unit_k : KC Tryz.prog := kls kp 99 [⟨262, [.v .bool, .v (.slc (.int .u8)), .v (.int .i64)]⟩] [.agg [.ptr 0]] [⟨262, [.v .bool, .v (.slc (.int .u8)), .v (.int .i64)]⟩] (.v tAUnit) (fun W x => ledger_reader_unitW W x.1 x.2.1 x.2.2.1) [ledger_reader_num_k] [(1, [0, 2], (ofL [(0, true), (2, true), (1, false), (3, false), (4, true), (5, false)]))] [] [] Tryz.func99 rfl (by decide +kernel) (fun W x => by kernel_rfl)
def ledger_reader_accounts_2_k : KC Tryz.prog := kls kp 224 [⟨148, [.ptr 1]⟩, ⟨262, [.v .bool, .v (.slc (.int .u8)), .v (.int .i64)]⟩] [.ptr 0] [⟨148, [.ptr 1]⟩, ⟨262, [.v .bool, .v (.slc (.int .u8)), .v (.int .i64)]⟩] (.v tAChoice) (fun W x => ledger_reader_accounts_2W W x.1 x.2.1 x.2.2.1) [ledger_reader_unit_k, pack_Reader_Int_k] [(1, [1, 2], (ofL [(0, true), (2, true), (4, true), (5, true), (1, false), (3, false), (6, false), (7, true), (8, true), (9, false)]))] [] [] Tryz.func224 rfl (by decide +kernel) (fun W x => by kernel_rfl)
def ledger_list_ledger_reader_accounts_2_k : KC Tryz.prog := kls kp 223 [⟨262, [.v .bool, .v (.slc (.int .u8)), .v (.int .i64)]⟩, ⟨148, [.ptr 0]⟩] [.agg [.ptr 0], .fn 224 [.ptr 1]] [⟨262, [.v .bool, .v (.slc (.int .u8)), .v (.int .i64)]⟩, ⟨148, [.ptr 0]⟩] (.own 140 tAChoice) (fun W x => ledger_list_ledger_reader_accounts_2W W x.1 x.2.1 x.2.2.1) [pack_Reader_Int_k, pack_Reader_Err_k, ledger_reader_accounts_2_k] [] [(6, ⟨[(5, .row 1)], [(0, [.t .bool, .t (.slc (.int .u8)), .t (.int .i64)]), (1, [.own 0 0])], [.dead, .own 140 tAChoice]⟩)] [(3, ⟨[(5, .row 1), (6, .t (.int .i64))], [(0, [.t .bool, .t (.slc (.int .u8)), .t (.int .i64)]), (1, [.own 0 0])], [.dead, .own 140 tAChoice]⟩)] Tryz.func223 rfl (by decide +kernel) (fun W x => by kernel_rfl)
def ledger_reader_accounts_k : KC Tryz.prog := kls kp 94 [⟨262, [.v .bool, .v (.slc (.int .u8)), .v (.int .i64)]⟩, ⟨33, [.v (.int .i64), .row 118 tAMember, .row 124 tAInst, .row 120 tALot, .row 60 tAAccount, .v (.slc tAChoice), .row 126 tAGroup, .row 128 tAGive, .v (.slc tAPos), .v (.slc tAPos), .v (.slc tAFlow), .v (.slc tAHold)]⟩] [.agg [.ptr 0], .ptr 1] [⟨262, [.v .bool, .v (.slc (.int .u8)), .v (.int .i64)]⟩, ⟨33, [.v (.int .i64), .row 118 tAMember, .row 124 tAInst, .row 120 tALot, .row 60 tAAccount, .row 140 tAChoice, .row 126 tAGroup, .row 128 tAGive, .v (.slc tAPos), .v (.slc tAPos), .v (.slc tAFlow), .v (.slc tAHold)]⟩] .unit (fun W x => ledger_reader_accountsW W x.1 x.2.1 x.2.2.1 x.2.2.2.1 x.2.2.2.2.1 x.2.2.2.2.2.1 x.2.2.2.2.2.2.1 x.2.2.2.2.2.2.2.1 x.2.2.2.2.2.2.2.2.1 x.2.2.2.2.2.2.2.2.2.1 x.2.2.2.2.2.2.2.2.2.2.1 x.2.2.2.2.2.2.2.2.2.2.2.1 x.2.2.2.2.2.2.2.2.2.2.2.2.1 x.2.2.2.2.2.2.2.2.2.2.2.2.2.1 x.2.2.2.2.2.2.2.2.2.2.2.2.2.2.1) [ledger_list_ledger_reader_accounts_1_k, ledger_list_ledger_reader_accounts_2_k] [] [] [] Tryz.func94 rfl (by decide +kernel) (fun W x => by kernel_rfl)
def ledger_reader_deals_1_k : KC Tryz.prog := kls kp 226 [⟨148, [.ptr 1]⟩, ⟨262, [.v .bool, .v (.slc (.int .u8)), .v (.int .i64)]⟩] [.ptr 0] [⟨148, [.ptr 1]⟩, ⟨262, [.v .bool, .v (.slc (.int .u8)), .v (.int .i64)]⟩] (.v tAGroup) (fun W x => ledger_reader_deals_1W W x.1 x.2.1 x.2.2.1) [ledger_reader_num_k, ledger_reader_unit_k, ledger_reader_long_k] [(1, [1, 2], (ofL [(0, true), (2, true), (4, true), (6, true), (8, true), (1, false), (3, false), (5, false), (7, false), (9, false), (10, true), (11, false)]))] [] [] Tryz.func226 rfl (by decide +kernel) (fun W x => by kernel_rfl)
def ledger_list_ledger_reader_deals_1_k : KC Tryz.prog := kls kp 225 [⟨262, [.v .bool, .v (.slc (.int .u8)), .v (.int .i64)]⟩, ⟨148, [.ptr 0]⟩] [.agg [.ptr 0], .fn 226 [.ptr 1]] [⟨262, [.v .bool, .v (.slc (.int .u8)), .v (.int .i64)]⟩, ⟨148, [.ptr 0]⟩] (.own 126 tAGroup) (fun W x => ledger_list_ledger_reader_deals_1W W x.1 x.2.1 x.2.2.1) [pack_Reader_Int_k, pack_Reader_Err_k, ledger_reader_deals_1_k] [] [(6, ⟨[(5, .row 1)], [(0, [.t .bool, .t (.slc (.int .u8)), .t (.int .i64)]), (1, [.own 0 0])], [.dead, .own 126 tAGroup]⟩)] [(3, ⟨[(5, .row 1), (6, .t (.int .i64))], [(0, [.t .bool, .t (.slc (.int .u8)), .t (.int .i64)]), (1, [.own 0 0])], [.dead, .own 126 tAGroup]⟩)] Tryz.func225 rfl (by decide +kernel) (fun W x => by kernel_rfl)
def ledger_reader_leg_k : KC Tryz.prog := kls kp 229 [⟨262, [.v .bool, .v (.slc (.int .u8)), .v (.int .i64)]⟩] [.agg [.ptr 0]] [⟨262, [.v .bool, .v (.slc (.int .u8)), .v (.int .i64)]⟩] (.v tAUnit) (fun W x => ledger_reader_legW W x.1 x.2.1 x.2.2.1) [ledger_reader_num_k, ledger_reader_long_k] [(1, [0, 2], (ofL [(0, true), (2, true), (1, false), (3, false), (4, true), (5, false)]))] [] [] Tryz.func229 rfl (by decide +kernel) (fun W x => by kernel_rfl)
def ledger_reader_deals_2_k : KC Tryz.prog := kls kp 228 [⟨148, [.ptr 1]⟩, ⟨262, [.v .bool, .v (.slc (.int .u8)), .v (.int .i64)]⟩] [.ptr 0] [⟨148, [.ptr 1]⟩, ⟨262, [.v .bool, .v (.slc (.int .u8)), .v (.int .i64)]⟩] (.v tAGive) (fun W x => ledger_reader_deals_2W W x.1 x.2.1 x.2.2.1) [ledger_reader_num_k, ledger_reader_unit_k, ledger_reader_leg_k, ledger_reader_long_k] [(1, [1], (.rd 0 (.rd 2 (.rd 4 (.rd 6 (.rd 8 (.two 1 11 (.two 3 11 (.two 5 11 (.two 7 11 (.two 9 11 (ofL [(10, true), (11, false), (12, false)]) (ofL [(9, false), (10, true), (12, false)])) (ofL [(7, false), (9, false), (10, true), (12, false)])) (ofL [(5, false), (7, false), (9, false), (10, true), (12, false)])) (ofL [(3, false), (5, false), (7, false), (9, false), (10, true), (12, false)])) (ofL [(1, false), (3, false), (5, false), (7, false), (9, false), (10, true), (12, false)])))))))), (2, [1, 3], (ofL [(0, true), (2, true), (4, true), (1, false), (6, true), (3, false), (5, false), (7, false), (8, true), (9, false), (10, true), (11, false)]))] [] [] Tryz.func228 rfl (by decide +kernel) (fun W x => by kernel_rfl)
def ledger_list_ledger_reader_deals_2_k : KC Tryz.prog := kls kp 227 [⟨262, [.v .bool, .v (.slc (.int .u8)), .v (.int .i64)]⟩, ⟨148, [.ptr 0]⟩] [.agg [.ptr 0], .fn 228 [.ptr 1]] [⟨262, [.v .bool, .v (.slc (.int .u8)), .v (.int .i64)]⟩, ⟨148, [.ptr 0]⟩] (.own 128 tAGive) (fun W x => ledger_list_ledger_reader_deals_2W W x.1 x.2.1 x.2.2.1) [pack_Reader_Int_k, pack_Reader_Err_k, ledger_reader_deals_2_k] [] [(6, ⟨[(5, .row 1)], [(0, [.t .bool, .t (.slc (.int .u8)), .t (.int .i64)]), (1, [.own 0 0])], [.dead, .own 128 tAGive]⟩)] [(3, ⟨[(5, .row 1), (6, .t (.int .i64))], [(0, [.t .bool, .t (.slc (.int .u8)), .t (.int .i64)]), (1, [.own 0 0])], [.dead, .own 128 tAGive]⟩)] Tryz.func227 rfl (by decide +kernel) (fun W x => by kernel_rfl)
def ledger_reader_deals_k : KC Tryz.prog := kls kp 95 [⟨262, [.v .bool, .v (.slc (.int .u8)), .v (.int .i64)]⟩, ⟨33, [.v (.int .i64), .row 118 tAMember, .row 124 tAInst, .row 120 tALot, .row 60 tAAccount, .v (.slc tAChoice), .row 126 tAGroup, .row 128 tAGive, .v (.slc tAPos), .v (.slc tAPos), .v (.slc tAFlow), .v (.slc tAHold)]⟩] [.agg [.ptr 0], .ptr 1] [⟨262, [.v .bool, .v (.slc (.int .u8)), .v (.int .i64)]⟩, ⟨33, [.v (.int .i64), .row 118 tAMember, .row 124 tAInst, .row 120 tALot, .row 60 tAAccount, .v (.slc tAChoice), .row 126 tAGroup, .row 128 tAGive, .v (.slc tAPos), .v (.slc tAPos), .v (.slc tAFlow), .v (.slc tAHold)]⟩] .unit (fun W x => ledger_reader_dealsW W x.1 x.2.1 x.2.2.1 x.2.2.2.1 x.2.2.2.2.1 x.2.2.2.2.2.1 x.2.2.2.2.2.2.1 x.2.2.2.2.2.2.2.1 x.2.2.2.2.2.2.2.2.1 x.2.2.2.2.2.2.2.2.2.1 x.2.2.2.2.2.2.2.2.2.2.1 x.2.2.2.2.2.2.2.2.2.2.2.1 x.2.2.2.2.2.2.2.2.2.2.2.2.1 x.2.2.2.2.2.2.2.2.2.2.2.2.2.1 x.2.2.2.2.2.2.2.2.2.2.2.2.2.2.1) [ledger_list_ledger_reader_deals_1_k, ledger_list_ledger_reader_deals_2_k] [] [] [] Tryz.func95 rfl (by decide +kernel) (fun W x => by kernel_rfl)
def ledger_list_ledger_reader_leg_k : KC Tryz.prog := kls kp 232 [⟨262, [.v .bool, .v (.slc (.int .u8)), .v (.int .i64)]⟩] [.agg [.ptr 0], .fn 1000229 [.agg [.ptr 0]]] [⟨262, [.v .bool, .v (.slc (.int .u8)), .v (.int .i64)]⟩] (.own 52 tAUnit) (fun W x => ledger_list_ledger_reader_legW W x.1 x.2.1 x.2.2.1) [pack_Reader_Int_k, pack_Reader_Err_k, ledger_reader_leg_k] [] [(6, ⟨[(5, .row 1)], [(0, [.t .bool, .t (.slc (.int .u8)), .t (.int .i64)])], [.dead, .own 52 tAUnit]⟩)] [(3, ⟨[(5, .row 1), (6, .t (.int .i64))], [(0, [.t .bool, .t (.slc (.int .u8)), .t (.int .i64)])], [.dead, .own 52 tAUnit]⟩)] Tryz.func232 rfl (by decide +kernel) (fun W x => by kernel_rfl)
def ledger_reader_book_1_k : KC Tryz.prog := kls kp 231 [⟨148, [.ptr 1]⟩, ⟨262, [.v .bool, .v (.slc (.int .u8)), .v (.int .i64)]⟩] [.ptr 0] [⟨148, [.ptr 1]⟩, ⟨262, [.v .bool, .v (.slc (.int .u8)), .v (.int .i64)]⟩] (.v tAPos) (fun W x => ledger_reader_book_1W W x.1 x.2.1 x.2.2.1) [ledger_reader_unit_k, ledger_list_ledger_reader_leg_k] [(1, [1, 2], (ofL [(0, true), (2, true), (3, true), (4, true), (1, false), (5, false), (6, true), (7, false)]))] [] [] Tryz.func231 rfl (by decide +kernel) (fun W x => by kernel_rfl)
def ledger_list_ledger_reader_book_1_k : KC Tryz.prog := kls kp 230 [⟨262, [.v .bool, .v (.slc (.int .u8)), .v (.int .i64)]⟩, ⟨148, [.ptr 0]⟩] [.agg [.ptr 0], .fn 231 [.ptr 1]] [⟨262, [.v .bool, .v (.slc (.int .u8)), .v (.int .i64)]⟩, ⟨148, [.ptr 0]⟩] (.own 50 tAPos) (fun W x => ledger_list_ledger_reader_book_1W W x.1 x.2.1 x.2.2.1) [pack_Reader_Int_k, pack_Reader_Err_k, ledger_reader_book_1_k] [] [(6, ⟨[(5, .row 1)], [(0, [.t .bool, .t (.slc (.int .u8)), .t (.int .i64)]), (1, [.own 0 0])], [.dead, .own 50 tAPos]⟩)] [(3, ⟨[(5, .row 1), (6, .t (.int .i64))], [(0, [.t .bool, .t (.slc (.int .u8)), .t (.int .i64)]), (1, [.own 0 0])], [.dead, .own 50 tAPos]⟩)] Tryz.func230 rfl (by decide +kernel) (fun W x => by kernel_rfl)
def ledger_reader_book_k : KC Tryz.prog := kls kp 96 [⟨262, [.v .bool, .v (.slc (.int .u8)), .v (.int .i64)]⟩] [.agg [.ptr 0]] [⟨262, [.v .bool, .v (.slc (.int .u8)), .v (.int .i64)]⟩] (.own 50 tAPos) (fun W x => ledger_reader_bookW W x.1 x.2.1 x.2.2.1) [ledger_list_ledger_reader_book_1_k] [] [] [] Tryz.func96 rfl (by decide +kernel) (fun W x => by kernel_rfl)
def ledger_Decode_1_k : KC Tryz.prog := kls kp 98 [⟨148, [.ptr 1]⟩, ⟨262, [.v .bool, .v (.slc (.int .u8)), .v (.int .i64)]⟩] [.ptr 0] [⟨148, [.ptr 1]⟩, ⟨262, [.v .bool, .v (.slc (.int .u8)), .v (.int .i64)]⟩] (.v tAFlow) (fun W x => ledger_Decode_1W W x.1 x.2.1 x.2.2.1) [ledger_reader_unit_k, ledger_reader_long_k] [(1, [1, 2], (ofL [(0, true), (2, true), (1, false), (3, false), (4, true), (5, false)]))] [] [] Tryz.func98 rfl (by decide +kernel) (fun W x => by kernel_rfl)
def ledger_list_ledger_Decode_1_k : KC Tryz.prog := kls kp 97 [⟨262, [.v .bool, .v (.slc (.int .u8)), .v (.int .i64)]⟩, ⟨148, [.ptr 0]⟩] [.agg [.ptr 0], .fn 98 [.ptr 1]] [⟨262, [.v .bool, .v (.slc (.int .u8)), .v (.int .i64)]⟩, ⟨148, [.ptr 0]⟩] (.own 143 tAFlow) (fun W x => ledger_list_ledger_Decode_1W W x.1 x.2.1 x.2.2.1) [pack_Reader_Int_k, pack_Reader_Err_k, ledger_Decode_1_k] [] [(6, ⟨[(5, .row 1)], [(0, [.t .bool, .t (.slc (.int .u8)), .t (.int .i64)]), (1, [.own 0 0])], [.dead, .own 143 tAFlow]⟩)] [(3, ⟨[(5, .row 1), (6, .t (.int .i64))], [(0, [.t .bool, .t (.slc (.int .u8)), .t (.int .i64)]), (1, [.own 0 0])], [.dead, .own 143 tAFlow]⟩)] Tryz.func97 rfl (by decide +kernel) (fun W x => by kernel_rfl)
def ledger_reader_lot_k : KC Tryz.prog := kls kp 104 [⟨262, [.v .bool, .v (.slc (.int .u8)), .v (.int .i64)]⟩] [.agg [.ptr 0]] [⟨262, [.v .bool, .v (.slc (.int .u8)), .v (.int .i64)]⟩] (.v tALot) (fun W x => ledger_reader_lotW W x.1 x.2.1 x.2.2.1) [ledger_reader_num_k, ledger_reader_long_k] [(1, [0, 2], (ofL [(0, true), (2, true), (4, true), (1, false), (3, false), (5, false), (6, true), (7, false)]))] [] [] Tryz.func104 rfl (by decide +kernel) (fun W x => by kernel_rfl)
def ledger_list_ledger_reader_lot_k : KC Tryz.prog := kls kp 103 [⟨262, [.v .bool, .v (.slc (.int .u8)), .v (.int .i64)]⟩] [.agg [.ptr 0], .fn 1000104 [.agg [.ptr 0]]] [⟨262, [.v .bool, .v (.slc (.int .u8)), .v (.int .i64)]⟩] (.own 57 tALot) (fun W x => ledger_list_ledger_reader_lotW W x.1 x.2.1 x.2.2.1) [pack_Reader_Int_k, pack_Reader_Err_k, ledger_reader_lot_k] [] [(6, ⟨[(5, .row 1)], [(0, [.t .bool, .t (.slc (.int .u8)), .t (.int .i64)])], [.dead, .own 57 tALot]⟩)] [(3, ⟨[(5, .row 1), (6, .t (.int .i64))], [(0, [.t .bool, .t (.slc (.int .u8)), .t (.int .i64)])], [.dead, .own 57 tALot]⟩)] Tryz.func103 rfl (by decide +kernel) (fun W x => by kernel_rfl)
def ledger_Decode_2_k : KC Tryz.prog := kls kp 102 [⟨148, [.ptr 1]⟩, ⟨262, [.v .bool, .v (.slc (.int .u8)), .v (.int .i64)]⟩] [.ptr 0] [⟨148, [.ptr 1]⟩, ⟨262, [.v .bool, .v (.slc (.int .u8)), .v (.int .i64)]⟩] (.v tAHold) (fun W x => ledger_Decode_2W W x.1 x.2.1 x.2.2.1) [ledger_reader_unit_k, ledger_list_ledger_reader_lot_k] [(1, [1, 2], (ofL [(0, true), (2, true), (3, true), (4, true), (1, false), (5, false), (6, true), (7, false)]))] [] [] Tryz.func102 rfl (by decide +kernel) (fun W x => by kernel_rfl)
def ledger_list_ledger_Decode_2_k : KC Tryz.prog := kls kp 101 [⟨262, [.v .bool, .v (.slc (.int .u8)), .v (.int .i64)]⟩, ⟨148, [.ptr 0]⟩] [.agg [.ptr 0], .fn 102 [.ptr 1]] [⟨262, [.v .bool, .v (.slc (.int .u8)), .v (.int .i64)]⟩, ⟨148, [.ptr 0]⟩] (.own 55 tAHold) (fun W x => ledger_list_ledger_Decode_2W W x.1 x.2.1 x.2.2.1) [pack_Reader_Int_k, pack_Reader_Err_k, ledger_Decode_2_k] [] [(6, ⟨[(5, .row 1)], [(0, [.t .bool, .t (.slc (.int .u8)), .t (.int .i64)]), (1, [.own 0 0])], [.dead, .own 55 tAHold]⟩)] [(3, ⟨[(5, .row 1), (6, .t (.int .i64))], [(0, [.t .bool, .t (.slc (.int .u8)), .t (.int .i64)]), (1, [.own 0 0])], [.dead, .own 55 tAHold]⟩)] Tryz.func101 rfl (by decide +kernel) (fun W x => by kernel_rfl)
def pack_Reader_End_k : KC Tryz.prog := kls kp 105 [⟨262, [.v .bool, .v (.slc (.int .u8)), .v (.int .i64)]⟩] [.ptr 0] [⟨262, [.v .bool, .v (.slc (.int .u8)), .v (.int .i64)]⟩] (.v (.int .i64)) (fun W x => pack_Reader_EndW W x.1 x.2.1 x.2.2.1) [pack_Reader_Err_k] [] [] [] Tryz.func105 rfl (by decide +kernel) (fun W x => by kernel_rfl)
def ledger_Units_k : KC Tryz.prog := kes kp 234 (.pair tAState .unit) (.own 47 tAUnit) (fun W x => ledger_UnitsW W x.1) [acct_Units_k] [] [] [(3, ⟨[(3, .row 1), (9, .t (.int .i64))], [], [.dead, .own 47 tAUnit]⟩)] Tryz.func234 rfl (by decide +kernel) (fun W x => by kernel_rfl)
def member_Check_k : KC Tryz.prog := kes kp 327 (.pair tAMember .unit) (.v (.int .i64)) (fun W x => member_CheckW W x.1) [] [] [(500040, ⟨[(40, .t .bool)], [], []⟩)] [] Tryz.func327 rfl (by decide +kernel) (fun W x => by kernel_rfl)
def inst_priced_k : KC Tryz.prog := kes kp 273 (.pair (.int .i64) .unit) (.v .bool) (fun W x => inst_pricedW W x.1) [] [] [] [] Tryz.func273 rfl (by decide +kernel) (fun W x => by kernel_rfl)
def inst_far_k : KC Tryz.prog := kes kp 353 (.pair (.int .i64) .unit) (.v .bool) (fun W x => inst_farW W x.1) [] [] [] [] Tryz.func353 rfl (by decide +kernel) (fun W x => by kernel_rfl)
def slices_IndexFuncint64_int64_inst_far_k : KC Tryz.prog := kls kp 399 [] [.v (.slc (.int .i64)), .fn 353 []] [] (.v (.int .i64)) (fun W x => slices_IndexFuncint64_int64_inst_farW W x.1) [inst_far_k] [] [] [(2, ⟨[(8, .t (.int .i64))], [], []⟩)] Tryz.func399 rfl (by decide +kernel) (fun W x => by kernel_rfl)
def slices_ContainsFuncint64_int64_inst_far_k : KC Tryz.prog := kls kp 352 [] [.v (.slc (.int .i64)), .fn 353 []] [] (.v .bool) (fun W x => slices_ContainsFuncint64_int64_inst_farW W x.1) [slices_IndexFuncint64_int64_inst_far_k] [] [] [] Tryz.func352 rfl (by decide +kernel) (fun W x => by kernel_rfl)
def inst_Check_k : KC Tryz.prog := kes kp 272 (.pair tAInst .unit) (.v (.int .i64)) (fun W x => inst_CheckW W x.1) [inst_priced_k, slices_ContainsFuncint64_int64_inst_far_k] [] [(2, ⟨[(3, .t .bool)], [], []⟩), (500046, ⟨[(46, .t .bool)], [], []⟩)] [] Tryz.func272 rfl (by decide +kernel) (fun W x => by kernel_rfl)
def member_at_1_k : KC Tryz.prog := kls kp 422 [⟨3, [.v (.int .i64)]⟩] [.v tAMember, .ptr 0] [⟨3, [.v (.int .i64)]⟩] (.v .bool) (fun W x => member_at_1W W x.1 x.2.1) [] [] [] [] Tryz.func422 rfl (by decide +kernel) (fun W x => by kernel_rfl)
def slices_IndexFuncapi_Member_api_Member_member_at_1_k : KC Tryz.prog := kls kp 421 [⟨3, [.v (.int .i64)]⟩] [.v (.slc tAMember), .fn 422 [.ptr 0]] [⟨3, [.v (.int .i64)]⟩] (.v (.int .i64)) (fun W x => slices_IndexFuncapi_Member_api_Member_member_at_1W W x.1 x.2.1) [member_at_1_k] [] [] [(2, ⟨[(8, .t (.int .i64))], [(0, [.t (.int .i64)])], []⟩)] Tryz.func421 rfl (by decide +kernel) (fun W x => by kernel_rfl)
def member_at_k : KC Tryz.prog := kes kp 398 (.pair (.slc tAMember) (.pair (.int .i64) .unit)) (.v (.int .i64)) (fun W x => member_atW W x.1 x.2.1) [slices_IndexFuncapi_Member_api_Member_member_at_1_k] [] [] [] Tryz.func398 rfl (by decide +kernel) (fun W x => by kernel_rfl)
def member_Find_k : KC Tryz.prog := kes kp 348 (.pair (.slc tAMember) (.pair (.int .i64) .unit)) (.pair (.v tAMember) (.pair (.v .bool) .unit)) (fun W x => member_FindW W x.1 x.2.1) [member_at_k] [] [] [] Tryz.func348 rfl (by decide +kernel) (fun W x => by kernel_rfl)
def acct_most_k : KC Tryz.prog := kes kp 419 (.pair (.int .i64) .unit) (.v (.int .i64)) (fun W x => acct_mostW W x.1) [] [] [] [] Tryz.func419 rfl (by decide +kernel) (fun W x => by kernel_rfl)
def acct_Check_k : KC Tryz.prog := kes kp 394 (.pair tAAccount .unit) (.v (.int .i64)) (fun W x => acct_CheckW W x.1) [acct_most_k] [(2, [], (ofL [(0, true), (1, true), (2, true), (3, true), (4, true), (5, true), (6, true), (7, true), (8, true), (9, true), (10, true), (11, true), (12, true), (13, true), (14, true), (15, true), (16, true), (17, true), (18, false), (19, true), (20, true)]))] [(2, ⟨[(3, .t .bool)], [], []⟩), (500045, ⟨[(45, .t .bool)], [], []⟩), (500059, ⟨[(59, .t .bool)], [], []⟩)] [(6, ⟨[(4, .t (.int .i64)), (49, .t (.int .i64))], [], []⟩)] Tryz.func394 rfl (by decide +kernel) (fun W x => by kernel_rfl)
def ledger_checker_accounts_k : KC Tryz.prog := kes kp 329 (.pair tLedgerChecker .unit) (.v .bool) (fun W x => ledger_checker_accountsW W x.1) [member_Find_k, acct_Check_k] [(5, [], (.rd 0 (.rd 1 (.rd 2 (.rd 3 (.op 4 (.rd 5 (.rd 6 (.rd 7 (.rd 8 (.rd 9 (.rd 10 (.rd 11 (.rd 12 (.rd 14 (.rd 15 (.rd 19 (.two 13 20 (.rd 16 (.rd 17 (.two 18 20 (ofL [(20, false), (21, true), (22, true), (23, true)]) (ofL [(18, false), (21, true), (22, true), (23, true)])))) (ofL [(13, false), (16, true), (17, true), (18, false), (21, true), (22, true), (23, true)])))))))))))))))))))] [(500048, ⟨[(48, .t .bool)], [], []⟩)] [(2, ⟨[(11, .t (.int .i64))], [], []⟩)] Tryz.func329 rfl (by decide +kernel) (fun W x => by kernel_rfl)
def ledger_checker_tables_k : KC Tryz.prog := kes kp 235 (.pair tLedgerChecker .unit) (.v .bool) (fun W x => ledger_checker_tablesW W x.1) [member_Check_k, inst_Check_k, asset_Check_k, ledger_checker_accounts_k] [(4, [], (.rd 0 (.op 1 (.rd 2 (.rd 3 (.rd 4 (.rd 5 (.rd 6 (.rd 7 (.rd 8 (.rd 10 (.rd 11 (.rd 15 (.two 9 16 (.rd 12 (.rd 13 (.two 14 16 (ofL [(16, false), (17, true), (18, true), (19, true)]) (ofL [(14, false), (17, true), (18, true), (19, true)])))) (ofL [(9, false), (12, true), (13, true), (14, false), (17, true), (18, true), (19, true)]))))))))))))))), (10, [], (.rd 0 (.op 1 (.rd 2 (.rd 3 (.rd 4 (.rd 5 (.rd 6 (.rd 7 (.rd 8 (.rd 10 (.rd 11 (.rd 15 (.two 9 16 (.rd 12 (.rd 13 (.two 14 16 (ofL [(16, false), (17, true), (18, true), (19, true)]) (ofL [(14, false), (17, true), (18, true), (19, true)])))) (ofL [(9, false), (12, true), (13, true), (14, false), (17, true), (18, true), (19, true)]))))))))))))))), (16, [], (.rd 0 (.op 1 (.rd 2 (.rd 3 (.rd 4 (.rd 5 (.rd 6 (.rd 7 (.rd 8 (.rd 10 (.rd 11 (.rd 15 (.two 9 16 (.rd 12 (.rd 13 (.two 14 16 (ofL [(16, false), (17, true), (18, true), (19, true)]) (ofL [(14, false), (17, true), (18, true), (19, true)])))) (ofL [(9, false), (12, true), (13, true), (14, false), (17, true), (18, true), (19, true)])))))))))))))))] [(500037, ⟨[(37, .t .bool)], [], []⟩), (500067, ⟨[(67, .t .bool)], [], []⟩), (500097, ⟨[(97, .t .bool)], [], []⟩)] [(2, ⟨[(13, .t (.int .i64))], [], []⟩), (8, ⟨[(43, .t (.int .i64))], [], []⟩), (14, ⟨[(73, .t (.int .i64))], [], []⟩)] Tryz.func235 rfl (by decide +kernel) (fun W x => by kernel_rfl)
def ledger_checker_unit_k : KC Tryz.prog := kes kp 330 (.pair tLedgerChecker (.pair tAUnit .unit)) (.v .bool) (fun W x => ledger_checker_unitW W x.1 x.2.1) [] [] [] [] Tryz.func330 rfl (by decide +kernel) (fun W x => by kernel_rfl)
def elect_Is_k : KC Tryz.prog := kes kp 331 (.pair (.slc tAChoice) .unit) (.v .bool) (fun W x => elect_IsW W x.1) [acct_Less_k] [(4, [], (ofL [(0, true), (1, true), (2, true), (3, true), (4, true), (5, true), (6, true), (7, true), (8, true), (9, true), (10, true), (11, true), (12, true), (13, true), (14, true), (15, true), (16, true), (17, false), (18, true), (19, true), (20, true)]))] [(500032, ⟨[(32, .t .bool)], [], []⟩)] [(2, ⟨[(7, .t (.int .i64))], [], []⟩)] Tryz.func331 rfl (by decide +kernel) (fun W x => by kernel_rfl)
def ledger_checker_choices_k : KC Tryz.prog := kes kp 236 (.pair tLedgerChecker .unit) (.v .bool) (fun W x => ledger_checker_choicesW W x.1) [ledger_checker_unit_k, elect_Is_k] [] [(500024, ⟨[(24, .t .bool)], [], []⟩)] [(2, ⟨[(9, .t (.int .i64))], [], []⟩)] Tryz.func236 rfl (by decide +kernel) (fun W x => by kernel_rfl)
def inst_at_1_k : KC Tryz.prog := kls kp 351 [⟨3, [.v (.int .i64)]⟩] [.v tAInst, .ptr 0] [⟨3, [.v (.int .i64)]⟩] (.v .bool) (fun W x => inst_at_1W W x.1 x.2.1) [] [] [] [] Tryz.func351 rfl (by decide +kernel) (fun W x => by kernel_rfl)
def slices_IndexFuncapi_Inst_api_Inst_inst_at_1_k : KC Tryz.prog := kls kp 350 [⟨3, [.v (.int .i64)]⟩] [.v (.slc tAInst), .fn 351 [.ptr 0]] [⟨3, [.v (.int .i64)]⟩] (.v (.int .i64)) (fun W x => slices_IndexFuncapi_Inst_api_Inst_inst_at_1W W x.1 x.2.1) [inst_at_1_k] [] [] [(2, ⟨[(8, .t (.int .i64))], [(0, [.t (.int .i64)])], []⟩)] Tryz.func350 rfl (by decide +kernel) (fun W x => by kernel_rfl)
def inst_at_k : KC Tryz.prog := kes kp 270 (.pair (.slc tAInst) (.pair (.int .i64) .unit)) (.v (.int .i64)) (fun W x => inst_atW W x.1 x.2.1) [slices_IndexFuncapi_Inst_api_Inst_inst_at_1_k] [] [] [] Tryz.func270 rfl (by decide +kernel) (fun W x => by kernel_rfl)
def slices_Cloneint64_int64_k : KC Tryz.prog := kes kp 130 (.pair (.slc (.int .i64)) .unit) (.own 2 (.int .i64)) (fun W x => slices_Cloneint64_int64W W x.1) [] [] [] [] Tryz.func130 rfl (by decide +kernel) (fun W x => by kernel_rfl)
def inst_own_k : KC Tryz.prog := kes kp 271 (.pair tAInst .unit) (.v tAInst) (fun W x => inst_ownW W x.1) [slices_Cloneint64_int64_k] [] [] [] Tryz.func271 rfl (by decide +kernel) (fun W x => by kernel_rfl)
def inst_Find_k : KC Tryz.prog := kes kp 146 (.pair (.slc tAInst) (.pair (.int .i64) .unit)) (.pair (.v tAInst) (.pair (.v .bool) .unit)) (fun W x => inst_FindW W x.1 x.2.1) [inst_at_k, inst_own_k] [] [] [] Tryz.func146 rfl (by decide +kernel) (fun W x => by kernel_rfl)
def ledger_checker_legs_k : KC Tryz.prog := kes kp 332 (.pair tLedgerChecker (.pair (.slc tAUnit) .unit)) (.v .bool) (fun W x => ledger_checker_legsW W x.1 x.2.1) [inst_Find_k] [] [] [(2, ⟨[(11, .t (.int .i64))], [], []⟩)] Tryz.func332 rfl (by decide +kernel) (fun W x => by kernel_rfl)
def ledger_priced_k : KC Tryz.prog := kes kp 333 (.pair (.int .i64) .unit) (.v .bool) (fun W x => ledger_pricedW W x.1) [] [] [] [] Tryz.func333 rfl (by decide +kernel) (fun W x => by kernel_rfl)
def ledger_few_k : KC Tryz.prog := kes kp 334 (.pair (.int .i64) .unit) (.v .bool) (fun W x => ledger_fewW W x.1) [] [] [] [] Tryz.func334 rfl (by decide +kernel) (fun W x => by kernel_rfl)
def ledger_checker_groups_k : KC Tryz.prog := kes kp 237 (.pair tLedgerChecker .unit) (.v .bool) (fun W x => ledger_checker_groupsW W x.1) [ledger_checker_unit_k, ledger_checker_legs_k, ledger_priced_k, ledger_few_k] [] [(500046, ⟨[(46, .t .bool)], [], []⟩)] [(2, ⟨[(9, .t (.int .i64))], [], []⟩)] Tryz.func237 rfl (by decide +kernel) (fun W x => by kernel_rfl)
def ledger_checker_gives_k : KC Tryz.prog := kes kp 238 (.pair tLedgerChecker .unit) (.v .bool) (fun W x => ledger_checker_givesW W x.1) [ledger_checker_unit_k, ledger_checker_legs_k, ledger_few_k, ledger_priced_k] [] [(5, ⟨[(5, .t .bool)], [], []⟩), (500066, ⟨[(66, .t .bool)], [], []⟩), (500098, ⟨[(98, .t .bool)], [], []⟩)] [(2, ⟨[(10, .t (.int .i64))], [], []⟩)] Tryz.func238 rfl (by decide +kernel) (fun W x => by kernel_rfl)
def vec_Is_k : KC Tryz.prog := kes kp 341 (.pair (.slc tAUnit) .unit) (.v .bool) (fun W x => vec_IsW W x.1) [] [] [(500025, ⟨[(25, .t .bool)], [], []⟩)] [(3, ⟨[(3, .t (.int .i64)), (8, .t (.int .i64))], [], []⟩)] Tryz.func341 rfl (by decide +kernel) (fun W x => by kernel_rfl)
def book_Is_k : KC Tryz.prog := kes kp 257 (.pair (.slc tAPos) .unit) (.v .bool) (fun W x => book_IsW W x.1) [vec_Is_k, acct_Less_k] [(4, [], (.rd 0 (.rd 1 (.rd 2 (.rd 3 (.rd 4 (.rd 5 (.rd 6 (.op 7 (.rd 8 (.rd 9 (.rd 10 (.rd 11 (.rd 12 (.rd 13 (.rd 14 (.rd 15 (.rd 16 (.rd 17 (.rd 18 (.rd 20 (.two 19 21 (ofL [(21, false), (22, false), (23, true), (24, true), (25, true)]) (ofL [(19, false), (22, false), (23, true), (24, true), (25, true)])))))))))))))))))))))))] [(500037, ⟨[(37, .t .bool)], [], []⟩)] [(2, ⟨[(7, .t (.int .i64))], [], []⟩)] Tryz.func257 rfl (by decide +kernel) (fun W x => by kernel_rfl)
def ledger_checker_book_k : KC Tryz.prog := kes kp 239 (.pair tLedgerChecker (.pair (.slc tAPos) .unit)) (.v .bool) (fun W x => ledger_checker_bookW W x.1 x.2.1) [ledger_checker_unit_k, ledger_checker_legs_k, book_Is_k] [] [(500024, ⟨[(24, .t .bool)], [], []⟩)] [(2, ⟨[(9, .t (.int .i64))], [], []⟩)] Tryz.func239 rfl (by decide +kernel) (fun W x => by kernel_rfl)
def ledger_checker_named_k : KC Tryz.prog := kes kp 335 (.pair tLedgerChecker (.pair tAUnit .unit)) (.v .bool) (fun W x => ledger_checker_namedW W x.1 x.2.1) [ledger_checker_unit_k] [] [] [] Tryz.func335 rfl (by decide +kernel) (fun W x => by kernel_rfl)
def ledger_checker_money_k : KC Tryz.prog := kes kp 240 (.pair tLedgerChecker .unit) (.v .bool) (fun W x => ledger_checker_moneyW W x.1) [ledger_checker_named_k, asset_Find_k, purse_Is_k, hold_Is_k] [] [] [(2, ⟨[(15, .t (.int .i64))], [], []⟩), (8, ⟨[(29, .t (.int .i64))], [], []⟩), (13, ⟨[(41, .t (.int .i64))], [], []⟩)] Tryz.func240 rfl (by decide +kernel) (fun W x => by kernel_rfl)
def ledger_Check_k : KC Tryz.prog := kes kp 106 (.pair tAState .unit) (.v (.int .i64)) (fun W x => ledger_CheckW W x.1) [ledger_Units_k, ledger_checker_tables_k, ledger_checker_choices_k, ledger_checker_groups_k, ledger_checker_gives_k, ledger_checker_book_k, ledger_checker_money_k] [] [(8, ⟨[(6, .t .bool)], [(1, [.t (.int .i64), .t (.slc tAMember), .t (.slc tAInst), .t (.slc tALot), .t (.slc tAAccount), .t (.slc tAChoice), .t (.slc tAGroup), .t (.slc tAGive), .t (.slc tAPos), .t (.slc tAPos), .t (.slc tAFlow), .t (.slc tAHold), .ob 0])], [.obj .set]⟩), (500069, ⟨[(69, .t .bool)], [(1, [.t (.int .i64), .t (.slc tAMember), .t (.slc tAInst), .t (.slc tALot), .t (.slc tAAccount), .t (.slc tAChoice), .t (.slc tAGroup), .t (.slc tAGive), .t (.slc tAPos), .t (.slc tAPos), .t (.slc tAFlow), .t (.slc tAHold), .ob 0])], [.obj .set]⟩)] [(3, ⟨[(11, .row 1), (13, .t (.int .i64))], [(1, [.t (.int .i64), .t (.slc tAMember), .t (.slc tAInst), .t (.slc tALot), .t (.slc tAAccount), .t (.slc tAChoice), .t (.slc tAGroup), .t (.slc tAGive), .t (.slc tAPos), .t (.slc tAPos), .t (.slc tAFlow), .t (.slc tAHold), .ob 0])], [.obj .set, .own 47 tAUnit]⟩)] Tryz.func106 rfl (by decide +kernel) (fun W x => by kernel_rfl)
def bytes_Equal_k : KC Tryz.prog := kes kp 107 (.pair (.slc (.int .u8)) (.pair (.slc (.int .u8)) .unit)) (.v .bool) (fun W x => bytes_EqualW W x.1 x.2.1) [] [] [] [] Tryz.func107 rfl (by decide +kernel) (fun W x => by kernel_rfl)
def ledger_Decode_k : KC Tryz.prog := kes kp 21 (.pair (.slc (.int .u8)) .unit) (.pair (.v tAState) (.pair (.v (.int .i64)) .unit)) (fun W x => ledger_DecodeW W x.1) [pack_Open_k, ledger_reader_num_k, ledger_reader_tables_k, ledger_reader_accounts_k, ledger_reader_deals_k, ledger_reader_book_k, ledger_list_ledger_Decode_1_k, ledger_list_ledger_Decode_2_k, pack_Reader_End_k, ledger_Check_k, ledger_Encode_k, bytes_Equal_k] [(6, [1, 3], (ofL [(0, true), (2, true), (1, false), (3, false), (4, true), (5, false), (6, true), (7, false)]))] [(500047, ⟨[(47, .t .bool)], [(1, [.t .bool, .t (.slc (.int .u8)), .t (.int .i64)]), (3, [.t (.int .i64), .row 1, .row 2, .row 3, .row 4, .t (.slc tAChoice), .row 6, .row 7, .row 8, .row 9, .row 10, .row 11])], [.dead, .own 118 tAMember, .own 124 tAInst, .own 120 tALot, .own 60 tAAccount, .dead, .own 126 tAGroup, .own 128 tAGive, .own 50 tAPos, .own 50 tAPos, .own 143 tAFlow, .own 55 tAHold]⟩)] [] Tryz.func21 rfl (by decide +kernel) (fun W x => by kernel_rfl)
def ref14_Same_k : KC Tryz.prog := kes kp 47 (.pair (.slc tAMember) (.pair (.slc tAMember) .unit)) (.v .bool) (fun W x => ref14_SameW W x.1 x.2.1) [] [(6, [], (ofL [(0, true), (1, true), (2, true), (3, true), (4, true), (5, true), (6, true), (7, true), (8, true)]))] [] [(4, ⟨[(5, .t (.int .i64))], [], []⟩)] Tryz.func47 rfl (by decide +kernel) (fun W x => by kernel_rfl)
def ref01_SameNumbers_k : KC Tryz.prog := kes kp 339 (.pair (.slc (.int .i64)) (.pair (.slc (.int .i64)) .unit)) (.v .bool) (fun W x => ref01_SameNumbersW W x.1 x.2.1) [] [(6, [], (ofL [(0, true), (1, true), (2, true), (3, true), (4, true), (5, true), (6, true), (7, true), (8, true)]))] [] [(4, ⟨[(5, .t (.int .i64))], [], []⟩)] Tryz.func339 rfl (by decide +kernel) (fun W x => by kernel_rfl)
def ref13_SameOne_k : KC Tryz.prog := kes kp 250 (.pair tAInst (.pair tAInst .unit)) (.v .bool) (fun W x => ref13_SameOneW W x.1 x.2.1) [ref01_SameNumbers_k] [] [] [] Tryz.func250 rfl (by decide +kernel) (fun W x => by kernel_rfl)
def ref13_Same_k : KC Tryz.prog := kes kp 115 (.pair (.slc tAInst) (.pair (.slc tAInst) .unit)) (.v .bool) (fun W x => ref13_SameW W x.1 x.2.1) [ref13_SameOne_k] [(6, [], (ofL [(0, true), (1, true), (2, true), (3, true), (4, true), (5, true), (6, true), (7, true), (8, false), (9, true)]))] [] [(4, ⟨[(5, .t (.int .i64))], [], []⟩)] Tryz.func115 rfl (by decide +kernel) (fun W x => by kernel_rfl)
def ref12_Same_k : KC Tryz.prog := kes kp 116 (.pair (.slc tALot) (.pair (.slc tALot) .unit)) (.v .bool) (fun W x => ref12_SameW W x.1 x.2.1) [] [(6, [], (ofL [(0, true), (1, true), (2, true), (3, true), (4, true), (5, true), (6, true), (7, true), (8, true)]))] [] [(4, ⟨[(5, .t (.int .i64))], [], []⟩)] Tryz.func116 rfl (by decide +kernel) (fun W x => by kernel_rfl)
def ref15_SameOne_k : KC Tryz.prog := kes kp 174 (.pair tAAccount (.pair tAAccount .unit)) (.v .bool) (fun W x => ref15_SameOneW W x.1 x.2.1) [] [(6, [], (ofL [(0, true), (1, true), (2, true), (3, true), (4, true), (5, true), (6, true), (7, true), (8, true), (9, true), (10, true)]))] [(500033, ⟨[(33, .t .bool)], [], []⟩)] [(4, ⟨[(5, .t (.int .i64))], [], []⟩)] Tryz.func174 rfl (by decide +kernel) (fun W x => by kernel_rfl)
def ref15_Same_k : KC Tryz.prog := kes kp 48 (.pair (.slc tAAccount) (.pair (.slc tAAccount) .unit)) (.v .bool) (fun W x => ref15_SameW W x.1 x.2.1) [ref15_SameOne_k] [(6, [], (ofL [(0, true), (1, true), (2, true), (3, true), (4, true), (5, true), (6, true), (7, true), (8, false), (9, true)]))] [] [(4, ⟨[(5, .t (.int .i64))], [], []⟩)] Tryz.func48 rfl (by decide +kernel) (fun W x => by kernel_rfl)
def ref16_Same_k : KC Tryz.prog := kes kp 117 (.pair (.slc tAChoice) (.pair (.slc tAChoice) .unit)) (.v .bool) (fun W x => ref16_SameW W x.1 x.2.1) [] [(6, [], (ofL [(0, true), (1, true), (2, true), (3, true), (4, true), (5, true), (6, true), (7, true), (8, true)]))] [] [(4, ⟨[(5, .t (.int .i64))], [], []⟩)] Tryz.func117 rfl (by decide +kernel) (fun W x => by kernel_rfl)
def ref22_Same_k : KC Tryz.prog := kes kp 118 (.pair (.slc tAGroup) (.pair (.slc tAGroup) .unit)) (.v .bool) (fun W x => ref22_SameW W x.1 x.2.1) [] [(6, [], (ofL [(0, true), (1, true), (2, true), (3, true), (4, true), (5, true), (6, true), (7, true), (8, true)]))] [] [(4, ⟨[(5, .t (.int .i64))], [], []⟩)] Tryz.func118 rfl (by decide +kernel) (fun W x => by kernel_rfl)
def ref23_Same_k : KC Tryz.prog := kes kp 119 (.pair (.slc tAGive) (.pair (.slc tAGive) .unit)) (.v .bool) (fun W x => ref23_SameW W x.1 x.2.1) [] [(6, [], (ofL [(0, true), (1, true), (2, true), (3, true), (4, true), (5, true), (6, true), (7, true), (8, true)]))] [] [(4, ⟨[(5, .t (.int .i64))], [], []⟩)] Tryz.func119 rfl (by decide +kernel) (fun W x => by kernel_rfl)
def ref11_Same_k : KC Tryz.prog := kes kp 144 (.pair (.slc tAUnit) (.pair (.slc tAUnit) .unit)) (.v .bool) (fun W x => ref11_SameW W x.1 x.2.1) [] [(6, [], (ofL [(0, true), (1, true), (2, true), (3, true), (4, true), (5, true), (6, true), (7, true), (8, true)]))] [] [(4, ⟨[(5, .t (.int .i64))], [], []⟩)] Tryz.func144 rfl (by decide +kernel) (fun W x => by kernel_rfl)
def ref19_Same_k : KC Tryz.prog := kes kp 30 (.pair (.slc tAPos) (.pair (.slc tAPos) .unit)) (.v .bool) (fun W x => ref19_SameW W x.1 x.2.1) [ref11_Same_k] [(6, [], (ofL [(0, true), (1, true), (2, true), (3, true), (4, true), (5, true), (6, true), (7, true), (8, true), (9, true), (10, true), (11, true), (12, true), (13, true), (14, true), (15, true), (16, true), (17, true), (18, true), (19, true), (20, true), (21, true), (22, false), (23, true), (24, true)]))] [(500041, ⟨[(41, .t .bool)], [], []⟩)] [(4, ⟨[(5, .t (.int .i64))], [], []⟩)] Tryz.func30 rfl (by decide +kernel) (fun W x => by kernel_rfl)
def ref33_Same_k : KC Tryz.prog := kes kp 23 (.pair tAState (.pair tAState .unit)) (.v .bool) (fun W x => ref33_SameW W x.1 x.2.1) [ref14_Same_k, ref13_Same_k, ref12_Same_k, ref15_Same_k, ref16_Same_k, ref22_Same_k, ref23_Same_k, ref19_Same_k, ref17_Same_k, ref26_Same_k] [] [(500049, ⟨[(49, .t .bool)], [], []⟩)] [] Tryz.func23 rfl (by decide +kernel) (fun W x => by kernel_rfl)
def law33_lives_k : KC Tryz.prog := kes kp 19 .unit (.v .bool) (fun W x => law33_livesW W ) [ledger_Empty_k, ledger_Encode_k, ledger_Decode_k, ref33_Same_k, ref01_Same_k] [(5, [], (.rd 0 (.rd 1 (.rd 2 (.rd 3 (.rd 4 (.op 5 (.rd 6 (.rd 7 (.two 8 10 (.two 9 10 (ofL [(10, false), (11, false), (12, true), (13, true)]) (ofL [(9, false), (11, false), (12, true), (13, true)])) (ofL [(8, false), (9, false), (11, false), (12, true), (13, true)])))))))))))] [] [] Tryz.func19 rfl (by decide +kernel) (fun W x => by kernel_rfl)
def law33_LedgerEncodes_k : KC Tryz.prog := kes kp 3 (.pair tAState .unit) (.v .bool) (fun W x => law33_LedgerEncodesW W x.1) [law33_Few_k, ledger_Encode_k, ref33_Encode_k, ref01_Same_k, law33_lives_k] [(2, [], (ofL [(0, true), (2, true), (1, false), (3, false), (4, false), (5, true), (6, false), (7, true), (8, true)]))] [] [] Tryz.func3 rfl (by decide +kernel) (fun W x => by kernel_rfl)
def ref01_Cut_k : KC Tryz.prog := kes kp 20 (.pair (.slc (.int .u8)) (.pair (.int .i64) .unit)) (.v (.slc (.int .u8))) (fun W x => ref01_CutW W x.1 x.2.1) [] [] [] [] Tryz.func20 rfl (by decide +kernel) (fun W x => by kernel_rfl)
def ref14_Is_k : KC Tryz.prog := kes kp 241 (.pair tAMember .unit) (.v .bool) (fun W x => ref14_IsW W x.1) [] [] [] [] Tryz.func241 rfl (by decide +kernel) (fun W x => by kernel_rfl)
def ref13_price_k : KC Tryz.prog := kes kp 336 (.pair (.int .i64) .unit) (.v .bool) (fun W x => ref13_priceW W x.1) [] [] [] [] Tryz.func336 rfl (by decide +kernel) (fun W x => by kernel_rfl)
def ref13_Is_k : KC Tryz.prog := kes kp 242 (.pair tAInst .unit) (.v .bool) (fun W x => ref13_IsW W x.1) [ref13_price_k] [] [(500039, ⟨[(39, .t .bool)], [], []⟩), (500060, ⟨[(60, .t .bool)], [], []⟩)] [(4, ⟨[(3, .t (.int .i64))], [], []⟩)] Tryz.func242 rfl (by decide +kernel) (fun W x => by kernel_rfl)
def ref14_Find_k : KC Tryz.prog := kes kp 154 (.pair (.slc tAMember) (.pair (.int .i64) .unit)) (.pair (.v tAMember) (.pair (.v .bool) .unit)) (fun W x => ref14_FindW W x.1 x.2.1) [] [] [] [(2, ⟨[(6, .t (.int .i64))], [], []⟩)] Tryz.func154 rfl (by decide +kernel) (fun W x => by kernel_rfl)
def ref33_Has_k : KC Tryz.prog := kes kp 245 (.pair tAState (.pair tAUnit .unit)) (.v .bool) (fun W x => ref33_HasW W x.1 x.2.1) [ref15_Has_k] [(4, [], (ofL [(0, true), (1, true), (2, true), (3, true), (4, true), (5, true), (6, false)]))] [] [(2, ⟨[(5, .t (.int .i64))], [], []⟩)] Tryz.func245 rfl (by decide +kernel) (fun W x => by kernel_rfl)
def ref16_Is_k : KC Tryz.prog := kes kp 246 (.pair (.slc tAChoice) .unit) (.v .bool) (fun W x => ref16_IsW W x.1) [ref15_Less_k] [(4, [], (ofL [(0, true), (1, true), (2, true), (3, true), (4, true), (5, true), (6, true), (7, true), (8, true), (9, true), (10, true), (11, true), (12, true), (13, true), (14, true), (15, true), (16, true), (17, true), (18, true), (19, true), (20, true), (21, true), (22, true), (23, true), (24, true), (25, true), (26, false), (27, true), (28, true), (29, true)]))] [(500039, ⟨[(39, .t .bool)], [], []⟩)] [(2, ⟨[(3, .t (.int .i64))], [], []⟩)] Tryz.func246 rfl (by decide +kernel) (fun W x => by kernel_rfl)
def ref33_tables_k : KC Tryz.prog := kes kp 108 (.pair tAState .unit) (.v .bool) (fun W x => ref33_tablesW W x.1) [ref14_Is_k, ref13_Is_k, ref12_Is_k, ref14_Find_k, ref15_Is_k, ref33_Has_k, ref16_Is_k] [(4, [], (.rd 0 (.rd 1 (.rd 2 (.rd 3 (.rd 4 (.op 5 (.rd 6 (.rd 7 (.rd 8 (.rd 9 (.rd 10 (.rd 11 (.rd 13 (.rd 14 (.rd 18 (.rd 20 (.two 12 19 (.rd 15 (.rd 16 (.two 17 19 (ofL [(19, false), (21, true), (22, true), (23, false), (24, true), (25, true), (26, true)]) (.rd 21 (.rd 22 (.two 17 23 (ofL [(23, false), (24, true), (25, true), (26, true)]) (ofL [(17, false), (24, true), (25, true), (26, true)]))))))) (.rd 21 (.rd 22 (.two 12 23 (.rd 15 (.rd 16 (.two 17 23 (ofL [(23, false), (24, true), (25, true), (26, true)]) (ofL [(17, false), (24, true), (25, true), (26, true)])))) (ofL [(12, false), (15, true), (16, true), (17, false), (24, true), (25, true), (26, true)])))))))))))))))))))))), (9, [], (.rd 0 (.rd 1 (.rd 2 (.rd 3 (.rd 4 (.op 5 (.rd 6 (.rd 7 (.rd 8 (.rd 9 (.rd 10 (.rd 11 (.rd 13 (.rd 14 (.rd 18 (.rd 20 (.two 12 19 (.rd 15 (.rd 16 (.two 17 19 (ofL [(19, false), (21, true), (22, true), (23, false), (24, true), (25, true), (26, true)]) (.rd 21 (.rd 22 (.two 17 23 (ofL [(23, false), (24, true), (25, true), (26, true)]) (ofL [(17, false), (24, true), (25, true), (26, true)]))))))) (.rd 21 (.rd 22 (.two 12 23 (.rd 15 (.rd 16 (.two 17 23 (ofL [(23, false), (24, true), (25, true), (26, true)]) (ofL [(17, false), (24, true), (25, true), (26, true)])))) (ofL [(12, false), (15, true), (16, true), (17, false), (24, true), (25, true), (26, true)])))))))))))))))))))))), (14, [], (.rd 0 (.rd 1 (.rd 2 (.rd 3 (.rd 4 (.op 5 (.rd 6 (.rd 7 (.rd 8 (.rd 9 (.rd 10 (.rd 11 (.rd 13 (.rd 14 (.rd 18 (.rd 20 (.two 12 19 (.rd 15 (.rd 16 (.two 17 19 (ofL [(19, false), (21, true), (22, true), (23, false), (24, true), (25, true), (26, true)]) (.rd 21 (.rd 22 (.two 17 23 (ofL [(23, false), (24, true), (25, true), (26, true)]) (ofL [(17, false), (24, true), (25, true), (26, true)]))))))) (.rd 21 (.rd 22 (.two 12 23 (.rd 15 (.rd 16 (.two 17 23 (ofL [(23, false), (24, true), (25, true), (26, true)]) (ofL [(17, false), (24, true), (25, true), (26, true)])))) (ofL [(12, false), (15, true), (16, true), (17, false), (24, true), (25, true), (26, true)])))))))))))))))))))))), (19, [], (.rd 0 (.rd 1 (.rd 2 (.rd 3 (.rd 4 (.rd 5 (.rd 6 (.rd 7 (.two 8 12 (ofL [(9, true), (10, true), (11, true), (12, false), (13, false), (14, true)]) (ofL [(8, false), (9, true), (10, true), (11, true), (13, false), (14, true)]))))))))))), (20, [], (.rd 0 (.rd 1 (.rd 2 (.rd 3 (.rd 4 (.rd 5 (.rd 6 (.rd 7 (.op 8 (.rd 9 (.rd 10 (.rd 11 (.rd 12 (.rd 13 (.rd 14 (.rd 15 (.rd 17 (.rd 18 (.rd 22 (.rd 24 (.two 16 23 (.rd 19 (.rd 20 (.two 21 23 (ofL [(23, false), (25, true), (26, true), (27, false), (28, true), (29, true), (30, true)]) (.rd 25 (.rd 26 (.two 21 27 (ofL [(27, false), (28, true), (29, true), (30, true)]) (ofL [(21, false), (28, true), (29, true), (30, true)]))))))) (.rd 25 (.rd 26 (.two 16 27 (.rd 19 (.rd 20 (.two 21 27 (ofL [(27, false), (28, true), (29, true), (30, true)]) (ofL [(21, false), (28, true), (29, true), (30, true)])))) (ofL [(16, false), (19, true), (20, true), (21, false), (28, true), (29, true), (30, true)])))))))))))))))))))))))))), (25, [], (.rd 0 (.rd 1 (.rd 2 (.rd 3 (.rd 4 (.rd 5 (.rd 6 (.op 7 (.rd 8 (.rd 9 (.rd 11 (.rd 13 (.two 10 12 (ofL [(12, false), (14, true), (15, true), (16, false), (17, false), (18, true), (19, true)]) (.rd 14 (.rd 15 (.two 10 16 (ofL [(16, false), (17, false), (18, true), (19, true)]) (ofL [(10, false), (17, false), (18, true), (19, true)]))))))))))))))))))] [(20, ⟨[(8, .t .bool)], [], []⟩), (500043, ⟨[(43, .t .bool)], [], []⟩), (500077, ⟨[(77, .t .bool)], [], []⟩), (500111, ⟨[(111, .t .bool)], [], []⟩), (500161, ⟨[(161, .t .bool)], [], []⟩), (500188, ⟨[(188, .t .bool)], [], []⟩)] [(2, ⟨[(3, .t (.int .i64))], [], []⟩), (7, ⟨[(4, .t (.int .i64))], [], []⟩), (12, ⟨[(5, .t (.int .i64))], [], []⟩), (17, ⟨[(6, .t (.int .i64))], [], []⟩), (23, ⟨[(9, .t (.int .i64))], [], []⟩)] Tryz.func108 rfl (by decide +kernel) (fun W x => by kernel_rfl)
def ref13_Find_k : KC Tryz.prog := kes kp 150 (.pair (.slc tAInst) (.pair (.int .i64) .unit)) (.pair (.v tAInst) (.pair (.v .bool) .unit)) (fun W x => ref13_FindW W x.1 x.2.1) [] [] [] [(2, ⟨[(6, .t (.int .i64))], [], []⟩)] Tryz.func150 rfl (by decide +kernel) (fun W x => by kernel_rfl)
def ref33_inst_k : KC Tryz.prog := kes kp 247 (.pair tAState (.pair (.int .i64) .unit)) (.v .bool) (fun W x => ref33_instW W x.1 x.2.1) [ref13_Find_k] [] [] [] Tryz.func247 rfl (by decide +kernel) (fun W x => by kernel_rfl)
def ref33_deals_k : KC Tryz.prog := kes kp 109 (.pair tAState .unit) (.v .bool) (fun W x => ref33_dealsW W x.1) [ref33_Has_k, ref33_inst_k] [] [(500016, ⟨[(16, .t .bool)], [], []⟩), (500067, ⟨[(67, .t .bool)], [], []⟩), (500131, ⟨[(131, .t .bool)], [], []⟩), (500172, ⟨[(172, .t .bool)], [], []⟩)] [(4, ⟨[(3, .t (.int .i64))], [], []⟩), (10, ⟨[(5, .t (.int .i64))], [], []⟩)] Tryz.func109 rfl (by decide +kernel) (fun W x => by kernel_rfl)
def ref11_Is_k : KC Tryz.prog := kes kp 265 (.pair (.slc tAUnit) .unit) (.v .bool) (fun W x => ref11_IsW W x.1) [] [(4, [], (ofL [(0, true), (1, true), (2, true), (3, true), (4, true), (5, true), (6, true), (7, true), (8, true), (9, true), (10, true), (11, true), (12, true), (13, true), (14, true), (15, true), (16, true), (17, true), (18, true), (19, true), (20, true), (21, true), (22, true), (23, true), (24, true), (25, true), (26, true), (27, true), (28, true), (29, true), (30, true), (31, true), (32, true), (33, true), (34, true), (35, true), (36, true), (37, true), (38, true), (39, true)]))] [(500049, ⟨[(49, .t .bool)], [], []⟩)] [(2, ⟨[(3, .t (.int .i64))], [], []⟩)] Tryz.func265 rfl (by decide +kernel) (fun W x => by kernel_rfl)
def ref19_Is_k : KC Tryz.prog := kes kp 141 (.pair (.slc tAPos) .unit) (.v .bool) (fun W x => ref19_IsW W x.1) [ref11_Is_k, ref15_Less_k] [(4, [], (.rd 0 (.rd 1 (.rd 2 (.rd 3 (.rd 4 (.rd 5 (.rd 6 (.rd 7 (.rd 8 (.rd 9 (.rd 10 (.rd 11 (.rd 12 (.op 13 (.rd 14 (.rd 15 (.rd 16 (.rd 17 (.rd 18 (.rd 19 (.rd 20 (.rd 21 (.rd 22 (.rd 23 (.rd 24 (.rd 26 (.rd 27 (.rd 28 (.rd 29 (.two 25 30 (ofL [(30, false), (31, false), (32, true), (33, true), (34, true)]) (ofL [(25, false), (31, false), (32, true), (33, true), (34, true)]))))))))))))))))))))))))))))))))] [(500044, ⟨[(44, .t .bool)], [], []⟩)] [(2, ⟨[(3, .t (.int .i64))], [], []⟩)] Tryz.func141 rfl (by decide +kernel) (fun W x => by kernel_rfl)
def ref33_book_k : KC Tryz.prog := kes kp 110 (.pair tAState (.pair (.slc tAPos) .unit)) (.v .bool) (fun W x => ref33_bookW W x.1 x.2.1) [ref33_Has_k, ref33_inst_k, ref19_Is_k] [(4, [], (ofL [(0, true), (1, true), (2, true), (3, true), (4, true), (5, true), (6, false), (7, true)])), (9, [], (ofL [(0, true), (1, true), (2, true), (3, true), (4, true), (5, true), (6, true), (7, true), (8, true), (9, true), (10, false), (11, true)]))] [] [(2, ⟨[(5, .t (.int .i64))], [], []⟩), (7, ⟨[(6, .t (.int .i64))], [], []⟩)] Tryz.func110 rfl (by decide +kernel) (fun W x => by kernel_rfl)
def ref33_owner_k : KC Tryz.prog := kes kp 113 (.pair tAState (.pair tAUnit .unit)) (.v .bool) (fun W x => ref33_ownerW W x.1 x.2.1) [ref33_Has_k] [] [] [] Tryz.func113 rfl (by decide +kernel) (fun W x => by kernel_rfl)
def ref33_Is_k : KC Tryz.prog := kes kp 22 (.pair tAState .unit) (.v .bool) (fun W x => ref33_IsW W x.1) [ref33_tables_k, ref33_deals_k, ref33_book_k, ref17_Is_k, ref26_Is_k, ref33_owner_k, ref12_Find_k] [(6, [], (ofL [(0, true), (1, true), (2, true), (3, true), (4, true), (5, true), (6, true), (7, false), (8, true)])), (11, [], (ofL [(0, true), (1, true), (2, true), (3, true), (4, true), (5, true), (6, true), (7, false), (8, true)])), (16, [], (.rd 0 (.rd 1 (.rd 2 (.rd 3 (.rd 4 (.rd 5 (.rd 6 (.rd 7 (.rd 8 (.rd 9 (.rd 10 (.rd 11 (.two 12 16 (ofL [(13, true), (14, true), (15, true), (16, false), (17, false), (18, true)]) (ofL [(12, false), (13, true), (14, true), (15, true), (17, false), (18, true)])))))))))))))))] [(17, ⟨[(7, .t .bool)], [], []⟩), (500051, ⟨[(51, .t .bool)], [], []⟩)] [(4, ⟨[(3, .t (.int .i64))], [], []⟩), (9, ⟨[(4, .t (.int .i64))], [], []⟩), (14, ⟨[(5, .t (.int .i64))], [], []⟩)] Tryz.func22 rfl (by decide +kernel) (fun W x => by kernel_rfl)
def law33_LedgerDecodes_k : KC Tryz.prog := kes kp 4 (.pair (.slc (.int .u8)) (.pair tAState .unit)) (.v .bool) (fun W x => law33_LedgerDecodesW W x.1 x.2.1) [ref01_Cut_k, law33_Few_k, ref33_Encode_k, ledger_Decode_k, ref33_Is_k, ref33_Same_k, law33_lives_k, ref01_Same_k] [(1, [0], (.rd 0 (.two 1 2 (ofL [(2, false), (3, false), (4, true), (5, false)]) (ofL [(1, false), (3, false), (4, true), (5, false)]))))] [(2, ⟨[(0, .t (.slc (.int .u8)))], [(0, [.t (.int .i64), .t (.slc tAMember), .t (.slc tAInst), .t (.slc tALot), .t (.slc tAAccount), .t (.slc tAChoice), .t (.slc tAGroup), .t (.slc tAGive), .t (.slc tAPos), .t (.slc tAPos), .t (.slc tAFlow), .t (.slc tAHold)])], []⟩), (500047, ⟨[(47, .t .bool)], [], []⟩)] [] Tryz.func4 rfl (by decide +kernel) (fun W x => by kernel_rfl)
end Go.Proofs.YtllkmncnmlmefaaGreat

namespace Go.Proofs.YtllkmncnmlmefaaGreat
open Go Go.Vc Go.RowKit Go.ChangeShapes Go.WideShapes Go.ChangeAt Go.Joins

theorem own : ownKnob Tryz.prog.godebug = none := by kernel_rfl
theorem laidOut : laidOutB Tryz.prog = true := by kernel_rfl
theorem trod_places {H : Type} {enc : TypeId × Value → H} {w : World} {spare : Nat → Bool} {held : Bool} {t : TypeId} {v : Value} {d : DataW H} {p : List MemPlace} (h : DataW.Trod enc Tryz.prog w 0 spare held t v d p) : ∀ x ∈ p, x.block < w.heap.size := by
  obtain ⟨m, hm⟩ := h; exact DataW.trod_lt m _ _ _ hm
end Go.Proofs.YtllkmncnmlmefaaGreat
/-! A program's closures over a table of who leads to whom (own work): so that 'recurses' is not reckoned by the kernel function by function. -/
namespace Go.Vc
open Go
def closT (T : List (List Nat)) : Nat → List Nat → List Nat → List Nat
  | 0, _, seen => seen.reverse
  | _, [], seen => seen.reverse
  | n + 1, f :: todo, seen => if seen.contains f then closT T n todo seen else closT T n ((T[f]?).getD [] ++ todo) (f :: seen)
theorem lead_eq {P : Program} {T : List (List Nat)} (hT : P.funcs.toList.map P.leadsTo = T) (f : Nat) : (P.funcs[f]?).elim [] P.leadsTo = (T[f]?).getD [] := by
  subst hT
  rw [List.getElem?_map, Array.getElem?_toList]
  cases P.funcs[f]? <;> rfl
theorem closureVia_eq {P : Program} {T : List (List Nat)} (hT : P.funcs.toList.map P.leadsTo = T) : ∀ n todo seen, P.closureVia n todo seen = closT T n todo seen
  | 0, _, _ => by simp only [Program.closureVia, closT]
  | n + 1, [], _ => by simp only [Program.closureVia, closT]
  | n + 1, f :: todo, seen => by
    simp only [Program.closureVia, closT]
    rw [closureVia_eq hT n, closureVia_eq hT n, lead_eq hT f]
theorem closure_eq {P : Program} {T : List (List Nat)} (hT : P.funcs.toList.map P.leadsTo = T) (f : Nat) : P.closure f = closT T (1 + (T.map fun l => l.length + 1).sum) [f] [] := by
  unfold Program.closure
  rw [closureVia_eq hT]
  subst hT
  rw [List.map_map]; rfl
end Go.Vc

namespace Go.Proofs.YtllkmncnmlmefaaGreat
open Go Go.Vc
def leadsT : List (List Nat) := [[], [], [1], [15, 17, 18, 16, 19], [20, 15, 18, 21, 22, 23, 23, 21, 23, 19, 22, 18, 16, 19], [15, 15, 24, 23, 25, 23, 25, 18, 18, 16, 19], [26, 27, 28, 29, 31, 32, 30, 31, 32, 30, 33], [26, 34, 35, 29, 33], [26, 27, 34, 37, 37, 36, 37, 37, 36, 38, 38, 36, 33, 39, 39, 40, 40, 40, 40, 38, 38, 36, 33], [41, 42, 43, 44, 45], [41, 42, 44, 45, 46, 46, 46, 46, 47, 48, 45], [49, 50, 51, 52, 53, 54, 55, 56, 57, 58, 59], [49, 60, 61, 62, 63, 56, 64, 56, 64, 59], [49, 65, 66, 56, 64, 59], [49, 65, 59, 67, 68, 70, 69, 51, 51, 70, 70, 71, 36, 72, 72, 36, 38, 38, 36, 59], [73, 74, 74, 75, 76, 77], [], [78, 79, 80, 81, 82, 83, 83, 84, 85], [86, 87, 88, 87, 88, 88, 87, 88, 87, 88, 87, 87, 88, 87, 88, 87, 88, 89, 89, 87, 88, 87, 88, 88], [90, 17, 21, 23, 90, 17, 16], [], [91, 92, 93, 94, 95, 96, 96, 98, 97, 102, 101, 105, 106, 17, 107], [108, 109, 110, 110, 111, 112, 113, 113, 114], [47, 115, 116, 48, 117, 118, 119, 30, 30, 120, 121], [122, 123, 124, 125, 126, 127, 128, 129, 130, 131, 132, 132, 133, 134], [17, 17, 107], [77, 135, 136, 137, 74, 74, 75], [138, 139, 140], [141, 141, 142, 143], [30, 30, 120], [144], [139], [142], [27, 34, 31, 39], [145, 146, 147, 148, 140, 140, 149], [141, 141, 111, 150, 40, 151, 152, 153, 154, 155, 156, 143, 143, 157, 156, 157, 159, 159, 158], [71], [160, 160, 69], [70, 69], [], [], [77, 135, 137, 73, 74, 75, 76], [161, 163, 162, 164, 165, 149, 166, 167], [168, 40, 169, 111, 39, 158, 170, 171], [47, 48, 117, 30, 120, 121], [172, 42], [40, 40, 144, 39, 39, 173, 173, 121], [], [174], [77, 175, 137, 75, 76], [165, 176], [39], [178, 177, 165, 179], [173, 180, 70, 39, 70, 69, 156, 159], [181, 182, 57, 178, 165, 183, 184], [111, 112, 173, 70, 39, 70, 71, 156, 159, 114, 159, 185, 70, 36, 159, 186, 156, 187, 159, 188], [120, 121], [], [], [65, 64, 39, 173], [50, 52, 189, 190], [51, 53, 191], [50, 54, 50], [51, 55, 51], [], [192, 193, 194, 195, 196, 58, 196], [68, 68, 63, 68, 197, 61], [153, 153, 153], [], [199, 198, 200, 201, 198, 201, 198], [202, 202, 199], [157, 69], [203, 69], [], [204], [], [205], [], [], [206], [79, 79, 206, 79, 79, 79, 206, 79, 206, 79, 79, 206], [79, 79, 79, 79, 207, 208], [79, 79, 207, 79, 206, 79, 79, 207, 79, 206, 79], [79, 207, 79, 79, 206], [79, 207, 206, 79, 207, 79, 79, 206], [209, 210], [], [86], [211], [87, 88, 88], [], [210], [212], [214, 213, 216, 215, 219, 218], [221, 220, 224, 223], [226, 225, 228, 227], [231, 230], [212, 233], [99, 100], [92, 92], [212], [212, 233], [99, 104, 103], [212, 233], [92, 92, 100], [233], [234, 235, 236, 237, 238, 239, 239, 240], [], [241, 242, 243, 154, 244, 245, 245, 246], [245, 247, 245, 245, 247], [245, 247, 141], [248], [249, 248], [245], [], [250], [], [], [], [], [], [251], [], [], [], [], [], [], [], [], [], [], [252, 253], [], [], [254], [255], [256], [257, 257], [192, 259, 258], [257, 163, 162, 261, 262, 263, 264], [265, 248], [153], [141, 40, 266, 248], [], [146, 138, 181, 163, 268, 267, 269], [270, 271], [272, 273, 273, 275, 274, 276], [277, 183], [183, 181, 278], [], [], [], [68], [], [70, 70, 279, 70, 70, 71, 279], [280], [198], [111, 281, 70, 69, 156, 159, 159], [], [151, 70, 69], [282, 283, 284], [285, 277, 268, 179], [253], [257, 148, 140, 140], [], [182, 178, 178, 286, 286], [124, 288, 287], [289, 154, 290, 291, 289, 154, 40, 39, 173, 292, 293, 294], [141, 295, 143, 143], [112, 173, 296, 173, 296], [], [], [], [], [297], [183], [298, 299, 179], [134], [300, 302, 301], [249, 70, 114, 186, 156, 303, 69, 156, 159], [304], [305, 304], [300, 300, 306, 301], [307, 308, 299, 57, 309, 57, 149], [70, 310], [70, 70, 279], [112, 311, 312], [158], [], [54, 149], [55, 188], [314, 315, 313], [316, 316], [62, 317], [316, 318, 317], [60, 317], [51, 319, 53, 319, 320, 320, 191], [], [], [], [], [], [70, 69], [], [], [209, 322, 321], [79], [79], [], [], [86], [323, 324, 325, 326], [212, 233], [92, 100, 92, 92], [212, 233], [92, 100, 100, 100, 100, 217], [212, 233], [212, 233], [92, 100, 100], [212, 233], [92, 92, 92, 92, 222], [212, 233], [212, 233], [99, 99, 212], [212, 233], [92, 99, 92, 100, 100], [212, 233], [92, 99, 99, 229, 100, 92, 92, 92], [92, 100], [212, 233], [99, 229, 232], [212, 233], [], [316], [327, 272, 328, 329], [330, 330, 331], [330, 332, 333, 334], [330, 330, 332, 334, 333], [330, 332, 257], [335, 335, 307, 181, 182], [], [336, 336], [], [], [153], [248], [150], [], [337, 338], [339], [], [], [], [241, 154], [340], [244, 152], [341, 304], [342], [260], [316, 343], [304], [253], [], [344, 345], [], [265, 151, 70, 69, 346], [], [], [347, 260, 348, 349], [351, 350], [130], [273, 273, 352, 353], [], [354, 300, 354, 355, 355, 356, 358, 357, 359], [300, 300, 354, 354, 355, 358, 358, 357], [300], [341], [181, 360, 361, 362, 179], [199, 198], [202, 69], [248], [363, 348, 364], [365], [363, 348, 349, 366, 367, 368, 369], [370], [134, 304, 134], [371], [], [152, 153], [], [372], [141, 40, 373, 70, 69, 156, 159], [374, 292], [70, 70, 69, 70, 36], [265, 151, 70, 157, 346], [248], [243, 114], [305, 307], [328, 375], [], [276], [376, 377], [186, 70, 279, 378], [], [379, 380], [376, 376, 300, 376, 377], [], [328, 381], [182, 382, 383], [378, 202, 69], [112, 173, 384, 296], [112, 173, 385, 296], [342], [386], [], [], [], [387, 50, 387, 388, 189, 389, 389, 190], [70, 69, 156, 159], [390, 391, 70, 36, 392], [], [], [], [326, 326], [], [], [], [393], [348, 394], [], [304], [146], [], [], [330], [], [], [], [], [242, 150], [], [], [395], [], [396], [156, 159], [397, 386], [398], [], [], [], [399], [], [358, 400, 400], [], [], [400, 400], [], [], [401], [402, 403], [], [347, 260], [404], [405], [163, 165, 178], [257, 163, 406, 179], [407, 367], [408, 179], [], [], [], [265, 70, 156, 69, 156, 159], [68], [275, 276], [356, 356], [359], [198, 202, 71], [], [410, 410, 409], [275, 411, 300, 302, 301], [178, 412, 413], [178, 414, 413], [249, 337, 415, 416], [249, 337, 415, 70, 70, 69, 156, 159, 416], [131], [179], [52, 165], [417, 179, 418], [391, 156], [70, 69], [390, 391, 159, 70, 70, 279, 378, 159], [], [419], [], [420, 420, 420], [], [422, 421], [], [], [], [424, 423], [304, 304], [], [425, 371], [277, 176, 179], [192, 316], [], [], [426, 426], [354, 427, 358, 356, 358, 357], [428, 429, 380, 134, 430], [182, 286], [428, 429, 380, 134, 431, 179, 134], [], [338], [408], [417, 179, 432, 433, 434], [], [], [], [], [435, 436, 437, 438, 439, 440, 441, 442, 423, 423], [443, 444], [], [], [445], [305, 379], [], [], [446, 447], [448], [424, 449], [450, 410, 409], [], [451, 451], [452, 453], [454, 454, 454, 455], [], [], [], [], [], [], [444], [], [456], [275, 411, 301], [457, 458, 459, 460, 461, 462, 463, 464, 449, 449], [465, 465], [], [424], [], [455], [466, 466, 466], [467, 467, 467], [], [468, 468], [452, 453], [469, 469, 469, 470], [], [], [], [], [], [], [], [], [470], [471, 471, 471], [], [], [], [], [], [], [], [], [], [], [], [], [], [], [], [], [], [], [], []]
set_option maxRecDepth 1000000 in
theorem leads_ok : Tryz.prog.funcs.toList.map Tryz.prog.leadsTo = leadsT := by kernel_rfl
end Go.Proofs.YtllkmncnmlmefaaGreat