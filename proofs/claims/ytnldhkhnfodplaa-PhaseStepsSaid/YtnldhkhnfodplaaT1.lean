import Derived.Test.YtnldhkhnfodplaaTabA
namespace Go.Proofs.Ytnldhkhnfodplaa
open Go Go.Vc Go.RowKit

def memberIs (id cap ph un : Int) : Bool := decide (1 ≤ id ∧ id ≤ 8 ∧ 0 ≤ cap ∧ cap ≤ 4611686018427387904 ∧ 0 ≤ ph ∧ ph ≤ 3 ∧ 0 ≤ un ∧ un ≤ 2097152)

theorem start {f : FuncId} {fn : Func} {c : Code} {args : Array Value} {w : World} {R : Value → World → Prop} (A : Anns)
    (hf : Try.prog.funcs[f]? = some fn) (hb : fn.body = some c) (hn : (fn.name == "runtime.NumGoroutine") = false) (hl : loopsOk A c = true) (xs : List XV) (hargs : args = (denL xs).toArray) (hw : wfL [] xs)
    (h : initK xs fn.ntmps fun ts => vc Try.prog tab A noDraw c (retQ tab fn.results.toList R) ts [] w) : CallsX Try.prog f args w R :=
  callsX_of_vc tab_ok (noDraw_ok _) hf hb hn hl xs hargs hw h

set_option maxRecDepth 100000 in
theorem check_any (id cap ph un : Int) (w : World)  :
    CallsX Try.prog 141 #[.agg #[.int .i64 id, .int .i64 cap, .int .i64 ph, .int .i64 un]] w fun v w' => v = .int .i64 (if memberIs id cap ph un then 0 else 2) ∧ Below w.heap.size w w' := by
  refine start [] Try.func141 rfl (by decide +kernel) rfl [.agg [.int .i64 id, .int .i64 cap, .int .i64 ph, .int .i64 un]] rfl ⟨⟨trivial, trivial, trivial, trivial, trivial⟩, trivial⟩ ?_
  intro b hb
  repeat' (apply And.intro <;> intro h)
  all_goals
    intro w' hs
    refine ⟨?_, hs.below (Nat.le_refl _) (by simp [hb])⟩
    simp only [oneRes, XV.den, memberIs, decide_eq_true_eq, decide_eq_false_iff_not] at *
    congr 1
    split <;> omega
end Go.Proofs.Ytnldhkhnfodplaa
