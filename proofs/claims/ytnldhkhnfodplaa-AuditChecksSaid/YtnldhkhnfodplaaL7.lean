/- 'AuditChecksSaid' is proved: the law AuditChecks returns true at every input, and hands back what it read. Conditions: none beyond the statement's own. -/
import Derived.Test.YtnldhkhnfodplaaB6
namespace Go.Proofs.Ytnldhkhnfodplaa.AuditChecksP
open Go Go.Vc Go.RowKit Go.ChangeShapes Go.WideShapes Go.ChangeAt Go.Joins

set_option maxRecDepth 100000 in
theorem lifted (os : Os) (started : os.Started) (H : Type) (enc : TypeId × Value → H) :
    ReturnsInHanded {} Try.checked os 9 .any (Rows.auditChecksSpec.pre6 enc Try.prog Try.f9 Rows.auditChecksRow.domain false) (Rows.auditChecksSpec.post enc Try.prog Try.f9 false true false false) := by
  refine returnsInHanded_of_change (C := Try.checked) own started (by kernel_rfl) Try.func9
    (ChangeSpec.witness6 (enc := enc) (C := Try.checked) false ⟨#[], #[.agg #[.int .i64 0, .slice none 0 0, .slice none 0 0, .slice none 0 0, .slice none 0 0, .slice none 0 0, .slice none 0 0, .slice none 0 0, .slice none 0 0, .slice none 0 0, .slice none 0 0, .slice none 0 0], .slice none 0 0], []⟩ 8 (by kernel_rfl) (by kernel_rfl) (by kernel_rfl) (by kernel_rfl)) ?_
  intro W base args ds gs before hval0 hW hcnd _
  have hval : ∀ (j : Nat) t v, Try.f9.params[j]? = some t → args[j]? = some v → Value.okWide Try.prog W .any base t v := hval0
  have hW' := hW
  obtain ⟨p, q, hA0, hV, rfl, hfz, hnd⟩ := hW
  have hA : DataW.TrodAll enc Try.prog W 0 (fun _ => true) true Try.f9.params.toList args.toList ds p := hA0
  rw [Try.params9] at hA hval
  obtain ⟨v0, vs0, d0, ds0, p0, q0, hargs, rfl, rfl, h0, r0⟩ := trodAll_cons hA
  obtain ⟨v1, vs1, d1, ds1, p1, q1, rfl, rfl, rfl, h1, r1⟩ := trodAll_cons r0
  obtain ⟨rfl, rfl, rfl⟩ := trodAll_nil r1
  obtain rfl : args = #[v0, v1] := by cases args; simp_all
  obtain ⟨rfl, rfl⟩ := trodVars_none hV
  have lt0 := trod_places h0
  have k0 := h0
  have lt1 := trod_places h1
  have k1 := h1
  obtain ⟨x0, o0, g0⟩ := openS Try.underlying78 opn_AState (hval 0 78 v0 rfl rfl) k0
  obtain ⟨x1, o1, g1⟩ := open_slc (r := rADones) Try.underlying79 opn_ADones (fun _ => rfl) (hval 1 79 v1 rfl rfl) k1
  clear hA0 hval0
  refine (Ct.says (law39T x0 x1 o0 o1) (vs := [v0, v1]) (w := W) ⟨_, _, rfl, g0, ⟨_, _, rfl, g1, rfl⟩⟩ ⟨_, Try.func9, by decide +kernel, rfl⟩).mono fun e W' ⟨he, bel⟩ => ?_
  subst he
  exact ⟨_, rfl, _, _, _, [], _, [], hW', trodAll_mk1 (shut_bool Try.underlying4 _),
    (trodAll_cons_mk (Below.trod laidOut (by kernel_rfl) (of_decide_eq_true (by kernel_rfl)) h0 bel lt0) (trodAll_cons_mk (Below.trod laidOut (by kernel_rfl) (of_decide_eq_true (by kernel_rfl)) h1 bel lt1) trodAll_mk0)), rfl, bel.frame _, fun h => by cases h⟩

set_option maxRecDepth 1000000 in
theorem unf : Try.prog.unfollowed 9 = false := by
  unfold Program.unfollowed
  rw [closure_eq leads_ok]
  kernel_rfl
theorem rec : Try.prog.recurses 9 = false := recurses_no leads_ok rank_ok (by decide +kernel) unf
set_option maxRecDepth 1000000 in
theorem closed : joinedFacts Try.pinned.checked.prog 9 Try.f9 Rows.auditChecksSpec Rows.auditChecksRow = true := by
  show joinedFacts Try.prog 9 Try.f9 Rows.auditChecksSpec Rows.auditChecksRow = true
  unfold joinedFacts
  rw [rec, unf]
  unfold Program.inPlace Program.varsNamed
  rw [closure_eq leads_ok]
  kernel_rfl
theorem over : Rows.auditChecksRow.holds Try.pinned (OpenSpec.ofChange Rows.auditChecksSpec) :=
  OpenClaim.holds_of_wide 9 Try.f9 rfl rfl rfl rfl rfl rfl rfl ⟨rfl, rfl, rfl, rfl, rfl⟩ rfl rfl rfl rfl rfl (by kernel_rfl) Try.func9 closed
    (of_decide_eq_true (by kernel_rfl)) (by unfold Func.isWrapper; first | (rw [if_pos (by decide +kernel)]; kernel_rfl) | (rw [if_neg (by decide +kernel)]; exact ⟨rfl, rfl⟩))
    (fun os started H enc _ => lifted os started H enc)

theorem proved : Rows.AuditChecksSaid := over
#print axioms proved
end Go.Proofs.Ytnldhkhnfodplaa.AuditChecksP
