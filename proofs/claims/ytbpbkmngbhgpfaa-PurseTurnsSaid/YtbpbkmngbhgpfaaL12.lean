/- 'PurseTurnsSaid' is proved: the law PurseTurns returns true at every input, and hands back what it read. Conditions: none beyond the statement's own. -/
import Derived.Test.YtbpbkmngbhgpfaaB6
namespace Go.Proofs.Ytbpbkmngbhgpfaa.PurseTurnsP
open Go Go.Vc Go.RowKit Go.ChangeShapes Go.WideShapes Go.ChangeAt Go.Joins
theorem opn25 : Opn Try.prog 25 (DT.den tAUnit) (DT.enc tAUnit) (DT.okD tAUnit) := Opn.struct Try.underlying25 (by kernel_rfl) (OpnF.cons rfl (k := 1) (by kernel_rfl) (Opn.int (k := .i64) Try.underlying3) (OpnF.cons rfl (k := 1) (by kernel_rfl) (Opn.int (k := .i64) Try.underlying3) OpnF.nil))
theorem opn27 : Opn Try.prog 27 (DT.den tAFlow) (DT.enc tAFlow) (DT.okD tAFlow) := Opn.struct Try.underlying27 (by kernel_rfl) (OpnF.cons rfl (k := 2) (by kernel_rfl) opn25 (OpnF.cons rfl (k := 1) (by kernel_rfl) (Opn.int (k := .i64) Try.underlying2) OpnF.nil))
theorem walk (x0 : DT.den (.slc tAFlow)) (x1 : DT.den (.slc tAFlow)) (o0 : DT.okD (.slc tAFlow) x0) (o1 : DT.okD (.slc tAFlow) x1) : Ct Try.prog 3 [DT.encA (.slc tAFlow) x0, DT.encA (.slc tAFlow) x1] (.val (.bool true)) :=
  Ct.of_q (law17_PurseTurns_ok.ct (x0, x1, ()) true (turns_true x0 x1 o0 o1))
set_option maxRecDepth 100000 in
theorem lifted (os : Os) (started : os.Started) (H : Type) (enc : TypeId × Value → H) :
    ReturnsInHanded {} Try.checked os 3 .any (Rows.purseTurnsSpec.pre6 enc Try.prog Try.f3 Rows.purseTurnsRow.domain false) (Rows.purseTurnsSpec.post enc Try.prog Try.f3 false true false false) := by
  refine returnsInHanded_of_change (C := Try.checked) own started (by kernel_rfl) Try.func3
    (ChangeSpec.witness6 (enc := enc) (C := Try.checked) false ⟨#[], #[.slice none 0 0, .slice none 0 0], []⟩ 8 (by kernel_rfl) (by kernel_rfl) (by kernel_rfl) (by kernel_rfl)) ?_
  intro W base args ds gs before hval0 hW hcnd _
  have hval : ∀ (j : Nat) t v, Try.f3.params[j]? = some t → args[j]? = some v → Value.okWide Try.prog W .any base t v := hval0
  have hW' := hW
  obtain ⟨p, q, hA0, hV, rfl, hfz, hnd⟩ := hW
  have hA : DataW.TrodAll enc Try.prog W 0 (fun _ => true) true Try.f3.params.toList args.toList ds p := hA0
  rw [Try.params3] at hA hval
  obtain ⟨v0, vs0, d0, ds0, p0, q0, hargs, rfl, rfl, h0, r0⟩ := trodAll_cons hA
  obtain ⟨v1, vs1, d1, ds1, p1, q1, rfl, rfl, rfl, h1, r1⟩ := trodAll_cons r0
  obtain ⟨rfl, rfl, rfl⟩ := trodAll_nil r1
  obtain rfl : args = #[v0, v1] := by cases args; simp_all
  obtain ⟨rfl, rfl⟩ := trodVars_none hV
  have lt0 := trod_places h0
  have k0 := h0
  have lt1 := trod_places h1
  have k1 := h1
  obtain ⟨x0, o0, g0⟩ := open_slc (r := DT.encA (.slc tAFlow)) Try.underlying22 (Opn.slice Try.underlying22 (k := 3) (by kernel_rfl) opn27) (fun _ => rfl) (hval 0 22 v0 rfl rfl) k0
  obtain ⟨x1, o1, g1⟩ := open_slc (r := DT.encA (.slc tAFlow)) Try.underlying22 (Opn.slice Try.underlying22 (k := 3) (by kernel_rfl) opn27) (fun _ => rfl) (hval 1 22 v1 rfl rfl) k1
  clear hA0 hval0
  refine (Ct.says (walk x0 x1 o0 o1) (vs := [v0, v1]) (w := W) ⟨_, _, rfl, g0, ⟨_, _, rfl, g1, rfl⟩⟩ ⟨_, Try.func3, by decide +kernel, rfl⟩).mono fun e W' ⟨he, bel⟩ => ?_
  subst he
  exact ⟨_, rfl, _, _, _, [], _, [], hW', trodAll_mk1 (shut_bool Try.underlying4 _),
    (trodAll_cons_mk (Below.trod laidOut (by kernel_rfl) (of_decide_eq_true (by kernel_rfl)) h0 bel lt0) (trodAll_cons_mk (Below.trod laidOut (by kernel_rfl) (of_decide_eq_true (by kernel_rfl)) h1 bel lt1) trodAll_mk0)), rfl, bel.frame _, fun h => by cases h⟩

set_option maxRecDepth 1000000 in
theorem unf : Try.prog.unfollowed 3 = true := by
  unfold Program.unfollowed
  rw [closure_eq leads_ok]
  kernel_rfl
theorem rec : Try.prog.recurses 3 = true := by unfold Program.recurses; rw [unf]; rfl
set_option maxRecDepth 1000000 in
theorem closed : joinedFacts Try.pinned.checked.prog 3 Try.f3 Rows.purseTurnsSpec Rows.purseTurnsRow = true := by
  show joinedFacts Try.prog 3 Try.f3 Rows.purseTurnsSpec Rows.purseTurnsRow = true
  unfold joinedFacts
  rw [rec, unf]
  unfold Program.inPlace Program.varsNamed
  rw [closure_eq leads_ok]
  kernel_rfl
theorem over : Rows.purseTurnsRow.holds Try.pinned (OpenSpec.ofChange Rows.purseTurnsSpec) :=
  OpenClaim.holds_of_wide 3 Try.f3 rfl rfl rfl rfl rfl rfl rfl ⟨rfl, rfl, rfl, rfl, rfl⟩ rfl rfl rfl rfl rfl (by kernel_rfl) Try.func3 closed
    (of_decide_eq_true (by kernel_rfl)) (by unfold Func.isWrapper; first | (rw [if_pos (by decide +kernel)]; kernel_rfl) | (rw [if_neg (by decide +kernel)]; exact ⟨rfl, rfl⟩))
    (fun os started H enc _ => lifted os started H enc)

theorem proved : Rows.PurseTurnsSaid := over
#print axioms proved
end Go.Proofs.Ytbpbkmngbhgpfaa.PurseTurnsP
