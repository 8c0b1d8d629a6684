/- 'MarkBackSaid' is proved: the law MarkBack returns true at every input, and hands back what it read. Conditions: none beyond the statement's own. -/
import Derived.Test.YtbpbkmngbhgpfaaB7
namespace Go.Proofs.Ytbpbkmngbhgpfaa.MarkBackP
open Go Go.Vc Go.RowKit Go.ChangeShapes Go.WideShapes Go.ChangeAt Go.Joins
theorem opn67 : Opn Try.prog 67 (DT.den tAInst) (DT.enc tAInst) (DT.okD tAInst) := Opn.struct Try.underlying67 (by kernel_rfl) (OpnF.cons rfl (k := 1) (by kernel_rfl) (Opn.int (k := .i64) Try.underlying3) (OpnF.cons rfl (k := 1) (by kernel_rfl) (Opn.int (k := .i64) Try.underlying2) (OpnF.cons rfl (k := 1) (by kernel_rfl) (Opn.int (k := .i64) Try.underlying2) (OpnF.cons rfl (k := 1) (by kernel_rfl) (Opn.int (k := .i64) Try.underlying2) (OpnF.cons rfl (k := 1) (by kernel_rfl) (Opn.slice Try.underlying65 (k := 1) (by kernel_rfl) (Opn.int (k := .i64) Try.underlying2)) OpnF.nil)))))
theorem opn106 : Opn Try.prog 106 (DT.den tAUnit) (DT.enc tAUnit) (DT.okD tAUnit) := Opn.struct Try.underlying106 (by kernel_rfl) (OpnF.cons rfl (k := 1) (by kernel_rfl) (Opn.int (k := .i64) Try.underlying3) (OpnF.cons rfl (k := 1) (by kernel_rfl) (Opn.int (k := .i64) Try.underlying2) OpnF.nil))
theorem opn25 : Opn Try.prog 25 (DT.den tAUnit) (DT.enc tAUnit) (DT.okD tAUnit) := Opn.struct Try.underlying25 (by kernel_rfl) (OpnF.cons rfl (k := 1) (by kernel_rfl) (Opn.int (k := .i64) Try.underlying3) (OpnF.cons rfl (k := 1) (by kernel_rfl) (Opn.int (k := .i64) Try.underlying3) OpnF.nil))
theorem opn103 : Opn Try.prog 103 (DT.den tAPos) (DT.enc tAPos) (DT.okD tAPos) := Opn.struct Try.underlying103 (by kernel_rfl) (OpnF.cons rfl (k := 2) (by kernel_rfl) opn25 (OpnF.cons rfl (k := 1) (by kernel_rfl) (Opn.slice Try.underlying51 (k := 2) (by kernel_rfl) opn106) OpnF.nil))
theorem opn27 : Opn Try.prog 27 (DT.den tAFlow) (DT.enc tAFlow) (DT.okD tAFlow) := Opn.struct Try.underlying27 (by kernel_rfl) (OpnF.cons rfl (k := 2) (by kernel_rfl) opn25 (OpnF.cons rfl (k := 1) (by kernel_rfl) (Opn.int (k := .i64) Try.underlying2) OpnF.nil))
theorem walk (x0 : DT.den (.slc tAInst)) (x1 : DT.den (.slc tAPos)) (x2 : DT.den (.slc tAFlow)) (o0 : DT.okD (.slc tAInst) x0) (o1 : DT.okD (.slc tAPos) x1) (o2 : DT.okD (.slc tAFlow) x2) : Ct Try.prog 7 [DT.encA (.slc tAInst) x0, DT.encA (.slc tAPos) x1, DT.encA (.slc tAFlow) x2] (.val (.bool true)) :=
  Ct.of_q (law20_MarkBack_ok.ct (x0, x1, x2, ()) true (back_true x0 x1 x2 o0 o1 o2))
set_option maxRecDepth 100000 in
theorem lifted (os : Os) (started : os.Started) (H : Type) (enc : TypeId × Value → H) :
    ReturnsInHanded {} Try.checked os 7 .any (Rows.markBackSpec.pre6 enc Try.prog Try.f7 Rows.markBackRow.domain false) (Rows.markBackSpec.post enc Try.prog Try.f7 false true false false) := by
  refine returnsInHanded_of_change (C := Try.checked) own started (by kernel_rfl) Try.func7
    (ChangeSpec.witness6 (enc := enc) (C := Try.checked) false ⟨#[], #[.slice none 0 0, .slice none 0 0, .slice none 0 0], []⟩ 8 (by kernel_rfl) (by kernel_rfl) (by kernel_rfl) (by kernel_rfl)) ?_
  intro W base args ds gs before hval0 hW hcnd _
  have hval : ∀ (j : Nat) t v, Try.f7.params[j]? = some t → args[j]? = some v → Value.okWide Try.prog W .any base t v := hval0
  have hW' := hW
  obtain ⟨p, q, hA0, hV, rfl, hfz, hnd⟩ := hW
  have hA : DataW.TrodAll enc Try.prog W 0 (fun _ => true) true Try.f7.params.toList args.toList ds p := hA0
  rw [Try.params7] at hA hval
  obtain ⟨v0, vs0, d0, ds0, p0, q0, hargs, rfl, rfl, h0, r0⟩ := trodAll_cons hA
  obtain ⟨v1, vs1, d1, ds1, p1, q1, rfl, rfl, rfl, h1, r1⟩ := trodAll_cons r0
  obtain ⟨v2, vs2, d2, ds2, p2, q2, rfl, rfl, rfl, h2, r2⟩ := trodAll_cons r1
  obtain ⟨rfl, rfl, rfl⟩ := trodAll_nil r2
  obtain rfl : args = #[v0, v1, v2] := by cases args; simp_all
  obtain ⟨rfl, rfl⟩ := trodVars_none hV
  have lt0 := trod_places h0
  have k0 := h0
  have lt1 := trod_places h1
  have k1 := h1
  have lt2 := trod_places h2
  have k2 := h2
  obtain ⟨x0, o0, g0⟩ := open_slc (r := DT.encA (.slc tAInst)) Try.underlying50 (Opn.slice Try.underlying50 (k := 5) (by kernel_rfl) opn67) (fun _ => rfl) (hval 0 50 v0 rfl rfl) k0
  obtain ⟨x1, o1, g1⟩ := open_slc (r := DT.encA (.slc tAPos)) Try.underlying52 (Opn.slice Try.underlying52 (k := 3) (by kernel_rfl) opn103) (fun _ => rfl) (hval 1 52 v1 rfl rfl) k1
  obtain ⟨x2, o2, g2⟩ := open_slc (r := DT.encA (.slc tAFlow)) Try.underlying22 (Opn.slice Try.underlying22 (k := 3) (by kernel_rfl) opn27) (fun _ => rfl) (hval 2 22 v2 rfl rfl) k2
  clear hA0 hval0
  refine (Ct.says (walk x0 x1 x2 o0 o1 o2) (vs := [v0, v1, v2]) (w := W) ⟨_, _, rfl, g0, ⟨_, _, rfl, g1, ⟨_, _, rfl, g2, rfl⟩⟩⟩ ⟨_, Try.func7, by decide +kernel, rfl⟩).mono fun e W' ⟨he, bel⟩ => ?_
  subst he
  exact ⟨_, rfl, _, _, _, [], _, [], hW', trodAll_mk1 (shut_bool Try.underlying4 _),
    (trodAll_cons_mk (Below.trod laidOut (by kernel_rfl) (of_decide_eq_true (by kernel_rfl)) h0 bel lt0) (trodAll_cons_mk (Below.trod laidOut (by kernel_rfl) (of_decide_eq_true (by kernel_rfl)) h1 bel lt1) (trodAll_cons_mk (Below.trod laidOut (by kernel_rfl) (of_decide_eq_true (by kernel_rfl)) h2 bel lt2) trodAll_mk0))), rfl, bel.frame _, fun h => by cases h⟩

set_option maxRecDepth 1000000 in
theorem unf : Try.prog.unfollowed 7 = true := by
  unfold Program.unfollowed
  rw [closure_eq leads_ok]
  kernel_rfl
theorem rec : Try.prog.recurses 7 = true := by unfold Program.recurses; rw [unf]; rfl
set_option maxRecDepth 1000000 in
theorem closed : joinedFacts Try.pinned.checked.prog 7 Try.f7 Rows.markBackSpec Rows.markBackRow = true := by
  show joinedFacts Try.prog 7 Try.f7 Rows.markBackSpec Rows.markBackRow = true
  unfold joinedFacts
  rw [rec, unf]
  unfold Program.inPlace Program.varsNamed
  rw [closure_eq leads_ok]
  kernel_rfl
theorem over : Rows.markBackRow.holds Try.pinned (OpenSpec.ofChange Rows.markBackSpec) :=
  OpenClaim.holds_of_wide 7 Try.f7 rfl rfl rfl rfl rfl rfl rfl ⟨rfl, rfl, rfl, rfl, rfl⟩ rfl rfl rfl rfl rfl (by kernel_rfl) Try.func7 closed
    (of_decide_eq_true (by kernel_rfl)) (by unfold Func.isWrapper; first | (rw [if_pos (by decide +kernel)]; kernel_rfl) | (rw [if_neg (by decide +kernel)]; exact ⟨rfl, rfl⟩))
    (fun os started H enc _ => lifted os started H enc)

theorem proved : Rows.MarkBackSaid := over
#print axioms proved
end Go.Proofs.Ytbpbkmngbhgpfaa.MarkBackP
