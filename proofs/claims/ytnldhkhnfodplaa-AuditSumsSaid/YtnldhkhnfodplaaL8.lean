/- 'AuditSumsSaid' is proved: the law AuditSums returns true at every input, and hands back what it read. Conditions: none beyond the statement's own. -/
import Derived.Test.YtnldhkhnfodplaaB6
namespace Go.Proofs.Ytnldhkhnfodplaa.AuditSumsP
open Go Go.Vc Go.RowKit Go.ChangeShapes Go.WideShapes Go.ChangeAt Go.Joins
theorem opn200 : Opn Try.prog 200 (DT.den tALot) (DT.enc tALot) (DT.okD tALot) := Opn.struct Try.underlying200 (by kernel_rfl) (OpnF.cons rfl (k := 1) (by kernel_rfl) (Opn.int (k := .i64) Try.underlying3) (OpnF.cons rfl (k := 1) (by kernel_rfl) (Opn.int (k := .i64) Try.underlying3) (OpnF.cons rfl (k := 1) (by kernel_rfl) (Opn.int (k := .i64) Try.underlying2) OpnF.nil)))
theorem opn85 : Opn Try.prog 85 (DT.den tAUnit) (DT.enc tAUnit) (DT.okD tAUnit) := Opn.struct Try.underlying85 (by kernel_rfl) (OpnF.cons rfl (k := 1) (by kernel_rfl) (Opn.int (k := .i64) Try.underlying3) (OpnF.cons rfl (k := 1) (by kernel_rfl) (Opn.int (k := .i64) Try.underlying3) OpnF.nil))
theorem opn163 : Opn Try.prog 163 (DT.den tAReturn) (DT.enc tAReturn) (DT.okD tAReturn) := Opn.struct Try.underlying163 (by kernel_rfl) (OpnF.cons rfl (k := 2) (by kernel_rfl) opn85 (OpnF.cons rfl (k := 1) (by kernel_rfl) (Opn.int (k := .i64) Try.underlying2) (OpnF.cons rfl (k := 1) (by kernel_rfl) (Opn.slice Try.underlying161 (k := 3) (by kernel_rfl) opn200) OpnF.nil)))
theorem opn174 : Opn Try.prog 174 (DT.den tADebit) (DT.enc tADebit) (DT.okD tADebit) := Opn.struct Try.underlying174 (by kernel_rfl) (OpnF.cons rfl (k := 2) (by kernel_rfl) opn85 (OpnF.cons rfl (k := 2) (by kernel_rfl) opn85 (OpnF.cons rfl (k := 1) (by kernel_rfl) (Opn.int (k := .i64) Try.underlying2) OpnF.nil)))
theorem opn122 : Opn Try.prog 122 (DT.den tAReply) (DT.enc tAReply) (DT.okD tAReply) := Opn.struct Try.underlying122 (by kernel_rfl) (OpnF.cons rfl (k := 1) (by kernel_rfl) (Opn.int (k := .i64) Try.underlying25) (OpnF.cons rfl (k := 1) (by kernel_rfl) (Opn.slice Try.underlying42 (k := 1) (by kernel_rfl) (Opn.int (k := .i64) Try.underlying2)) (OpnF.cons rfl (k := 1) (by kernel_rfl) (Opn.slice Try.underlying99 (k := 5) (by kernel_rfl) opn174) (OpnF.cons rfl (k := 1) (by kernel_rfl) (Opn.slice Try.underlying120 (k := 4) (by kernel_rfl) opn163) OpnF.nil))))
theorem opn105 : Opn Try.prog 105 (DT.den tACommand) (DT.enc tACommand) (DT.okD tACommand) := Opn.struct Try.underlying105 (by kernel_rfl) (OpnF.cons rfl (k := 1) (by kernel_rfl) (Opn.int (k := .i64) Try.underlying3) (OpnF.cons rfl (k := 1) (by kernel_rfl) (Opn.int (k := .i64) Try.underlying3) (OpnF.cons rfl (k := 1) (by kernel_rfl) (Opn.int (k := .i64) Try.underlying3) (OpnF.cons rfl (k := 2) (by kernel_rfl) opn85 (OpnF.cons rfl (k := 2) (by kernel_rfl) opn85 (OpnF.cons rfl (k := 1) (by kernel_rfl) (Opn.int (k := .i64) Try.underlying3) (OpnF.cons rfl (k := 1) (by kernel_rfl) (Opn.int (k := .i64) Try.underlying3) (OpnF.cons rfl (k := 1) (by kernel_rfl) (Opn.int (k := .i64) Try.underlying3) (OpnF.cons rfl (k := 1) (by kernel_rfl) (Opn.int (k := .i64) Try.underlying3) (OpnF.cons rfl (k := 1) (by kernel_rfl) (Opn.int (k := .i64) Try.underlying2) (OpnF.cons rfl (k := 1) (by kernel_rfl) (Opn.int (k := .i64) Try.underlying2) (OpnF.cons rfl (k := 1) (by kernel_rfl) (Opn.slice Try.underlying42 (k := 1) (by kernel_rfl) (Opn.int (k := .i64) Try.underlying2)) OpnF.nil))))))))))))
theorem opn160 : Opn Try.prog 160 (DT.den tADone) (DT.enc tADone) (DT.okD tADone) := Opn.struct Try.underlying160 (by kernel_rfl) (OpnF.cons rfl (k := 14) (by kernel_rfl) opn105 (OpnF.cons rfl (k := 4) (by kernel_rfl) opn122 OpnF.nil))
theorem walk (x0 : DT.den (.slc tADone)) (x1 : DT.den (.int .i64)) (x2 : DT.den tAUnit) (o0 : DT.okD (.slc tADone) x0) (o1 : DT.okD (.int .i64) x1) (o2 : DT.okD tAUnit x2) : Ct Try.prog 10 [DT.encA (.slc tADone) x0, DT.encA (.int .i64) x1, DT.encA tAUnit x2] (.val (.bool true)) :=
  Ct.of_q (law39_AuditSums_ok.ct (x0, x1, x2, ()) true (auditSums_true x0 x1 x2 o0 o1 o2))
set_option maxRecDepth 100000 in
theorem lifted (os : Os) (started : os.Started) (H : Type) (enc : TypeId × Value → H) :
    ReturnsInHanded {} Try.checked os 10 .any (Rows.auditSumsSpec.pre6 enc Try.prog Try.f10 Rows.auditSumsRow.domain false) (Rows.auditSumsSpec.post enc Try.prog Try.f10 false true false false) := by
  refine returnsInHanded_of_change (C := Try.checked) own started (by kernel_rfl) Try.func10
    (ChangeSpec.witness6 (enc := enc) (C := Try.checked) false ⟨#[], #[.slice none 0 0, .int .i64 0, .agg #[.int .i64 0, .int .i64 0]], []⟩ 8 (by kernel_rfl) (by kernel_rfl) (by kernel_rfl) (by kernel_rfl)) ?_
  intro W base args ds gs before hval0 hW hcnd _
  have hval : ∀ (j : Nat) t v, Try.f10.params[j]? = some t → args[j]? = some v → Value.okWide Try.prog W .any base t v := hval0
  have hW' := hW
  obtain ⟨p, q, hA0, hV, rfl, hfz, hnd⟩ := hW
  have hA : DataW.TrodAll enc Try.prog W 0 (fun _ => true) true Try.f10.params.toList args.toList ds p := hA0
  rw [Try.params10] at hA hval
  obtain ⟨v0, vs0, d0, ds0, p0, q0, hargs, rfl, rfl, h0, r0⟩ := trodAll_cons hA
  obtain ⟨v1, vs1, d1, ds1, p1, q1, rfl, rfl, rfl, h1, r1⟩ := trodAll_cons r0
  obtain ⟨v2, vs2, d2, ds2, p2, q2, rfl, rfl, rfl, h2, r2⟩ := trodAll_cons r1
  obtain ⟨rfl, rfl, rfl⟩ := trodAll_nil r2
  obtain rfl : args = #[v0, v1, v2] := by cases args; simp_all
  obtain ⟨rfl, rfl⟩ := trodVars_none hV
  have lt0 := trod_places h0
  have k0 := h0
  have lt1 := trod_places h1
  have k1 := h1
  have lt2 := trod_places h2
  have k2 := h2
  obtain ⟨x0, o0, g0⟩ := open_slc (r := DT.encA (.slc tADone)) Try.underlying79 (Opn.slice Try.underlying79 (k := 18) (by kernel_rfl) opn160) (fun _ => rfl) (hval 0 79 v0 rfl rfl) k0
  obtain ⟨x1, o1, g1⟩ := open_int' (r := DT.encA (.int .i64)) Try.underlying3 (Opn.int (k := .i64) Try.underlying3) (fun _ => rfl) (hval 1 3 v1 rfl rfl) k1
  obtain ⟨x2, o2, g2⟩ := openS Try.underlying85 opn85 (hval 2 85 v2 rfl rfl) k2
  clear hA0 hval0
  refine (Ct.says (walk x0 x1 x2 o0 o1 o2) (vs := [v0, v1, v2]) (w := W) ⟨_, _, rfl, g0, ⟨_, _, rfl, g1, ⟨_, _, rfl, g2, rfl⟩⟩⟩ ⟨_, Try.func10, by decide +kernel, rfl⟩).mono fun e W' ⟨he, bel⟩ => ?_
  subst he
  exact ⟨_, rfl, _, _, _, [], _, [], hW', trodAll_mk1 (shut_bool Try.underlying4 _),
    (trodAll_cons_mk (Below.trod laidOut (by kernel_rfl) (of_decide_eq_true (by kernel_rfl)) h0 bel lt0) (trodAll_cons_mk (Below.trod laidOut (by kernel_rfl) (of_decide_eq_true (by kernel_rfl)) h1 bel lt1) (trodAll_cons_mk (Below.trod laidOut (by kernel_rfl) (of_decide_eq_true (by kernel_rfl)) h2 bel lt2) trodAll_mk0))), rfl, bel.frame _, fun h => by cases h⟩

set_option maxRecDepth 1000000 in
theorem unf : Try.prog.unfollowed 10 = true := by
  unfold Program.unfollowed
  rw [closure_eq leads_ok]
  kernel_rfl
theorem rec : Try.prog.recurses 10 = true := by unfold Program.recurses; rw [unf]; rfl
set_option maxRecDepth 1000000 in
theorem closed : joinedFacts Try.pinned.checked.prog 10 Try.f10 Rows.auditSumsSpec Rows.auditSumsRow = true := by
  show joinedFacts Try.prog 10 Try.f10 Rows.auditSumsSpec Rows.auditSumsRow = true
  unfold joinedFacts
  rw [rec, unf]
  unfold Program.inPlace Program.varsNamed
  rw [closure_eq leads_ok]
  kernel_rfl
theorem over : Rows.auditSumsRow.holds Try.pinned (OpenSpec.ofChange Rows.auditSumsSpec) :=
  OpenClaim.holds_of_wide 10 Try.f10 rfl rfl rfl rfl rfl rfl rfl ⟨rfl, rfl, rfl, rfl, rfl⟩ rfl rfl rfl rfl rfl (by kernel_rfl) Try.func10 closed
    (of_decide_eq_true (by kernel_rfl)) (by unfold Func.isWrapper; first | (rw [if_pos (by decide +kernel)]; kernel_rfl) | (rw [if_neg (by decide +kernel)]; exact ⟨rfl, rfl⟩))
    (fun os started H enc _ => lifted os started H enc)

theorem proved : Rows.AuditSumsSaid := over
#print axioms proved
end Go.Proofs.Ytnldhkhnfodplaa.AuditSumsP
