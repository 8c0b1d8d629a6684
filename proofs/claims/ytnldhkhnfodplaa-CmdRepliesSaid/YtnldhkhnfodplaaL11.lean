/- 'CmdRepliesSaid' is proved: the law CmdReplies returns true at every input, and hands back what it read. Conditions: none beyond the statement's own. -/
import Derived.Test.YtnldhkhnfodplaaB6
namespace Go.Proofs.Ytnldhkhnfodplaa.CmdRepliesP
open Go Go.Vc Go.RowKit Go.ChangeShapes Go.WideShapes Go.ChangeAt Go.Joins
theorem opn200 : Opn Try.prog 200 (DT.den tALot) (DT.enc tALot) (DT.okD tALot) := Opn.struct Try.underlying200 (by kernel_rfl) (OpnF.cons rfl (k := 1) (by kernel_rfl) (Opn.int (k := .i64) Try.underlying3) (OpnF.cons rfl (k := 1) (by kernel_rfl) (Opn.int (k := .i64) Try.underlying3) (OpnF.cons rfl (k := 1) (by kernel_rfl) (Opn.int (k := .i64) Try.underlying2) OpnF.nil)))
theorem opn85 : Opn Try.prog 85 (DT.den tAUnit) (DT.enc tAUnit) (DT.okD tAUnit) := Opn.struct Try.underlying85 (by kernel_rfl) (OpnF.cons rfl (k := 1) (by kernel_rfl) (Opn.int (k := .i64) Try.underlying3) (OpnF.cons rfl (k := 1) (by kernel_rfl) (Opn.int (k := .i64) Try.underlying3) OpnF.nil))
theorem opn163 : Opn Try.prog 163 (DT.den tAReturn) (DT.enc tAReturn) (DT.okD tAReturn) := Opn.struct Try.underlying163 (by kernel_rfl) (OpnF.cons rfl (k := 2) (by kernel_rfl) opn85 (OpnF.cons rfl (k := 1) (by kernel_rfl) (Opn.int (k := .i64) Try.underlying2) (OpnF.cons rfl (k := 1) (by kernel_rfl) (Opn.slice Try.underlying161 (k := 3) (by kernel_rfl) opn200) OpnF.nil)))
theorem opn174 : Opn Try.prog 174 (DT.den tADebit) (DT.enc tADebit) (DT.okD tADebit) := Opn.struct Try.underlying174 (by kernel_rfl) (OpnF.cons rfl (k := 2) (by kernel_rfl) opn85 (OpnF.cons rfl (k := 2) (by kernel_rfl) opn85 (OpnF.cons rfl (k := 1) (by kernel_rfl) (Opn.int (k := .i64) Try.underlying2) OpnF.nil)))
theorem opn122 : Opn Try.prog 122 (DT.den tAReply) (DT.enc tAReply) (DT.okD tAReply) := Opn.struct Try.underlying122 (by kernel_rfl) (OpnF.cons rfl (k := 1) (by kernel_rfl) (Opn.int (k := .i64) Try.underlying25) (OpnF.cons rfl (k := 1) (by kernel_rfl) (Opn.slice Try.underlying42 (k := 1) (by kernel_rfl) (Opn.int (k := .i64) Try.underlying2)) (OpnF.cons rfl (k := 1) (by kernel_rfl) (Opn.slice Try.underlying99 (k := 5) (by kernel_rfl) opn174) (OpnF.cons rfl (k := 1) (by kernel_rfl) (Opn.slice Try.underlying120 (k := 4) (by kernel_rfl) opn163) OpnF.nil))))
theorem walk (x0 : DT.den tAReply) (x1 : DT.den (.slc (.int .u8))) (o0 : DT.okD tAReply x0) (o1 : DT.okD (.slc (.int .u8)) x1) : Ct Try.prog 13 [DT.encA tAReply x0, DT.encA (.slc (.int .u8)) x1] (.val (.bool true)) :=
  Ct.of_q (law34_CmdReplies_ok.ct (x0, x1, ()) true (cmdReplies_true x0 x1 o0 o1))
set_option maxRecDepth 100000 in
theorem lifted (os : Os) (started : os.Started) (H : Type) (enc : TypeId × Value → H) :
    ReturnsInHanded {} Try.checked os 13 .any (Rows.cmdRepliesSpec.pre6 enc Try.prog Try.f13 Rows.cmdRepliesRow.domain false) (Rows.cmdRepliesSpec.post enc Try.prog Try.f13 false true false false) := by
  refine returnsInHanded_of_change (C := Try.checked) own started (by kernel_rfl) Try.func13
    (ChangeSpec.witness6 (enc := enc) (C := Try.checked) false ⟨#[], #[.agg #[.int .i64 0, .slice none 0 0, .slice none 0 0, .slice none 0 0], .slice none 0 0], []⟩ 8 (by kernel_rfl) (by kernel_rfl) (by kernel_rfl) (by kernel_rfl)) ?_
  intro W base args ds gs before hval0 hW hcnd _
  have hval : ∀ (j : Nat) t v, Try.f13.params[j]? = some t → args[j]? = some v → Value.okWide Try.prog W .any base t v := hval0
  have hW' := hW
  obtain ⟨p, q, hA0, hV, rfl, hfz, hnd⟩ := hW
  have hA : DataW.TrodAll enc Try.prog W 0 (fun _ => true) true Try.f13.params.toList args.toList ds p := hA0
  rw [Try.params13] at hA hval
  obtain ⟨v0, vs0, d0, ds0, p0, q0, hargs, rfl, rfl, h0, r0⟩ := trodAll_cons hA
  obtain ⟨v1, vs1, d1, ds1, p1, q1, rfl, rfl, rfl, h1, r1⟩ := trodAll_cons r0
  obtain ⟨rfl, rfl, rfl⟩ := trodAll_nil r1
  obtain rfl : args = #[v0, v1] := by cases args; simp_all
  obtain ⟨rfl, rfl⟩ := trodVars_none hV
  have lt0 := trod_places h0
  have k0 := h0
  have lt1 := trod_places h1
  have k1 := h1
  obtain ⟨x0, o0, g0⟩ := openS Try.underlying122 opn122 (hval 0 122 v0 rfl rfl) k0
  obtain ⟨x1, o1, g1⟩ := open_slc (r := DT.encA (.slc (.int .u8))) Try.underlying41 (Opn.slice Try.underlying41 (k := 1) (by kernel_rfl) (Opn.int (k := .u8) Try.underlying5)) (fun _ => rfl) (hval 1 41 v1 rfl rfl) k1
  clear hA0 hval0
  refine (Ct.says (walk x0 x1 o0 o1) (vs := [v0, v1]) (w := W) ⟨_, _, rfl, g0, ⟨_, _, rfl, g1, rfl⟩⟩ ⟨_, Try.func13, by decide +kernel, rfl⟩).mono fun e W' ⟨he, bel⟩ => ?_
  subst he
  exact ⟨_, rfl, _, _, _, [], _, [], hW', trodAll_mk1 (shut_bool Try.underlying4 _),
    (trodAll_cons_mk (Below.trod laidOut (by kernel_rfl) (of_decide_eq_true (by kernel_rfl)) h0 bel lt0) (trodAll_cons_mk (Below.trod laidOut (by kernel_rfl) (of_decide_eq_true (by kernel_rfl)) h1 bel lt1) trodAll_mk0)), rfl, bel.frame _, fun h => by cases h⟩

set_option maxRecDepth 1000000 in
theorem unf : Try.prog.unfollowed 13 = false := by
  unfold Program.unfollowed
  rw [closure_eq leads_ok]
  kernel_rfl
theorem rec : Try.prog.recurses 13 = false := recurses_no leads_ok rank_ok (by decide +kernel) unf
set_option maxRecDepth 1000000 in
theorem closed : joinedFacts Try.pinned.checked.prog 13 Try.f13 Rows.cmdRepliesSpec Rows.cmdRepliesRow = true := by
  show joinedFacts Try.prog 13 Try.f13 Rows.cmdRepliesSpec Rows.cmdRepliesRow = true
  unfold joinedFacts
  rw [rec, unf]
  unfold Program.inPlace Program.varsNamed
  rw [closure_eq leads_ok]
  kernel_rfl
theorem over : Rows.cmdRepliesRow.holds Try.pinned (OpenSpec.ofChange Rows.cmdRepliesSpec) :=
  OpenClaim.holds_of_wide 13 Try.f13 rfl rfl rfl rfl rfl rfl rfl ⟨rfl, rfl, rfl, rfl, rfl⟩ rfl rfl rfl rfl rfl (by kernel_rfl) Try.func13 closed
    (of_decide_eq_true (by kernel_rfl)) (by unfold Func.isWrapper; first | (rw [if_pos (by decide +kernel)]; kernel_rfl) | (rw [if_neg (by decide +kernel)]; exact ⟨rfl, rfl⟩))
    (fun os started H enc _ => lifted os started H enc)

theorem proved : Rows.CmdRepliesSaid := over
#print axioms proved
end Go.Proofs.Ytnldhkhnfodplaa.CmdRepliesP
