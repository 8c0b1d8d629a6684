/- 'DealGoesSaid' is proved: the law DealGoes returns true at every input, and hands back what it read. Conditions: none beyond the statement's own. -/
import Derived.Test.YtbpbkmngbhgpfaaGreatB7
namespace Go.Proofs.YtbpbkmngbhgpfaaGreat.DealGoesP
open Go Go.Vc Go.RowKit Go.ChangeShapes Go.WideShapes Go.ChangeAt Go.Joins
theorem opn136 : Opn Tryz.prog 136 (DT.den tAUnit) (DT.enc tAUnit) (DT.okD tAUnit) := Opn.struct Tryz.underlying136 (by kernel_rfl) (OpnF.cons rfl (k := 1) (by kernel_rfl) (Opn.int (k := .i64) Tryz.underlying3) (OpnF.cons rfl (k := 1) (by kernel_rfl) (Opn.int (k := .i64) Tryz.underlying2) OpnF.nil))
theorem opn35 : Opn Tryz.prog 35 (DT.den tAUnit) (DT.enc tAUnit) (DT.okD tAUnit) := Opn.struct Tryz.underlying35 (by kernel_rfl) (OpnF.cons rfl (k := 1) (by kernel_rfl) (Opn.int (k := .i64) Tryz.underlying3) (OpnF.cons rfl (k := 1) (by kernel_rfl) (Opn.int (k := .i64) Tryz.underlying3) OpnF.nil))
theorem opn198 : Opn Tryz.prog 198 (DT.den tAPos) (DT.enc tAPos) (DT.okD tAPos) := Opn.struct Tryz.underlying198 (by kernel_rfl) (OpnF.cons rfl (k := 2) (by kernel_rfl) opn35 (OpnF.cons rfl (k := 1) (by kernel_rfl) (Opn.slice Tryz.underlying137 (k := 2) (by kernel_rfl) opn136) OpnF.nil))
theorem opn111 : Opn Tryz.prog 111 (DT.den tAFlow) (DT.enc tAFlow) (DT.okD tAFlow) := Opn.struct Tryz.underlying111 (by kernel_rfl) (OpnF.cons rfl (k := 2) (by kernel_rfl) opn35 (OpnF.cons rfl (k := 1) (by kernel_rfl) (Opn.int (k := .i64) Tryz.underlying2) OpnF.nil))
theorem opn76 : Opn Tryz.prog 76 (DT.den tAInst) (DT.enc tAInst) (DT.okD tAInst) := Opn.struct Tryz.underlying76 (by kernel_rfl) (OpnF.cons rfl (k := 1) (by kernel_rfl) (Opn.int (k := .i64) Tryz.underlying3) (OpnF.cons rfl (k := 1) (by kernel_rfl) (Opn.int (k := .i64) Tryz.underlying2) (OpnF.cons rfl (k := 1) (by kernel_rfl) (Opn.int (k := .i64) Tryz.underlying2) (OpnF.cons rfl (k := 1) (by kernel_rfl) (Opn.int (k := .i64) Tryz.underlying2) (OpnF.cons rfl (k := 1) (by kernel_rfl) (Opn.slice Tryz.underlying74 (k := 1) (by kernel_rfl) (Opn.int (k := .i64) Tryz.underlying2)) OpnF.nil)))))
theorem walk (x0 : DT.den (.slc tAPos)) (x1 : DT.den (.slc tAFlow)) (x2 : DT.den tAInst) (x3 : DT.den tAUnit) (x4 : DT.den tAUnit) (x5 : DT.den (.int .i64)) (x6 : DT.den (.int .i64)) (o0 : DT.okD (.slc tAPos) x0) (o1 : DT.okD (.slc tAFlow) x1) (o2 : DT.okD tAInst x2) (o3 : DT.okD tAUnit x3) (o4 : DT.okD tAUnit x4) (o5 : DT.okD (.int .i64) x5) (o6 : DT.okD (.int .i64) x6) : Ct Tryz.prog 5 [DT.encA (.slc tAPos) x0, DT.encA (.slc tAFlow) x1, DT.encA tAInst x2, DT.encA tAUnit x3, DT.encA tAUnit x4, DT.encA (.int .i64) x5, DT.encA (.int .i64) x6] (.val (.bool true)) :=
 Ct.of_q (ztm.ct (x0, x1, x2, x3, x4, x5, x6, ()) true (goes_true x0 x1 x2 x3 x4 x5 x6 o0 o1 o2 o3 o4 o5 o6))
set_option maxRecDepth 100000 in
theorem lifted (os : Os) (started : os.Started) (H : Type) (enc : TypeId × Value → H) :
  ReturnsInHanded {} Tryz.checked os 5 .any (Rows.dealGoesSpec.pre6 enc Tryz.prog Tryz.f5 Rows.dealGoesRow.domain false) (Rows.dealGoesSpec.post enc Tryz.prog Tryz.f5 false true false false) := by
 refine returnsInHanded_of_change (C := Tryz.checked) own started (by kernel_rfl) Tryz.func5
  (ChangeSpec.witness6 (enc := enc) (C := Tryz.checked) false ⟨#[], #[.slice none 0 0, .slice none 0 0, .agg #[.int .i64 0, .int .i64 0, .int .i64 0, .int .i64 0, .slice none 0 0], .agg #[.int .i64 0, .int .i64 0], .agg #[.int .i64 0, .int .i64 0], .int .i64 0, .int .i64 0], []⟩ 8 (by kernel_rfl) (by kernel_rfl) (by kernel_rfl) (by kernel_rfl)) ?_
 intro W base args ds gs before hval0 hW hcnd _
 have hval : ∀ (j : Nat) t v, Tryz.f5.params[j]? = some t → args[j]? = some v → Value.okWide Tryz.prog W .any base t v := hval0
 have hW' := hW
 obtain ⟨p, q, hA0, hV, rfl, hfz, hnd⟩ := hW
 have hA : DataW.TrodAll enc Tryz.prog W 0 (fun _ => true) true Tryz.f5.params.toList args.toList ds p := hA0
 rw [Tryz.params5] at hA hval
 obtain ⟨v0, vs0, d0, ds0, p0, q0, hargs, rfl, rfl, h0, r0⟩ := trodAll_cons hA
 obtain ⟨v1, vs1, d1, ds1, p1, q1, rfl, rfl, rfl, h1, r1⟩ := trodAll_cons r0
 obtain ⟨v2, vs2, d2, ds2, p2, q2, rfl, rfl, rfl, h2, r2⟩ := trodAll_cons r1
 obtain ⟨v3, vs3, d3, ds3, p3, q3, rfl, rfl, rfl, h3, r3⟩ := trodAll_cons r2
 obtain ⟨v4, vs4, d4, ds4, p4, q4, rfl, rfl, rfl, h4, r4⟩ := trodAll_cons r3
 obtain ⟨v5, vs5, d5, ds5, p5, q5, rfl, rfl, rfl, h5, r5⟩ := trodAll_cons r4
 obtain ⟨v6, vs6, d6, ds6, p6, q6, rfl, rfl, rfl, h6, r6⟩ := trodAll_cons r5
 obtain ⟨rfl, rfl, rfl⟩ := trodAll_nil r6
 obtain rfl : args = #[v0, v1, v2, v3, v4, v5, v6] := by cases args; simp_all
 obtain ⟨rfl, rfl⟩ := trodVars_none hV
 have lt0 := zds h0
 have k0 := h0
 have lt1 := zds h1
 have k1 := h1
 have lt2 := zds h2
 have k2 := h2
 have lt3 := zds h3
 have k3 := h3
 have lt4 := zds h4
 have k4 := h4
 have lt5 := zds h5
 have k5 := h5
 have lt6 := zds h6
 have k6 := h6
 obtain ⟨x0, o0, g0⟩ := open_slc (r := DT.encA (.slc tAPos)) Tryz.underlying29 (Opn.slice Tryz.underlying29 (k := 3) (by kernel_rfl) opn198) (fun _ => rfl) (hval 0 29 v0 rfl rfl) k0
 obtain ⟨x1, o1, g1⟩ := open_slc (r := DT.encA (.slc tAFlow)) Tryz.underlying30 (Opn.slice Tryz.underlying30 (k := 3) (by kernel_rfl) opn111) (fun _ => rfl) (hval 1 30 v1 rfl rfl) k1
 obtain ⟨x2, o2, g2⟩ := openS Tryz.underlying76 opn76 (hval 2 76 v2 rfl rfl) k2
 obtain ⟨x3, o3, g3⟩ := openS Tryz.underlying35 opn35 (hval 3 35 v3 rfl rfl) k3
 obtain ⟨x4, o4, g4⟩ := openS Tryz.underlying35 opn35 (hval 4 35 v4 rfl rfl) k4
 obtain ⟨x5, o5, g5⟩ := open_int' (r := DT.encA (.int .i64)) Tryz.underlying2 (Opn.int (k := .i64) Tryz.underlying2) (fun _ => rfl) (hval 5 2 v5 rfl rfl) k5
 obtain ⟨x6, o6, g6⟩ := open_int' (r := DT.encA (.int .i64)) Tryz.underlying2 (Opn.int (k := .i64) Tryz.underlying2) (fun _ => rfl) (hval 6 2 v6 rfl rfl) k6
 clear hA0 hval0
 refine (Ct.says (walk x0 x1 x2 x3 x4 x5 x6 o0 o1 o2 o3 o4 o5 o6) (vs := [v0, v1, v2, v3, v4, v5, v6]) (w := W) ⟨_, _, rfl, g0, ⟨_, _, rfl, g1, ⟨_, _, rfl, g2, ⟨_, _, rfl, g3, ⟨_, _, rfl, g4, ⟨_, _, rfl, g5, ⟨_, _, rfl, g6, rfl⟩⟩⟩⟩⟩⟩⟩ ⟨_, Tryz.func5, by decide +kernel, rfl⟩).mono fun e W' ⟨he, bel⟩ => ?_
 subst he
 exact ⟨_, rfl, _, _, _, [], _, [], hW', trodAll_mk1 (shut_bool Tryz.underlying4 _),
  (trodAll_cons_mk (Below.trod zpb (by kernel_rfl) (of_decide_eq_true (by kernel_rfl)) h0 bel lt0) (trodAll_cons_mk (Below.trod zpb (by kernel_rfl) (of_decide_eq_true (by kernel_rfl)) h1 bel lt1) (trodAll_cons_mk (Below.trod zpb (by kernel_rfl) (of_decide_eq_true (by kernel_rfl)) h2 bel lt2) (trodAll_cons_mk (Below.trod zpb (by kernel_rfl) (of_decide_eq_true (by kernel_rfl)) h3 bel lt3) (trodAll_cons_mk (Below.trod zpb (by kernel_rfl) (of_decide_eq_true (by kernel_rfl)) h4 bel lt4) (trodAll_cons_mk (Below.trod zpb (by kernel_rfl) (of_decide_eq_true (by kernel_rfl)) h5 bel lt5) (trodAll_cons_mk (Below.trod zpb (by kernel_rfl) (of_decide_eq_true (by kernel_rfl)) h6 bel lt6) trodAll_mk0))))))), rfl, bel.frame _, fun h => by cases h⟩
set_option maxRecDepth 1000000 in
theorem unf : Tryz.prog.unfollowed 5 = true := by
 unfold Program.unfollowed
 rw [closure_eq leads_ok]
 kernel_rfl
theorem rec : Tryz.prog.recurses 5 = true := by unfold Program.recurses; rw [unf]; rfl
set_option maxRecDepth 1000000 in
theorem closed : joinedFacts Tryz.pinned.checked.prog 5 Tryz.f5 Rows.dealGoesSpec Rows.dealGoesRow = true := by
 show joinedFacts Tryz.prog 5 Tryz.f5 Rows.dealGoesSpec Rows.dealGoesRow = true
 unfold joinedFacts
 rw [rec, unf]
 unfold Program.inPlace Program.varsNamed
 rw [closure_eq leads_ok]
 kernel_rfl
theorem over : Rows.dealGoesRow.holds Tryz.pinned (OpenSpec.ofChange Rows.dealGoesSpec) :=
 OpenClaim.holds_of_wide 5 Tryz.f5 rfl rfl rfl rfl rfl rfl rfl ⟨rfl, rfl, rfl, rfl, rfl⟩ rfl rfl rfl rfl rfl (by kernel_rfl) Tryz.func5 closed
  (of_decide_eq_true (by kernel_rfl)) (by unfold Func.isWrapper; first | (rw [if_pos (by decide +kernel)]; kernel_rfl) | (rw [if_neg (by decide +kernel)]; exact ⟨rfl, rfl⟩))
  (fun os started H enc _ => lifted os started H enc)
theorem proved : Rows.DealGoesSaid := over
#print axioms proved
end Go.Proofs.YtbpbkmngbhgpfaaGreat.DealGoesP
