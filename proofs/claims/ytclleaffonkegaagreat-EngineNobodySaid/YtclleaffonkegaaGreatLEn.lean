/- 'EngineNobodySaid' is proved: the law EngineNobody returns true at every input, and hands back what it read. Conditions: none beyond the statement's own. -/
import Derived.Test.YtclleaffonkegaaGreatB10
namespace Go.Proofs.YtclleaffonkegaaGreat.EngineNobodyP
open Go Go.Vc Go.RowKit Go.ChangeShapes Go.WideShapes Go.ChangeAt Go.Joins
theorem walk (x0 : DT.den (.slc (.int .u8))) (x1 : DT.den (.int .i64)) (o0 : DT.okD (.slc (.int .u8)) x0) (o1 : DT.okD (.int .i64) x1) : law37_EngineNobodyNW stdW x0 x1 = some true := nobody_true x0 x1
set_option maxRecDepth 100000 in
theorem lifted (os : Os) (started : os.Started) (H : Type) (enc : TypeId × Value → H) :
    ReturnsInHanded {} Tryz.checked os 3 .any (Rows.engineNobodySpec.pre6 enc Tryz.prog Tryz.f3 Rows.engineNobodyRow.domain false) (Rows.engineNobodySpec.post enc Tryz.prog Tryz.f3 false true false false) := by
  refine returnsInHanded_of_change (C := Tryz.checked) own started (by kernel_rfl) Tryz.func3
    (ChangeSpec.witness6 (enc := enc) (C := Tryz.checked) false ⟨#[], #[.slice none 0 0, .int .i64 0], []⟩ 8 (by kernel_rfl) (by kernel_rfl) (by kernel_rfl) (by kernel_rfl)) ?_
  intro W base args ds gs before hval0 hW hcnd _
  have hval : ∀ (j : Nat) t v, Tryz.f3.params[j]? = some t → args[j]? = some v → Value.okWide Tryz.prog W .any base t v := hval0
  have hW' := hW
  obtain ⟨p, q, hA0, hV, rfl, hfz, hnd⟩ := hW
  have hA : DataW.TrodAll enc Tryz.prog W 0 (fun _ => true) true Tryz.f3.params.toList args.toList ds p := hA0
  rw [Tryz.params3] at hA hval
  obtain ⟨v0, vs0, d0, ds0, p0, q0, hargs, rfl, rfl, h0, r0⟩ := trodAll_cons hA
  obtain ⟨v1, vs1, d1, ds1, p1, q1, rfl, rfl, rfl, h1, r1⟩ := trodAll_cons r0
  obtain ⟨rfl, rfl, rfl⟩ := trodAll_nil r1
  obtain rfl : args = #[v0, v1] := by cases args; simp_all
  obtain ⟨rfl, rfl⟩ := trodVars_none hV
  have lt0 := trod_places h0
  have k0 := h0
  have lt1 := trod_places h1
  have k1 := h1
  obtain ⟨x0, o0, g0⟩ := openD (d := (.slc (.int .u8))) (by kernel_rfl) (hval 0 22 v0 rfl rfl) k0
  obtain ⟨x1, o1, g1⟩ := openD (d := (.int .i64)) (by kernel_rfl) (hval 1 3 v1 rfl rfl) k1
  clear hA0 hval0
  refine (esays (x := (x0, x1, ())) (vs := [v0, v1]) (w := W) law37_EngineNobodyN_k.ok (walk x0 x1 o0 o1) (argCons g0 (argCons g1 argNil)) ⟨_, Tryz.func3, by decide +kernel, rfl⟩).mono fun e W' ⟨he, bel⟩ => ?_
  subst he
  exact ⟨_, rfl, _, _, _, [], _, [], hW', trodAll_mk1 (shut_bool Tryz.underlying4 _),
    (trodAll_cons_mk (Below.trod laidOut (by kernel_rfl) (of_decide_eq_true (by kernel_rfl)) h0 bel lt0) (trodAll_cons_mk (Below.trod laidOut (by kernel_rfl) (of_decide_eq_true (by kernel_rfl)) h1 bel lt1) trodAll_mk0)), rfl, bel.frame _, fun h => by cases h⟩

set_option maxRecDepth 1000000 in
theorem unf : Tryz.prog.unfollowed 3 = true := by
  unfold Program.unfollowed
  rw [closure_eq leads_ok]
  kernel_rfl
theorem rec : Tryz.prog.recurses 3 = true := by unfold Program.recurses; rw [unf]; rfl
theorem and_t {a b : Bool} (ha : a = true) (hb : b = true) : (a && b) = true := by rw [ha, hb]; rfl
set_option maxRecDepth 1000000 in
theorem fact0 : (Rows.engineNobodyRow.wf (OpenSpec.ofChange Rows.engineNobodySpec)) = true := by kernel_rfl
set_option maxRecDepth 1000000 in
theorem fact1 : (laidOutB Tryz.prog) = true := by kernel_rfl
set_option maxRecDepth 1000000 in
theorem fact2 : (mapsRowed Tryz.prog) = true := by kernel_rfl
set_option maxRecDepth 1000000 in
theorem fact3 : (Tryz.f3.params.all (Tryz.prog.readableRec ·)) = true := by kernel_rfl
set_option maxRecDepth 1000000 in
theorem fact4 : (namedTie Tryz.prog Rows.engineNobodyRow.named Rows.engineNobodySpec.vars) = true := by kernel_rfl
set_option maxRecDepth 1000000 in
theorem fact5 : ((Rows.engineNobodyRow.stops == [])) = true := by kernel_rfl
set_option maxRecDepth 1000000 in
theorem fact6 : ((Tryz.prog.stops == [])) = true := by kernel_rfl
set_option maxRecDepth 1000000 in
theorem fact7 : ((Rows.engineNobodyRow.knobs == [])) = true := by kernel_rfl
set_option maxRecDepth 1000000 in
theorem fact8 : ((Tryz.prog.stopKnobs == [])) = true := by kernel_rfl
set_option maxRecDepth 1000000 in
theorem fact9 : ((Rows.engineNobodyRow.inPlace == Tryz.prog.inPlace 3)) = true := by unfold Program.inPlace; rw [closure_eq leads_ok]; kernel_rfl
set_option maxRecDepth 1000000 in
theorem fact10 : ((Rows.engineNobodyRow.unfollowed == Tryz.prog.unfollowed 3)) = true := by rw [unf]; kernel_rfl
set_option maxRecDepth 1000000 in
theorem fact11 : ((Rows.engineNobodyRow.recurses == Tryz.prog.recurses 3)) = true := by rw [rec]; kernel_rfl
set_option maxRecDepth 1000000 in
theorem fact12 : ((Rows.engineNobodyRow.named == Tryz.prog.varsNamed 3)) = true := by rw [varsNamed_eq leads_ok glob_ok ent_ok]; kernel_rfl
set_option maxRecDepth 1000000 in
theorem fact13 : ((Rows.engineNobodyRow.maps == (Tryz.f3.params.toList ++ Rows.engineNobodySpec.plain.varTypes Tryz.prog).any (Tryz.prog.mapsRec ·))) = true := by kernel_rfl
set_option maxRecDepth 1000000 in
theorem fact14 : ((Rows.engineNobodyRow.ifaces == (Tryz.f3.params.toList ++ Rows.engineNobodySpec.plain.varTypes Tryz.prog).any (Tryz.prog.ifacesRec ·))) = true := by kernel_rfl
set_option maxRecDepth 1000000 in
theorem fact15 : ((Rows.engineNobodyRow.mapsOut == Tryz.prog.mapsAmong Tryz.f3.resultTypes.toList)) = true := by kernel_rfl
set_option maxRecDepth 1000000 in
theorem fact16 : ((Rows.engineNobodyRow.loops == (Tryz.f3.params.toList ++ Rows.engineNobodySpec.plain.varTypes Tryz.prog).any (Tryz.prog.loopsFrom ·))) = true := by kernel_rfl
set_option maxRecDepth 1000000 in
theorem fact17 : ((Rows.engineNobodyRow.wideKeys == (Tryz.f3.params.toList ++ Rows.engineNobodySpec.plain.varTypes Tryz.prog ++ Tryz.f3.resultTypes.toList).any (Tryz.prog.wideKeysFrom ·))) = true := by kernel_rfl
set_option maxRecDepth 1000000 in
theorem fact18 : (Rows.engineNobodySpec.vars.all (Tryz.prog.varReadable ·)) = true := by kernel_rfl
set_option maxRecDepth 1000000 in
theorem fact19 : (Tryz.f3.resultTypes.all (fun t => Tryz.prog.readableRec t && decide (t < Tryz.prog.types.size))) = true := by kernel_rfl
set_option maxRecDepth 1000000 in
theorem fact20 : ((Rows.engineNobodyRow.ifacesOut == Tryz.f3.resultTypes.toList.any (Tryz.prog.ifacesRec ·))) = true := by kernel_rfl
set_option maxRecDepth 1000000 in
theorem fact21 : ((Rows.engineNobodyRow.loopsOut == Tryz.f3.resultTypes.toList.any (Tryz.prog.loopsFrom ·))) = true := by kernel_rfl
set_option maxRecDepth 1000000 in
theorem fact22 : ((Rows.engineNobodyRow.plainKeys == Tryz.prog.plainKeys)) = true := by kernel_rfl
set_option maxRecDepth 1000000 in
theorem fact23 : (Rows.engineNobodyRow.shortTexts.isNone) = true := by kernel_rfl
set_option maxRecDepth 1000000 in
theorem fact24 : (Tryz.prog.stopsHeard) = true := by kernel_rfl
set_option maxRecDepth 1000000 in
theorem fact25 : (Tryz.prog.mayEnter) = true := by kernel_rfl
set_option maxRecDepth 1000000 in
theorem fact26 : ((Rows.engineNobodyRow.lifted == Tryz.prog.liftsFinal)) = true := by kernel_rfl
set_option maxRecDepth 1000000 in
theorem fact27 : ((Tryz.prog.make == some Rows.engineNobodyRow.make)) = true := by kernel_rfl
set_option maxRecDepth 1000000 in
theorem fact28 : ((Rows.engineNobodyRow.kinds == (if Rows.engineNobodyRow.domain.isEmpty then [] else Tryz.f3.params.toList.map fun t => match Tryz.prog.underlying t with | some (.int k) => some k | _ => none))) = true := by kernel_rfl
set_option maxRecDepth 1000000 in
theorem fact29 : ((Rows.engineNobodyRow.pinned == Rows.engineNobodyRow.pinnedBy)) = true := by kernel_rfl
set_option maxRecDepth 1000000 in
theorem fact30 : ((Rows.engineNobodyRow.veiled == (Tryz.f3.params.toList ++ Rows.engineNobodySpec.plain.varTypes Tryz.prog ++ Tryz.f3.resultTypes.toList).any (Tryz.prog.veiledRec ·))) = true := by kernel_rfl
set_option maxRecDepth 1000000 in
theorem fact31 : (Rows.engineNobodyRow.veiledFits Tryz.prog Tryz.f3.params.toList (Tryz.f3.params.toList ++ Rows.engineNobodySpec.plain.varTypes Tryz.prog ++ Tryz.f3.resultTypes.toList)) = true := by kernel_rfl
set_option maxRecDepth 1000000 in
theorem closed : joinedFacts Tryz.pinned.checked.prog 3 Tryz.f3 Rows.engineNobodySpec Rows.engineNobodyRow = true := by
  show joinedFacts Tryz.prog 3 Tryz.f3 Rows.engineNobodySpec Rows.engineNobodyRow = true
  unfold joinedFacts
  exact (and_t (and_t (and_t (and_t (and_t (and_t (and_t (and_t (and_t (and_t (and_t (and_t (and_t (and_t (and_t (and_t (and_t (and_t (and_t (and_t (and_t (and_t (and_t (and_t (and_t (and_t (and_t (and_t (and_t (and_t (and_t fact0 fact1) fact2) fact3) fact4) fact5) fact6) fact7) fact8) fact9) fact10) fact11) fact12) fact13) fact14) fact15) fact16) fact17) fact18) fact19) fact20) fact21) fact22) fact23) fact24) fact25) fact26) fact27) fact28) fact29) fact30) fact31)
theorem over : Rows.engineNobodyRow.holds Tryz.pinned (OpenSpec.ofChange Rows.engineNobodySpec) :=
  OpenClaim.holds_of_wide 3 Tryz.f3 rfl rfl rfl rfl rfl rfl rfl ⟨rfl, rfl, rfl, rfl, rfl⟩ rfl rfl rfl rfl rfl (by kernel_rfl) Tryz.func3 closed
    (of_decide_eq_true (by kernel_rfl)) (by unfold Func.isWrapper; first | (rw [if_pos (by decide +kernel)]; kernel_rfl) | (rw [if_neg (by decide +kernel)]; exact ⟨rfl, rfl⟩))
    (fun os started H enc _ => lifted os started H enc)

theorem proved : Rows.EngineNobodySaid := over
#print axioms proved
end Go.Proofs.YtclleaffonkegaaGreat.EngineNobodyP