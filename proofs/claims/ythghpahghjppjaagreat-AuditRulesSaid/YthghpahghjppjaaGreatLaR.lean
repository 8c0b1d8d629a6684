/- 'AuditRulesSaid' is proved: the law AuditRules returns true at every input, and hands back what it read. Conditions: none beyond the statement's own. -/
import Derived.Test.YthghpahghjppjaaGreatB12
namespace Go.Proofs.YthghpahghjppjaaGreat.AuditRulesP
open Go Go.Vc Go.RowKit Go.ChangeShapes Go.WideShapes Go.ChangeAt Go.Joins
theorem walk(x0:DT.den (.slc jJ))(o0:DT.N4 (.slc jJ) x0):uN aj x0=some true:=acZ o0
set_option maxRecDepth 100000 in
theorem lifted(os:Os)(started:os.Started)(H:Type)(enc:TypeId×Value->H):
 ReturnsInHanded {} Tryz.checked os 8 .any (Rows.auditRulesSpec.pre6 enc Tryz.prog Tryz.f8 Rows.auditRulesRow.domain false) (Rows.auditRulesSpec.post enc Tryz.prog Tryz.f8 false true false false):=by
 refine returnsInHanded_of_change (C:=Tryz.checked) own started (by kernel_rfl) Tryz.func8 (ChangeSpec.witness6 (enc:=enc) (C:=Tryz.checked) false ⟨#[],#[.slice none 0 0],[]⟩ 8 (by kernel_rfl) (by kernel_rfl) (by kernel_rfl) (by kernel_rfl)) ?_;intro W base args ds gs before hval0 hW hcnd _;have hval:∀(j:Nat) t v,Tryz.f8.params[j]?=some t->args[j]?=some v->Value.okWide Tryz.prog W .any base t v:=hval0;have hW':=hW;obtain⟨p,q,hA0,hV,rfl,hfz,hnd⟩:=hW;have hA:DataW.TrodAll enc Tryz.prog W 0 (λ_=>true) true Tryz.f8.params.toList args.toList ds p:=hA0;rw[Tryz.params8]at hA hval;obtain⟨v0,vs0,d0,ds0,p0,q0,hargs,rfl,rfl,h0,r0⟩:=trodAll_cons hA;obtain⟨rfl,rfl,rfl⟩:=trodAll_nil r0;obtain rfl:args = #[v0]:=by cases args;simp_all
 obtain⟨rfl,rfl⟩:=trodVars_none hV;have lt0:=Z_ h0;have k0:=h0;obtain⟨x0,o0,g0⟩:=Go.Vc.Ai (d:=(.slc jJ)) (by kernel_rfl) (hval 0 22 v0 rfl rfl) k0;clear hA0 hval0;refine(avN (x:=(x0,())) (vs:=[v0]) (w:=W) J2.ok (walk x0 o0) (apA g0 atM) ⟨_,Tryz.func8,by decide +kernel,rfl⟩).mono λe W' ⟨he,bel⟩=>?_
 subst he;exact⟨_,rfl,_,_,_,[],_,[],hW',trodAll_mk1 (shut_bool Tryz.underlying4 _),(trodAll_cons_mk (Below.trod laidOut (by kernel_rfl) (bA (by kernel_rfl)) h0 bel lt0) trodAll_mk0),rfl,bel.frame _,λh=>by cases h⟩
set_option maxRecDepth 1000000 in
theorem unf:Tryz.prog.unfollowed 8=true:=by unfold Program.unfollowed;rw[zY R3];kernel_rfl
theorem rec:Tryz.prog.recurses 8=true:=by unfold Program.recurses;rw[unf];rfl
theorem mz{a b:Bool}(ha:a=true)(hb:b=true):(a&&b)=true:=by rw[ha,hb];rfl
set_option maxRecDepth 1000000 in
theorem awB:(Rows.auditRulesRow.wf (OpenSpec.ofChange Rows.auditRulesSpec))=true:=by kernel_rfl
set_option maxRecDepth 1000000 in
theorem awC:(laidOutB Tryz.prog)=true:=by kernel_rfl
set_option maxRecDepth 1000000 in
theorem awD:(mapsRowed Tryz.prog)=true:=by kernel_rfl
set_option maxRecDepth 1000000 in
theorem awE:(Tryz.f8.params.all (Tryz.prog.readableRec ·))=true:=by kernel_rfl
set_option maxRecDepth 1000000 in
theorem awF:(namedTie Tryz.prog Rows.auditRulesRow.named Rows.auditRulesSpec.vars)=true:=by kernel_rfl
set_option maxRecDepth 1000000 in
theorem awG:(Rows.auditRulesRow.stops==[])=true:=by kernel_rfl
set_option maxRecDepth 1000000 in
theorem awH:(Tryz.prog.stops==[])=true:=by kernel_rfl
set_option maxRecDepth 1000000 in
theorem awI:(Rows.auditRulesRow.knobs==[])=true:=by kernel_rfl
set_option maxRecDepth 1000000 in
theorem awJ:(Tryz.prog.stopKnobs==[])=true:=by kernel_rfl
set_option maxRecDepth 1000000 in
theorem awK:(Rows.auditRulesRow.inPlace==Tryz.prog.inPlace 8)=true:=by unfold Program.inPlace;rw[zY R3];kernel_rfl
set_option maxRecDepth 1000000 in
theorem aut:(Rows.auditRulesRow.unfollowed==Tryz.prog.unfollowed 8)=true:=by rw[unf];kernel_rfl
set_option maxRecDepth 1000000 in
theorem auu:(Rows.auditRulesRow.recurses==Tryz.prog.recurses 8)=true:=by rw[rec];kernel_rfl
set_option maxRecDepth 1000000 in
theorem auv:(Rows.auditRulesRow.named==Tryz.prog.varsNamed 8)=true:=by unfold Program.varsNamed;rw[zY R3];kernel_rfl
set_option maxRecDepth 1000000 in
theorem auw:(Rows.auditRulesRow.maps==(Tryz.f8.params.toList++Rows.auditRulesSpec.plain.varTypes Tryz.prog).any (Tryz.prog.mapsRec ·))=true:=by kernel_rfl
set_option maxRecDepth 1000000 in
theorem auy:(Rows.auditRulesRow.ifaces==(Tryz.f8.params.toList++Rows.auditRulesSpec.plain.varTypes Tryz.prog).any (Tryz.prog.ifacesRec ·))=true:=by kernel_rfl
set_option maxRecDepth 1000000 in
theorem auz:(Rows.auditRulesRow.mapsOut==Tryz.prog.mapsAmong Tryz.f8.resultTypes.toList)=true:=by kernel_rfl
set_option maxRecDepth 1000000 in
theorem au0:(Rows.auditRulesRow.loops==(Tryz.f8.params.toList++Rows.auditRulesSpec.plain.varTypes Tryz.prog).any (Tryz.prog.loopsFrom ·))=true:=by kernel_rfl
set_option maxRecDepth 1000000 in
theorem au1:(Rows.auditRulesRow.wideKeys==(Tryz.f8.params.toList++Rows.auditRulesSpec.plain.varTypes Tryz.prog++Tryz.f8.resultTypes.toList).any (Tryz.prog.wideKeysFrom ·))=true:=by kernel_rfl
set_option maxRecDepth 1000000 in
theorem au2:(Rows.auditRulesSpec.vars.all (Tryz.prog.varReadable ·))=true:=by kernel_rfl
set_option maxRecDepth 1000000 in
theorem au3:(Tryz.f8.resultTypes.all λt=>Tryz.prog.readableRec t&&decide (t<Tryz.prog.types.size))=true:=by kernel_rfl
set_option maxRecDepth 1000000 in
theorem au4:(Rows.auditRulesRow.ifacesOut==Tryz.f8.resultTypes.toList.any (Tryz.prog.ifacesRec ·))=true:=by kernel_rfl
set_option maxRecDepth 1000000 in
theorem au5:(Rows.auditRulesRow.loopsOut==Tryz.f8.resultTypes.toList.any (Tryz.prog.loopsFrom ·))=true:=by kernel_rfl
set_option maxRecDepth 1000000 in
theorem au6:(Rows.auditRulesRow.plainKeys==Tryz.prog.plainKeys)=true:=by kernel_rfl
set_option maxRecDepth 1000000 in
theorem au7:(Rows.auditRulesRow.shortTexts.isNone)=true:=by kernel_rfl
set_option maxRecDepth 1000000 in
theorem au8:(Tryz.prog.stopsHeard)=true:=by kernel_rfl
set_option maxRecDepth 1000000 in
theorem au9:(Tryz.prog.mayEnter)=true:=by kernel_rfl
set_option maxRecDepth 1000000 in
theorem auA:(Rows.auditRulesRow.lifted==Tryz.prog.liftsFinal)=true:=by kernel_rfl
set_option maxRecDepth 1000000 in
theorem auB:(Tryz.prog.make==some Rows.auditRulesRow.make)=true:=by kernel_rfl
set_option maxRecDepth 1000000 in
theorem auC:(Rows.auditRulesRow.kinds==(if Rows.auditRulesRow.domain.isEmpty then[]else Tryz.f8.params.toList.map λt=>match Tryz.prog.underlying t with|some (.int k)=>some k|_=>none))=true:=by kernel_rfl
set_option maxRecDepth 1000000 in
theorem auD:(Rows.auditRulesRow.pinned==Rows.auditRulesRow.pinnedBy)=true:=by kernel_rfl
set_option maxRecDepth 1000000 in
theorem auE:(Rows.auditRulesRow.veiled==(Tryz.f8.params.toList++Rows.auditRulesSpec.plain.varTypes Tryz.prog++Tryz.f8.resultTypes.toList).any (Tryz.prog.veiledRec ·))=true:=by kernel_rfl
set_option maxRecDepth 1000000 in
theorem auF:(Rows.auditRulesRow.veiledFits Tryz.prog Tryz.f8.params.toList (Tryz.f8.params.toList++Rows.auditRulesSpec.plain.varTypes Tryz.prog++Tryz.f8.resultTypes.toList))=true:=by kernel_rfl
set_option maxRecDepth 1000000 in
theorem closed:joinedFacts Tryz.pinned.checked.prog 8 Tryz.f8 Rows.auditRulesSpec Rows.auditRulesRow=true:=by show joinedFacts Tryz.prog 8 Tryz.f8 Rows.auditRulesSpec Rows.auditRulesRow=true;unfold joinedFacts;exact(mz (mz (mz (mz (mz (mz (mz (mz (mz (mz (mz (mz (mz (mz (mz (mz (mz (mz (mz (mz (mz (mz (mz (mz (mz (mz (mz (mz (mz (mz (mz awB awC) awD) awE) awF) awG) awH) awI) awJ) awK) aut) auu) auv) auw) auy) auz) au0) au1) au2) au3) au4) au5) au6) au7) au8) au9) auA) auB) auC) auD) auE) auF)
theorem ad9:Rows.auditRulesRow.holds Tryz.pinned (OpenSpec.ofChange Rows.auditRulesSpec):=OpenClaim.holds_of_wide 8 Tryz.f8 rfl rfl rfl rfl rfl rfl rfl ⟨rfl,rfl,rfl,rfl,rfl⟩ rfl rfl rfl rfl rfl (by kernel_rfl) Tryz.func8 closed (bA (by kernel_rfl)) (by unfold Func.isWrapper;first|(rw[ah (by decide +kernel)];kernel_rfl)|(rw[ag (by decide +kernel)];exact⟨rfl,rfl⟩)) (λos started H enc _=>lifted os started H enc)
theorem proved:Rows.AuditRulesSaid:=ad9
#print axioms proved
end Go.Proofs.YthghpahghjppjaaGreat.AuditRulesP