/- 'RulesCapsSaid' is proved: the law RulesCaps returns true at every input, and hands back what it read. Conditions: none beyond the statement's own. -/
import Derived.Test.YthghpahghjppjaaGreatB12
namespace Go.Proofs.YthghpahghjppjaaGreat.RulesCapsP
open Go Go.Vc Go.RowKit Go.ChangeShapes Go.WideShapes Go.ChangeAt Go.Joins
theorem walk(x0:DT.den (.slc jY))(o0:DT.Nn (.slc jY) x0):wt aj x0=some true:=ahU o0
set_option maxRecDepth 100000 in
theorem lifted(os:Os)(started:os.Started)(H:Type)(enc:TypeId×Value->H):
 ReturnsInHanded {} Tryz.checked os 5 .any (Rows.rulesCapsSpec.pre6 enc Tryz.prog Tryz.f5 Rows.rulesCapsRow.domain false) (Rows.rulesCapsSpec.post enc Tryz.prog Tryz.f5 false true false false):=by
 refine returnsInHanded_of_change (C:=Tryz.checked) own started (by kernel_rfl) Tryz.func5 (ChangeSpec.witness6 (enc:=enc) (C:=Tryz.checked) false ⟨#[],#[.slice none 0 0],[]⟩ 8 (by kernel_rfl) (by kernel_rfl) (by kernel_rfl) (by kernel_rfl)) ?_;intro W base args ds gs before hval0 hW hcnd _;have hval:∀(j:Nat) t v,Tryz.f5.params[j]?=some t->args[j]?=some v->Value.okWide Tryz.prog W .any base t v:=hval0;have hW':=hW;obtain⟨p,q,hA0,hV,rfl,hfz,hnd⟩:=hW;have hA:DataW.TrodAll enc Tryz.prog W 0 (λ_=>true) true Tryz.f5.params.toList args.toList ds p:=hA0;rw[Tryz.params5]at hA hval;obtain⟨v0,vs0,d0,ds0,p0,q0,hargs,rfl,rfl,h0,r0⟩:=trodAll_cons hA;obtain⟨rfl,rfl,rfl⟩:=trodAll_nil r0;obtain rfl:args = #[v0]:=by cases args;simp_all
 obtain⟨rfl,rfl⟩:=trodVars_none hV;have lt0:=T_ h0;have k0:=h0;obtain⟨x0,o0,g0⟩:=Go.Vc.C9 (d:=(.slc jY)) (by kernel_rfl) (hval 0 22 v0 rfl rfl) k0;clear hA0 hval0;refine(avR (x:=(x0,())) (vs:=[v0]) (w:=W) LZ.ok (walk x0 o0) (ap2 g0 atM) ⟨_,Tryz.func5,by decide +kernel,rfl⟩).mono λe W' ⟨he,bel⟩=>?_
 subst he;exact⟨_,rfl,_,_,_,[],_,[],hW',trodAll_mk1 (shut_bool Tryz.underlying4 _),(trodAll_cons_mk (Below.trod laidOut (by kernel_rfl) (bD (by kernel_rfl)) h0 bel lt0) trodAll_mk0),rfl,bel.frame _,λh=>by cases h⟩
set_option maxRecDepth 1000000 in
theorem unf:Tryz.prog.unfollowed 5=true:=by unfold Program.unfollowed;rw[zI Rh];kernel_rfl
theorem rec:Tryz.prog.recurses 5=true:=by unfold Program.recurses;rw[unf];rfl
theorem mb{a b:Bool}(ha:a=true)(hb:b=true):(a&&b)=true:=by rw[ha,hb];rfl
set_option maxRecDepth 1000000 in
theorem awF:(Rows.rulesCapsRow.wf (OpenSpec.ofChange Rows.rulesCapsSpec))=true:=by kernel_rfl
set_option maxRecDepth 1000000 in
theorem awG:(laidOutB Tryz.prog)=true:=by kernel_rfl
set_option maxRecDepth 1000000 in
theorem awH:(mapsRowed Tryz.prog)=true:=by kernel_rfl
set_option maxRecDepth 1000000 in
theorem awI:(Tryz.f5.params.all (Tryz.prog.readableRec ·))=true:=by kernel_rfl
set_option maxRecDepth 1000000 in
theorem awJ:(namedTie Tryz.prog Rows.rulesCapsRow.named Rows.rulesCapsSpec.vars)=true:=by kernel_rfl
set_option maxRecDepth 1000000 in
theorem awK:(Rows.rulesCapsRow.stops==[])=true:=by kernel_rfl
set_option maxRecDepth 1000000 in
theorem awL:(Tryz.prog.stops==[])=true:=by kernel_rfl
set_option maxRecDepth 1000000 in
theorem awM:(Rows.rulesCapsRow.knobs==[])=true:=by kernel_rfl
set_option maxRecDepth 1000000 in
theorem awN:(Tryz.prog.stopKnobs==[])=true:=by kernel_rfl
set_option maxRecDepth 1000000 in
theorem awO:(Rows.rulesCapsRow.inPlace==Tryz.prog.inPlace 5)=true:=by unfold Program.inPlace;rw[zI Rh];kernel_rfl
set_option maxRecDepth 1000000 in
theorem aus:(Rows.rulesCapsRow.unfollowed==Tryz.prog.unfollowed 5)=true:=by rw[unf];kernel_rfl
set_option maxRecDepth 1000000 in
theorem aut:(Rows.rulesCapsRow.recurses==Tryz.prog.recurses 5)=true:=by rw[rec];kernel_rfl
set_option maxRecDepth 1000000 in
theorem auu:(Rows.rulesCapsRow.named==Tryz.prog.varsNamed 5)=true:=by unfold Program.varsNamed;rw[zI Rh];kernel_rfl
set_option maxRecDepth 1000000 in
theorem auv:(Rows.rulesCapsRow.maps==(Tryz.f5.params.toList++Rows.rulesCapsSpec.plain.varTypes Tryz.prog).any (Tryz.prog.mapsRec ·))=true:=by kernel_rfl
set_option maxRecDepth 1000000 in
theorem auw:(Rows.rulesCapsRow.ifaces==(Tryz.f5.params.toList++Rows.rulesCapsSpec.plain.varTypes Tryz.prog).any (Tryz.prog.ifacesRec ·))=true:=by kernel_rfl
set_option maxRecDepth 1000000 in
theorem auy:(Rows.rulesCapsRow.mapsOut==Tryz.prog.mapsAmong Tryz.f5.resultTypes.toList)=true:=by kernel_rfl
set_option maxRecDepth 1000000 in
theorem auz:(Rows.rulesCapsRow.loops==(Tryz.f5.params.toList++Rows.rulesCapsSpec.plain.varTypes Tryz.prog).any (Tryz.prog.loopsFrom ·))=true:=by kernel_rfl
set_option maxRecDepth 1000000 in
theorem au0:(Rows.rulesCapsRow.wideKeys==(Tryz.f5.params.toList++Rows.rulesCapsSpec.plain.varTypes Tryz.prog++Tryz.f5.resultTypes.toList).any (Tryz.prog.wideKeysFrom ·))=true:=by kernel_rfl
set_option maxRecDepth 1000000 in
theorem au1:(Rows.rulesCapsSpec.vars.all (Tryz.prog.varReadable ·))=true:=by kernel_rfl
set_option maxRecDepth 1000000 in
theorem au2:(Tryz.f5.resultTypes.all λt=>Tryz.prog.readableRec t&&decide (t<Tryz.prog.types.size))=true:=by kernel_rfl
set_option maxRecDepth 1000000 in
theorem au3:(Rows.rulesCapsRow.ifacesOut==Tryz.f5.resultTypes.toList.any (Tryz.prog.ifacesRec ·))=true:=by kernel_rfl
set_option maxRecDepth 1000000 in
theorem au4:(Rows.rulesCapsRow.loopsOut==Tryz.f5.resultTypes.toList.any (Tryz.prog.loopsFrom ·))=true:=by kernel_rfl
set_option maxRecDepth 1000000 in
theorem au5:(Rows.rulesCapsRow.plainKeys==Tryz.prog.plainKeys)=true:=by kernel_rfl
set_option maxRecDepth 1000000 in
theorem au6:(Rows.rulesCapsRow.shortTexts.isNone)=true:=by kernel_rfl
set_option maxRecDepth 1000000 in
theorem au7:(Tryz.prog.stopsHeard)=true:=by kernel_rfl
set_option maxRecDepth 1000000 in
theorem au8:(Tryz.prog.mayEnter)=true:=by kernel_rfl
set_option maxRecDepth 1000000 in
theorem au9:(Rows.rulesCapsRow.lifted==Tryz.prog.liftsFinal)=true:=by kernel_rfl
set_option maxRecDepth 1000000 in
theorem auA:(Tryz.prog.make==some Rows.rulesCapsRow.make)=true:=by kernel_rfl
set_option maxRecDepth 1000000 in
theorem auB:(Rows.rulesCapsRow.kinds==(if Rows.rulesCapsRow.domain.isEmpty then[]else Tryz.f5.params.toList.map λt=>match Tryz.prog.underlying t with|some (.int k)=>some k|_=>none))=true:=by kernel_rfl
set_option maxRecDepth 1000000 in
theorem auC:(Rows.rulesCapsRow.pinned==Rows.rulesCapsRow.pinnedBy)=true:=by kernel_rfl
set_option maxRecDepth 1000000 in
theorem auD:(Rows.rulesCapsRow.veiled==(Tryz.f5.params.toList++Rows.rulesCapsSpec.plain.varTypes Tryz.prog++Tryz.f5.resultTypes.toList).any (Tryz.prog.veiledRec ·))=true:=by kernel_rfl
set_option maxRecDepth 1000000 in
theorem auE:(Rows.rulesCapsRow.veiledFits Tryz.prog Tryz.f5.params.toList (Tryz.f5.params.toList++Rows.rulesCapsSpec.plain.varTypes Tryz.prog++Tryz.f5.resultTypes.toList))=true:=by kernel_rfl
set_option maxRecDepth 1000000 in
theorem closed:joinedFacts Tryz.pinned.checked.prog 5 Tryz.f5 Rows.rulesCapsSpec Rows.rulesCapsRow=true:=by show joinedFacts Tryz.prog 5 Tryz.f5 Rows.rulesCapsSpec Rows.rulesCapsRow=true;unfold joinedFacts;exact(mb (mb (mb (mb (mb (mb (mb (mb (mb (mb (mb (mb (mb (mb (mb (mb (mb (mb (mb (mb (mb (mb (mb (mb (mb (mb (mb (mb (mb (mb (mb awF awG) awH) awI) awJ) awK) awL) awM) awN) awO) aus) aut) auu) auv) auw) auy) auz) au0) au1) au2) au3) au4) au5) au6) au7) au8) au9) auA) auB) auC) auD) auE)
theorem ad5:Rows.rulesCapsRow.holds Tryz.pinned (OpenSpec.ofChange Rows.rulesCapsSpec):=OpenClaim.holds_of_wide 5 Tryz.f5 rfl rfl rfl rfl rfl rfl rfl ⟨rfl,rfl,rfl,rfl,rfl⟩ rfl rfl rfl rfl rfl (by kernel_rfl) Tryz.func5 closed (bD (by kernel_rfl)) (by unfold Func.isWrapper;first|(rw[ah (by decide +kernel)];kernel_rfl)|(rw[ag (by decide +kernel)];exact⟨rfl,rfl⟩)) (λos started H enc _=>lifted os started H enc)
theorem proved:Rows.RulesCapsSaid:=ad5
#print axioms proved
end Go.Proofs.YthghpahghjppjaaGreat.RulesCapsP