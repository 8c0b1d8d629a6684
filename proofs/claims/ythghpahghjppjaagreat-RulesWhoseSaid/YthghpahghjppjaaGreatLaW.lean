/- 'RulesWhoseSaid' is proved: the law RulesWhose returns true at every input, and hands back what it read. Conditions: none beyond the statement's own. -/
import Derived.Test.YthghpahghjppjaaGreatB12
namespace Go.Proofs.YthghpahghjppjaaGreat.RulesWhoseP
open Go Go.Vc Go.RowKit Go.ChangeShapes Go.WideShapes Go.ChangeAt Go.Joins
theorem walk(x0:DT.den (.slc j5))(o0:DT.Oi (.slc j5) x0):ri aj x0=some true:=afh o0
set_option maxRecDepth 100000 in
theorem lifted(os:Os)(started:os.Started)(H:Type)(enc:TypeId×Value->H):
 ReturnsInHanded {} Tryz.checked os 4 .any (Rows.rulesWhoseSpec.pre6 enc Tryz.prog Tryz.f4 Rows.rulesWhoseRow.domain false) (Rows.rulesWhoseSpec.post enc Tryz.prog Tryz.f4 false true false false):=by
 refine returnsInHanded_of_change (C:=Tryz.checked) own started (by kernel_rfl) Tryz.func4 (ChangeSpec.witness6 (enc:=enc) (C:=Tryz.checked) false ⟨#[],#[.slice none 0 0],[]⟩ 8 (by kernel_rfl) (by kernel_rfl) (by kernel_rfl) (by kernel_rfl)) ?_;intro W base args ds gs before hval0 hW hcnd _;have hval:∀(j:Nat) t v,Tryz.f4.params[j]?=some t->args[j]?=some v->Value.okWide Tryz.prog W .any base t v:=hval0;have hW':=hW;obtain⟨p,q,hA0,hV,rfl,hfz,hnd⟩:=hW;have hA:DataW.TrodAll enc Tryz.prog W 0 (λ_=>true) true Tryz.f4.params.toList args.toList ds p:=hA0;rw[Tryz.params4]at hA hval;obtain⟨v0,vs0,d0,ds0,p0,q0,hargs,rfl,rfl,h0,r0⟩:=trodAll_cons hA;obtain⟨rfl,rfl,rfl⟩:=trodAll_nil r0;obtain rfl:args = #[v0]:=by cases args;simp_all
 obtain⟨rfl,rfl⟩:=trodVars_none hV;have lt0:=abW h0;have k0:=h0;obtain⟨x0,o0,g0⟩:=Go.Vc.G5 (d:=(.slc j5)) (by kernel_rfl) (hval 0 22 v0 rfl rfl) k0;clear hA0 hval0;refine(ayc (x:=(x0,())) (vs:=[v0]) (w:=W) KY.ok (walk x0 o0) (arx g0 avE) ⟨_,Tryz.func4,by decide +kernel,rfl⟩).mono λe W' ⟨he,bel⟩=>?_
 subst he;exact⟨_,rfl,_,_,_,[],_,[],hW',trodAll_mk1 (shut_bool Tryz.underlying4 _),(trodAll_cons_mk (Below.trod laidOut (by kernel_rfl) (bM (by kernel_rfl)) h0 bel lt0) trodAll_mk0),rfl,bel.frame _,λh=>by cases h⟩
set_option maxRecDepth 1000000 in
theorem unf:Tryz.prog.unfollowed 4=true:=by unfold Program.unfollowed;rw[AR L6];kernel_rfl
theorem rec:Tryz.prog.recurses 4=true:=by unfold Program.recurses;rw[unf];rfl
theorem mP{a b:Bool}(ha:a=true)(hb:b=true):(a&&b)=true:=by rw[ha,hb];rfl
set_option maxRecDepth 1000000 in
theorem ayS:(Rows.rulesWhoseRow.wf (OpenSpec.ofChange Rows.rulesWhoseSpec))=true:=by kernel_rfl
set_option maxRecDepth 1000000 in
theorem ayT:(laidOutB Tryz.prog)=true:=by kernel_rfl
set_option maxRecDepth 1000000 in
theorem ayU:(mapsRowed Tryz.prog)=true:=by kernel_rfl
set_option maxRecDepth 1000000 in
theorem ayV:(Tryz.f4.params.all (Tryz.prog.readableRec ·))=true:=by kernel_rfl
set_option maxRecDepth 1000000 in
theorem ayW:(namedTie Tryz.prog Rows.rulesWhoseRow.named Rows.rulesWhoseSpec.vars)=true:=by kernel_rfl
set_option maxRecDepth 1000000 in
theorem ayX:(Rows.rulesWhoseRow.stops==[])=true:=by kernel_rfl
set_option maxRecDepth 1000000 in
theorem ayY:(Tryz.prog.stops==[])=true:=by kernel_rfl
set_option maxRecDepth 1000000 in
theorem ayZ:(Rows.rulesWhoseRow.knobs==[])=true:=by kernel_rfl
set_option maxRecDepth 1000000 in
theorem aza:(Tryz.prog.stopKnobs==[])=true:=by kernel_rfl
set_option maxRecDepth 1000000 in
theorem azb:(Rows.rulesWhoseRow.inPlace==Tryz.prog.inPlace 4)=true:=by unfold Program.inPlace;rw[AR L6];kernel_rfl
set_option maxRecDepth 1000000 in
theorem awt:(Rows.rulesWhoseRow.unfollowed==Tryz.prog.unfollowed 4)=true:=by rw[unf];kernel_rfl
set_option maxRecDepth 1000000 in
theorem awu:(Rows.rulesWhoseRow.recurses==Tryz.prog.recurses 4)=true:=by rw[rec];kernel_rfl
set_option maxRecDepth 1000000 in
theorem awv:(Rows.rulesWhoseRow.named==Tryz.prog.varsNamed 4)=true:=by unfold Program.varsNamed;rw[AR L6];kernel_rfl
set_option maxRecDepth 1000000 in
theorem aww:(Rows.rulesWhoseRow.maps==(Tryz.f4.params.toList++Rows.rulesWhoseSpec.plain.varTypes Tryz.prog).any (Tryz.prog.mapsRec ·))=true:=by kernel_rfl
set_option maxRecDepth 1000000 in
theorem awx:(Rows.rulesWhoseRow.ifaces==(Tryz.f4.params.toList++Rows.rulesWhoseSpec.plain.varTypes Tryz.prog).any (Tryz.prog.ifacesRec ·))=true:=by kernel_rfl
set_option maxRecDepth 1000000 in
theorem awy:(Rows.rulesWhoseRow.mapsOut==Tryz.prog.mapsAmong Tryz.f4.resultTypes.toList)=true:=by kernel_rfl
set_option maxRecDepth 1000000 in
theorem awz:(Rows.rulesWhoseRow.loops==(Tryz.f4.params.toList++Rows.rulesWhoseSpec.plain.varTypes Tryz.prog).any (Tryz.prog.loopsFrom ·))=true:=by kernel_rfl
set_option maxRecDepth 1000000 in
theorem aw0:(Rows.rulesWhoseRow.wideKeys==(Tryz.f4.params.toList++Rows.rulesWhoseSpec.plain.varTypes Tryz.prog++Tryz.f4.resultTypes.toList).any (Tryz.prog.wideKeysFrom ·))=true:=by kernel_rfl
set_option maxRecDepth 1000000 in
theorem aw1:(Rows.rulesWhoseSpec.vars.all (Tryz.prog.varReadable ·))=true:=by kernel_rfl
set_option maxRecDepth 1000000 in
theorem aw2:(Tryz.f4.resultTypes.all λt=>Tryz.prog.readableRec t&&decide (t<Tryz.prog.types.size))=true:=by kernel_rfl
set_option maxRecDepth 1000000 in
theorem aw3:(Rows.rulesWhoseRow.ifacesOut==Tryz.f4.resultTypes.toList.any (Tryz.prog.ifacesRec ·))=true:=by kernel_rfl
set_option maxRecDepth 1000000 in
theorem aw4:(Rows.rulesWhoseRow.loopsOut==Tryz.f4.resultTypes.toList.any (Tryz.prog.loopsFrom ·))=true:=by kernel_rfl
set_option maxRecDepth 1000000 in
theorem aw5:(Rows.rulesWhoseRow.plainKeys==Tryz.prog.plainKeys)=true:=by kernel_rfl
set_option maxRecDepth 1000000 in
theorem aw6:(Rows.rulesWhoseRow.shortTexts.isNone)=true:=by kernel_rfl
set_option maxRecDepth 1000000 in
theorem aw7:(Tryz.prog.stopsHeard)=true:=by kernel_rfl
set_option maxRecDepth 1000000 in
theorem aw8:(Tryz.prog.mayEnter)=true:=by kernel_rfl
set_option maxRecDepth 1000000 in
theorem aw9:(Rows.rulesWhoseRow.lifted==Tryz.prog.liftsFinal)=true:=by kernel_rfl
set_option maxRecDepth 1000000 in
theorem awA:(Tryz.prog.make==some Rows.rulesWhoseRow.make)=true:=by kernel_rfl
set_option maxRecDepth 1000000 in
theorem awB:(Rows.rulesWhoseRow.kinds==(if Rows.rulesWhoseRow.domain.isEmpty then[]else Tryz.f4.params.toList.map λt=>match Tryz.prog.underlying t with|some (.int k)=>some k|_=>none))=true:=by kernel_rfl
set_option maxRecDepth 1000000 in
theorem awC:(Rows.rulesWhoseRow.pinned==Rows.rulesWhoseRow.pinnedBy)=true:=by kernel_rfl
set_option maxRecDepth 1000000 in
theorem awD:(Rows.rulesWhoseRow.veiled==(Tryz.f4.params.toList++Rows.rulesWhoseSpec.plain.varTypes Tryz.prog++Tryz.f4.resultTypes.toList).any (Tryz.prog.veiledRec ·))=true:=by kernel_rfl
set_option maxRecDepth 1000000 in
theorem awE:(Rows.rulesWhoseRow.veiledFits Tryz.prog Tryz.f4.params.toList (Tryz.f4.params.toList++Rows.rulesWhoseSpec.plain.varTypes Tryz.prog++Tryz.f4.resultTypes.toList))=true:=by kernel_rfl
set_option maxRecDepth 1000000 in
theorem closed:joinedFacts Tryz.pinned.checked.prog 4 Tryz.f4 Rows.rulesWhoseSpec Rows.rulesWhoseRow=true:=by show joinedFacts Tryz.prog 4 Tryz.f4 Rows.rulesWhoseSpec Rows.rulesWhoseRow=true;unfold joinedFacts;exact(mP (mP (mP (mP (mP (mP (mP (mP (mP (mP (mP (mP (mP (mP (mP (mP (mP (mP (mP (mP (mP (mP (mP (mP (mP (mP (mP (mP (mP (mP (mP ayS ayT) ayU) ayV) ayW) ayX) ayY) ayZ) aza) azb) awt) awu) awv) aww) awx) awy) awz) aw0) aw1) aw2) aw3) aw4) aw5) aw6) aw7) aw8) aw9) awA) awB) awC) awD) awE)
theorem afF:Rows.rulesWhoseRow.holds Tryz.pinned (OpenSpec.ofChange Rows.rulesWhoseSpec):=OpenClaim.holds_of_wide 4 Tryz.f4 rfl rfl rfl rfl rfl rfl rfl ⟨rfl,rfl,rfl,rfl,rfl⟩ rfl rfl rfl rfl rfl (by kernel_rfl) Tryz.func4 closed (bM (by kernel_rfl)) (by unfold Func.isWrapper;first|(rw[ah (by decide +kernel)];kernel_rfl)|(rw[ag (by decide +kernel)];exact⟨rfl,rfl⟩)) (λos started H enc _=>lifted os started H enc)
theorem proved:Rows.RulesWhoseSaid:=afF
#print axioms proved
end Go.Proofs.YthghpahghjppjaaGreat.RulesWhoseP