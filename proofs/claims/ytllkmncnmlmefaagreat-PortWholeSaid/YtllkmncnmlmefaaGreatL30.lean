/- 'PortWholeSaid' is proved: the law PortWhole returns true at every input, and hands back what it read. Conditions: none beyond the statement's own. -/
import Derived.Test.YtllkmncnmlmefaaGreatB7
namespace Go.Proofs.YtllkmncnmlmefaaGreat.PortWholeP
open Go Go.Vc Go.RowKit Go.ChangeShapes Go.WideShapes Go.ChangeAt Go.Joins
theorem opn57:Opn Tryz.prog 57 (DT.den tAAsset) (DT.enc tAAsset) (DT.okD tAAsset):=Opn.struct Tryz.underlying57 (by kernel_rfl) (OpnF.cons rfl (k:=1) (by kernel_rfl) (Opn.int (k:=.i64) Tryz.underlying3) (OpnF.cons rfl (k:=1) (by kernel_rfl) (Opn.int (k:=.i64) Tryz.underlying3) (OpnF.cons rfl (k:=1) (by kernel_rfl) (Opn.int (k:=.i64) Tryz.underlying2) OpnF.nil)))
theorem opn47:Opn Tryz.prog 47 (DT.den tAUnit) (DT.enc tAUnit) (DT.okD tAUnit):=Opn.struct Tryz.underlying47 (by kernel_rfl) (OpnF.cons rfl (k:=1) (by kernel_rfl) (Opn.int (k:=.i64) Tryz.underlying3) (OpnF.cons rfl (k:=1) (by kernel_rfl) (Opn.int (k:=.i64) Tryz.underlying3) OpnF.nil))
theorem opn55:Opn Tryz.prog 55 (DT.den tAHold) (DT.enc tAHold) (DT.okD tAHold):=Opn.struct Tryz.underlying55 (by kernel_rfl) (OpnF.cons rfl (k:=2) (by kernel_rfl) opn47 (OpnF.cons rfl (k:=1) (by kernel_rfl) (Opn.slice Tryz.underlying53 (k:=3) (by kernel_rfl) opn57) OpnF.nil))
theorem opn143:Opn Tryz.prog 143 (DT.den tAFlow) (DT.enc tAFlow) (DT.okD tAFlow):=Opn.struct Tryz.underlying143 (by kernel_rfl) (OpnF.cons rfl (k:=2) (by kernel_rfl) opn47 (OpnF.cons rfl (k:=1) (by kernel_rfl) (Opn.int (k:=.i64) Tryz.underlying2) OpnF.nil))
theorem opn52:Opn Tryz.prog 52 (DT.den tAUnit) (DT.enc tAUnit) (DT.okD tAUnit):=Opn.struct Tryz.underlying52 (by kernel_rfl) (OpnF.cons rfl (k:=1) (by kernel_rfl) (Opn.int (k:=.i64) Tryz.underlying3) (OpnF.cons rfl (k:=1) (by kernel_rfl) (Opn.int (k:=.i64) Tryz.underlying2) OpnF.nil))
theorem opn50:Opn Tryz.prog 50 (DT.den tAPos) (DT.enc tAPos) (DT.okD tAPos):=Opn.struct Tryz.underlying50 (by kernel_rfl) (OpnF.cons rfl (k:=2) (by kernel_rfl) opn47 (OpnF.cons rfl (k:=1) (by kernel_rfl) (Opn.slice Tryz.underlying48 (k:=2) (by kernel_rfl) opn52) OpnF.nil))
theorem opn128:Opn Tryz.prog 128 (DT.den tAGive) (DT.enc tAGive) (DT.okD tAGive):=Opn.struct Tryz.underlying128 (by kernel_rfl) (OpnF.cons rfl (k:=1) (by kernel_rfl) (Opn.int (k:=.i64) Tryz.underlying3) (OpnF.cons rfl (k:=2) (by kernel_rfl) opn47 (OpnF.cons rfl (k:=2) (by kernel_rfl) opn47 (OpnF.cons rfl (k:=2) (by kernel_rfl) opn52 (OpnF.cons rfl (k:=1) (by kernel_rfl) (Opn.int (k:=.i64) Tryz.underlying2) (OpnF.cons rfl (k:=1) (by kernel_rfl) (Opn.int (k:=.i64) Tryz.underlying3) (OpnF.cons rfl (k:=1) (by kernel_rfl) (Opn.int (k:=.i64) Tryz.underlying3) (OpnF.cons rfl (k:=1) (by kernel_rfl) (Opn.int (k:=.i64) Tryz.underlying3) OpnF.nil))))))))
theorem opn126:Opn Tryz.prog 126 (DT.den tAGroup) (DT.enc tAGroup) (DT.okD tAGroup):=Opn.struct Tryz.underlying126 (by kernel_rfl) (OpnF.cons rfl (k:=1) (by kernel_rfl) (Opn.int (k:=.i64) Tryz.underlying3) (OpnF.cons rfl (k:=2) (by kernel_rfl) opn47 (OpnF.cons rfl (k:=1) (by kernel_rfl) (Opn.int (k:=.i64) Tryz.underlying3) (OpnF.cons rfl (k:=1) (by kernel_rfl) (Opn.int (k:=.i64) Tryz.underlying2) (OpnF.cons rfl (k:=1) (by kernel_rfl) (Opn.int (k:=.i64) Tryz.underlying2) OpnF.nil)))))
theorem opn140:Opn Tryz.prog 140 (DT.den tAChoice) (DT.enc tAChoice) (DT.okD tAChoice):=Opn.struct Tryz.underlying140 (by kernel_rfl) (OpnF.cons rfl (k:=2) (by kernel_rfl) opn47 (OpnF.cons rfl (k:=2) (by kernel_rfl) opn47 (OpnF.cons rfl (k:=1) (by kernel_rfl) (Opn.bool Tryz.underlying4) OpnF.nil)))
theorem opn60:Opn Tryz.prog 60 (DT.den tAAccount) (DT.enc tAAccount) (DT.okD tAAccount):=Opn.struct Tryz.underlying60 (by kernel_rfl) (OpnF.cons rfl (k:=1) (by kernel_rfl) (Opn.int (k:=.i64) Tryz.underlying3) (OpnF.cons rfl (k:=1) (by kernel_rfl) (Opn.int (k:=.i64) Tryz.underlying3) (OpnF.cons rfl (k:=1) (by kernel_rfl) (Opn.int (k:=.i64) Tryz.underlying3) (OpnF.cons rfl (k:=1) (by kernel_rfl) (Opn.slice Tryz.underlying58 (k:=1) (by kernel_rfl) (Opn.int (k:=.i64) Tryz.underlying3)) OpnF.nil))))
theorem opn120:Opn Tryz.prog 120 (DT.den tAAsset) (DT.enc tAAsset) (DT.okD tAAsset):=Opn.struct Tryz.underlying120 (by kernel_rfl) (OpnF.cons rfl (k:=1) (by kernel_rfl) (Opn.int (k:=.i64) Tryz.underlying3) (OpnF.cons rfl (k:=1) (by kernel_rfl) (Opn.int (k:=.i64) Tryz.underlying2) (OpnF.cons rfl (k:=1) (by kernel_rfl) (Opn.int (k:=.i64) Tryz.underlying2) OpnF.nil)))
theorem opn124:Opn Tryz.prog 124 (DT.den tAInst) (DT.enc tAInst) (DT.okD tAInst):=Opn.struct Tryz.underlying124 (by kernel_rfl) (OpnF.cons rfl (k:=1) (by kernel_rfl) (Opn.int (k:=.i64) Tryz.underlying3) (OpnF.cons rfl (k:=1) (by kernel_rfl) (Opn.int (k:=.i64) Tryz.underlying2) (OpnF.cons rfl (k:=1) (by kernel_rfl) (Opn.int (k:=.i64) Tryz.underlying2) (OpnF.cons rfl (k:=1) (by kernel_rfl) (Opn.int (k:=.i64) Tryz.underlying2) (OpnF.cons rfl (k:=1) (by kernel_rfl) (Opn.slice Tryz.underlying122 (k:=1) (by kernel_rfl) (Opn.int (k:=.i64) Tryz.underlying2)) OpnF.nil)))))
theorem opn118:Opn Tryz.prog 118 (DT.den tAMember) (DT.enc tAMember) (DT.okD tAMember):=Opn.struct Tryz.underlying118 (by kernel_rfl) (OpnF.cons rfl (k:=1) (by kernel_rfl) (Opn.int (k:=.i64) Tryz.underlying3) (OpnF.cons rfl (k:=1) (by kernel_rfl) (Opn.int (k:=.i64) Tryz.underlying2) (OpnF.cons rfl (k:=1) (by kernel_rfl) (Opn.int (k:=.i64) Tryz.underlying3) (OpnF.cons rfl (k:=1) (by kernel_rfl) (Opn.int (k:=.i64) Tryz.underlying3) OpnF.nil))))
theorem opn33:Opn Tryz.prog 33 (DT.den tAState) (DT.enc tAState) (DT.okD tAState):=Opn.struct Tryz.underlying33 (by kernel_rfl) (OpnF.cons rfl (k:=1) (by kernel_rfl) (Opn.int (k:=.i64) Tryz.underlying3) (OpnF.cons rfl (k:=1) (by kernel_rfl) (Opn.slice Tryz.underlying22 (k:=4) (by kernel_rfl) opn118) (OpnF.cons rfl (k:=1) (by kernel_rfl) (Opn.slice Tryz.underlying23 (k:=5) (by kernel_rfl) opn124) (OpnF.cons rfl (k:=1) (by kernel_rfl) (Opn.slice Tryz.underlying24 (k:=3) (by kernel_rfl) opn120) (OpnF.cons rfl (k:=1) (by kernel_rfl) (Opn.slice Tryz.underlying25 (k:=4) (by kernel_rfl) opn60) (OpnF.cons rfl (k:=1) (by kernel_rfl) (Opn.slice Tryz.underlying26 (k:=5) (by kernel_rfl) opn140) (OpnF.cons rfl (k:=1) (by kernel_rfl) (Opn.slice Tryz.underlying27 (k:=6) (by kernel_rfl) opn126) (OpnF.cons rfl (k:=1) (by kernel_rfl) (Opn.slice Tryz.underlying28 (k:=11) (by kernel_rfl) opn128) (OpnF.cons rfl (k:=1) (by kernel_rfl) (Opn.slice Tryz.underlying29 (k:=3) (by kernel_rfl) opn50) (OpnF.cons rfl (k:=1) (by kernel_rfl) (Opn.slice Tryz.underlying29 (k:=3) (by kernel_rfl) opn50) (OpnF.cons rfl (k:=1) (by kernel_rfl) (Opn.slice Tryz.underlying30 (k:=3) (by kernel_rfl) opn143) (OpnF.cons rfl (k:=1) (by kernel_rfl) (Opn.slice Tryz.underlying31 (k:=3) (by kernel_rfl) opn55) OpnF.nil))))))))))))
theorem walk(x0:DT.den tAState)(x1:DT.den tAUnit)(x2:DT.den tAUnit)(o0:DT.okD tAState x0)(o1:DT.okD tAUnit x1)(o2:DT.okD tAUnit x2):Ct Tryz.prog 10 [DT.encA tAState x0,DT.encA tAUnit x1,DT.encA tAUnit x2] (.val (.bool true)):=
 Ct.of_q (zqs.ct (x0,x1,x2,()) true (whole_true x0 x1 x2 o0 o1 o2))
set_option maxRecDepth 100000 in
theorem lifted(os:Os)(started:os.Started)(H:Type)(enc:TypeId×Value→H):
  ReturnsInHanded {} Tryz.checked os 10 .any (Rows.portWholeSpec.pre6 enc Tryz.prog Tryz.f10 Rows.portWholeRow.domain false) (Rows.portWholeSpec.post enc Tryz.prog Tryz.f10 false true false false):=by
 refine returnsInHanded_of_change (C:=Tryz.checked) own started (by kernel_rfl) Tryz.func10
  (ChangeSpec.witness6 (enc:=enc) (C:=Tryz.checked) false ⟨#[],#[.agg #[.int .i64 0,.slice none 0 0,.slice none 0 0,.slice none 0 0,.slice none 0 0,.slice none 0 0,.slice none 0 0,.slice none 0 0,.slice none 0 0,.slice none 0 0,.slice none 0 0,.slice none 0 0],.agg #[.int .i64 0,.int .i64 0],.agg #[.int .i64 0,.int .i64 0]],[]⟩ 8 (by kernel_rfl) (by kernel_rfl) (by kernel_rfl) (by kernel_rfl)) ?_
 intro W base args ds gs before hval0 hW hcnd _
 have hval:∀(j:Nat) t v,Tryz.f10.params[j]?=some t→args[j]?=some v→Value.okWide Tryz.prog W .any base t v:=hval0
 have hW':=hW
 obtain⟨p,q,hA0,hV,rfl,hfz,hnd⟩:=hW
 have hA:DataW.TrodAll enc Tryz.prog W 0 (fun _=>true) true Tryz.f10.params.toList args.toList ds p:=hA0
 rw[Tryz.params10]at hA hval
 obtain⟨v0,vs0,d0,ds0,p0,q0,hargs,rfl,rfl,h0,r0⟩:=trodAll_cons hA
 obtain⟨v1,vs1,d1,ds1,p1,q1,rfl,rfl,rfl,h1,r1⟩:=trodAll_cons r0
 obtain⟨v2,vs2,d2,ds2,p2,q2,rfl,rfl,rfl,h2,r2⟩:=trodAll_cons r1
 obtain⟨rfl,rfl,rfl⟩:=trodAll_nil r2
 obtain rfl:args = #[v0,v1,v2]:=by cases args; simp_all
 obtain⟨rfl,rfl⟩:=trodVars_none hV
 have lt0:=zol h0
 have k0:=h0
 have lt1:=zol h1
 have k1:=h1
 have lt2:=zol h2
 have k2:=h2
 obtain⟨x0,o0,g0⟩:=openS Tryz.underlying33 opn33 (hval 0 33 v0 rfl rfl) k0
 obtain⟨x1,o1,g1⟩:=openS Tryz.underlying47 opn47 (hval 1 47 v1 rfl rfl) k1
 obtain⟨x2,o2,g2⟩:=openS Tryz.underlying47 opn47 (hval 2 47 v2 rfl rfl) k2
 clear hA0 hval0
 refine(Ct.says (walk x0 x1 x2 o0 o1 o2) (vs:=[v0,v1,v2]) (w:=W) ⟨_,_,rfl,g0,⟨_,_,rfl,g1,⟨_,_,rfl,g2,rfl⟩⟩⟩ ⟨_,Tryz.func10,by decide +kernel,rfl⟩).mono fun e W' ⟨he,bel⟩=>?_
 subst he
 exact⟨_,rfl,_,_,_,[],_,[],hW',trodAll_mk1 (shut_bool Tryz.underlying4 _),
  (trodAll_cons_mk (Below.trod yip (by kernel_rfl) (of_decide_eq_true (by kernel_rfl)) h0 bel lt0) (trodAll_cons_mk (Below.trod yip (by kernel_rfl) (of_decide_eq_true (by kernel_rfl)) h1 bel lt1) (trodAll_cons_mk (Below.trod yip (by kernel_rfl) (of_decide_eq_true (by kernel_rfl)) h2 bel lt2) trodAll_mk0))),rfl,bel.frame _,fun h=>by cases h⟩
set_option maxRecDepth 1000000 in
theorem unf:Tryz.prog.unfollowed 10=true:=by
 unfold Program.unfollowed
 rw[ztn ydo]
 kernel_rfl
theorem rec:Tryz.prog.recurses 10=true:=by unfold Program.recurses; rw[unf]; rfl
theorem and_t{a b:Bool}(ha:a=true)(hb:b=true):(a&&b)=true:=by rw[ha,hb]; rfl
set_option maxRecDepth 1000000 in
theorem fact0:(Rows.portWholeRow.wf (OpenSpec.ofChange Rows.portWholeSpec))=true:=by kernel_rfl
set_option maxRecDepth 1000000 in
theorem fact1:(laidOutB Tryz.prog)=true:=by kernel_rfl
set_option maxRecDepth 1000000 in
theorem fact2:(mapsRowed Tryz.prog)=true:=by kernel_rfl
set_option maxRecDepth 1000000 in
theorem fact3:(Tryz.f10.params.all (Tryz.prog.readableRec ·))=true:=by kernel_rfl
set_option maxRecDepth 1000000 in
theorem fact4:(namedTie Tryz.prog Rows.portWholeRow.named Rows.portWholeSpec.vars)=true:=by kernel_rfl
set_option maxRecDepth 1000000 in
theorem fact5:((Rows.portWholeRow.stops==[]))=true:=by kernel_rfl
set_option maxRecDepth 1000000 in
theorem fact6:((Tryz.prog.stops==[]))=true:=by kernel_rfl
set_option maxRecDepth 1000000 in
theorem fact7:((Rows.portWholeRow.knobs==[]))=true:=by kernel_rfl
set_option maxRecDepth 1000000 in
theorem fact8:((Tryz.prog.stopKnobs==[]))=true:=by kernel_rfl
set_option maxRecDepth 1000000 in
theorem fact9:((Rows.portWholeRow.inPlace==Tryz.prog.inPlace 10))=true:=by unfold Program.inPlace; rw[ztn ydo]; kernel_rfl
set_option maxRecDepth 1000000 in
theorem fact10:((Rows.portWholeRow.unfollowed==Tryz.prog.unfollowed 10))=true:=by rw[unf]; kernel_rfl
set_option maxRecDepth 1000000 in
theorem fact11:((Rows.portWholeRow.recurses==Tryz.prog.recurses 10))=true:=by rw[rec]; kernel_rfl
set_option maxRecDepth 1000000 in
theorem fact12:((Rows.portWholeRow.named==Tryz.prog.varsNamed 10))=true:=by unfold Program.varsNamed; rw[ztn ydo]; kernel_rfl
set_option maxRecDepth 1000000 in
theorem fact13:((Rows.portWholeRow.maps==(Tryz.f10.params.toList++Rows.portWholeSpec.plain.varTypes Tryz.prog).any (Tryz.prog.mapsRec ·)))=true:=by kernel_rfl
set_option maxRecDepth 1000000 in
theorem fact14:((Rows.portWholeRow.ifaces==(Tryz.f10.params.toList++Rows.portWholeSpec.plain.varTypes Tryz.prog).any (Tryz.prog.ifacesRec ·)))=true:=by kernel_rfl
set_option maxRecDepth 1000000 in
theorem fact15:((Rows.portWholeRow.mapsOut==Tryz.prog.mapsAmong Tryz.f10.resultTypes.toList))=true:=by kernel_rfl
set_option maxRecDepth 1000000 in
theorem fact16:((Rows.portWholeRow.loops==(Tryz.f10.params.toList++Rows.portWholeSpec.plain.varTypes Tryz.prog).any (Tryz.prog.loopsFrom ·)))=true:=by kernel_rfl
set_option maxRecDepth 1000000 in
theorem fact17:((Rows.portWholeRow.wideKeys==(Tryz.f10.params.toList++Rows.portWholeSpec.plain.varTypes Tryz.prog++Tryz.f10.resultTypes.toList).any (Tryz.prog.wideKeysFrom ·)))=true:=by kernel_rfl
set_option maxRecDepth 1000000 in
theorem fact18:(Rows.portWholeSpec.vars.all (Tryz.prog.varReadable ·))=true:=by kernel_rfl
set_option maxRecDepth 1000000 in
theorem fact19:(Tryz.f10.resultTypes.all (fun t=>Tryz.prog.readableRec t&&decide (t<Tryz.prog.types.size)))=true:=by kernel_rfl
set_option maxRecDepth 1000000 in
theorem fact20:((Rows.portWholeRow.ifacesOut==Tryz.f10.resultTypes.toList.any (Tryz.prog.ifacesRec ·)))=true:=by kernel_rfl
set_option maxRecDepth 1000000 in
theorem fact21:((Rows.portWholeRow.loopsOut==Tryz.f10.resultTypes.toList.any (Tryz.prog.loopsFrom ·)))=true:=by kernel_rfl
set_option maxRecDepth 1000000 in
theorem fact22:((Rows.portWholeRow.plainKeys==Tryz.prog.plainKeys))=true:=by kernel_rfl
set_option maxRecDepth 1000000 in
theorem fact23:(Rows.portWholeRow.shortTexts.isNone)=true:=by kernel_rfl
set_option maxRecDepth 1000000 in
theorem fact24:(Tryz.prog.stopsHeard)=true:=by kernel_rfl
set_option maxRecDepth 1000000 in
theorem fact25:(Tryz.prog.mayEnter)=true:=by kernel_rfl
set_option maxRecDepth 1000000 in
theorem fact26:((Rows.portWholeRow.lifted==Tryz.prog.liftsFinal))=true:=by kernel_rfl
set_option maxRecDepth 1000000 in
theorem fact27:((Tryz.prog.make==some Rows.portWholeRow.make))=true:=by kernel_rfl
set_option maxRecDepth 1000000 in
theorem fact28:((Rows.portWholeRow.kinds==(if Rows.portWholeRow.domain.isEmpty then [] else Tryz.f10.params.toList.map fun t=>match Tryz.prog.underlying t with|some (.int k)=>some k|_=>none)))=true:=by kernel_rfl
set_option maxRecDepth 1000000 in
theorem fact29:((Rows.portWholeRow.pinned==Rows.portWholeRow.pinnedBy))=true:=by kernel_rfl
set_option maxRecDepth 1000000 in
theorem fact30:((Rows.portWholeRow.veiled==(Tryz.f10.params.toList++Rows.portWholeSpec.plain.varTypes Tryz.prog++Tryz.f10.resultTypes.toList).any (Tryz.prog.veiledRec ·)))=true:=by kernel_rfl
set_option maxRecDepth 1000000 in
theorem fact31:(Rows.portWholeRow.veiledFits Tryz.prog Tryz.f10.params.toList (Tryz.f10.params.toList++Rows.portWholeSpec.plain.varTypes Tryz.prog++Tryz.f10.resultTypes.toList))=true:=by kernel_rfl
set_option maxRecDepth 1000000 in
theorem closed:joinedFacts Tryz.pinned.checked.prog 10 Tryz.f10 Rows.portWholeSpec Rows.portWholeRow=true:=by
 show joinedFacts Tryz.prog 10 Tryz.f10 Rows.portWholeSpec Rows.portWholeRow=true
 unfold joinedFacts
 exact(and_t (and_t (and_t (and_t (and_t (and_t (and_t (and_t (and_t (and_t (and_t (and_t (and_t (and_t (and_t (and_t (and_t (and_t (and_t (and_t (and_t (and_t (and_t (and_t (and_t (and_t (and_t (and_t (and_t (and_t (and_t fact0 fact1) fact2) fact3) fact4) fact5) fact6) fact7) fact8) fact9) fact10) fact11) fact12) fact13) fact14) fact15) fact16) fact17) fact18) fact19) fact20) fact21) fact22) fact23) fact24) fact25) fact26) fact27) fact28) fact29) fact30) fact31)
theorem over:Rows.portWholeRow.holds Tryz.pinned (OpenSpec.ofChange Rows.portWholeSpec):=
 OpenClaim.holds_of_wide 10 Tryz.f10 rfl rfl rfl rfl rfl rfl rfl ⟨rfl,rfl,rfl,rfl,rfl⟩ rfl rfl rfl rfl rfl (by kernel_rfl) Tryz.func10 closed
  (of_decide_eq_true (by kernel_rfl)) (by unfold Func.isWrapper; first|(rw[if_pos (by decide +kernel)]; kernel_rfl)|(rw[if_neg (by decide +kernel)]; exact⟨rfl,rfl⟩))
  (fun os started H enc _=>lifted os started H enc)
theorem proved:Rows.PortWholeSaid:=over
#print axioms proved
end Go.Proofs.YtllkmncnmlmefaaGreat.PortWholeP