/- 'AuctKeepsSaid' is proved: the law AuctKeeps returns true at every input, and hands back what it read. Conditions: none beyond the statement's own. -/
import Derived.Test.YtllkmncnmlmefaaGreatB8
namespace Go.Proofs.YtllkmncnmlmefaaGreat.AuctKeepsP
open Go Go.Vc Go.RowKit Go.ChangeShapes Go.WideShapes Go.ChangeAt Go.Joins
theorem opn57:Opn Tryz.prog 57 (DT.den tAAsset) (DT.enc tAAsset) (DT.okD tAAsset):=Opn.struct Tryz.underlying57 (by kernel_rfl) (OpnF.cons rfl (k:=1) (by kernel_rfl) (Opn.int (k:=.i64) Tryz.underlying3) (OpnF.cons rfl (k:=1) (by kernel_rfl) (Opn.int (k:=.i64) Tryz.underlying3) (OpnF.cons rfl (k:=1) (by kernel_rfl) (Opn.int (k:=.i64) Tryz.underlying2) OpnF.nil)))
theorem opn47:Opn Tryz.prog 47 (DT.den tAUnit) (DT.enc tAUnit) (DT.okD tAUnit):=Opn.struct Tryz.underlying47 (by kernel_rfl) (OpnF.cons rfl (k:=1) (by kernel_rfl) (Opn.int (k:=.i64) Tryz.underlying3) (OpnF.cons rfl (k:=1) (by kernel_rfl) (Opn.int (k:=.i64) Tryz.underlying3) OpnF.nil))
theorem opn55:Opn Tryz.prog 55 (DT.den tAHold) (DT.enc tAHold) (DT.okD tAHold):=Opn.struct Tryz.underlying55 (by kernel_rfl) (OpnF.cons rfl (k:=2) (by kernel_rfl) opn47 (OpnF.cons rfl (k:=1) (by kernel_rfl) (Opn.slice Tryz.underlying53 (k:=3) (by kernel_rfl) opn57) OpnF.nil))
theorem opn143:Opn Tryz.prog 143 (DT.den tAFlow) (DT.enc tAFlow) (DT.okD tAFlow):=Opn.struct Tryz.underlying143 (by kernel_rfl) (OpnF.cons rfl (k:=2) (by kernel_rfl) opn47 (OpnF.cons rfl (k:=1) (by kernel_rfl) (Opn.int (k:=.i64) Tryz.underlying2) OpnF.nil))
theorem opn52:Opn Tryz.prog 52 (DT.den tAUnit) (DT.enc tAUnit) (DT.okD tAUnit):=Opn.struct Tryz.underlying52 (by kernel_rfl) (OpnF.cons rfl (k:=1) (by kernel_rfl) (Opn.int (k:=.i64) Tryz.underlying3) (OpnF.cons rfl (k:=1) (by kernel_rfl) (Opn.int (k:=.i64) Tryz.underlying2) OpnF.nil))
theorem opn50:Opn Tryz.prog 50 (DT.den tAPos) (DT.enc tAPos) (DT.okD tAPos):=Opn.struct Tryz.underlying50 (by kernel_rfl) (OpnF.cons rfl (k:=2) (by kernel_rfl) opn47 (OpnF.cons rfl (k:=1) (by kernel_rfl) (Opn.slice Tryz.underlying48 (k:=2) (by kernel_rfl) opn52) OpnF.nil))
theorem opn128:Opn Tryz.prog 128 (DT.den tAGive) (DT.enc tAGive) (DT.okD tAGive):=Opn.struct Tryz.underlying128 (by kernel_rfl) (OpnF.cons rfl (k:=1) (by kernel_rfl) (Opn.int (k:=.i64) Tryz.underlying3) (OpnF.cons rfl (k:=2) (by kernel_rfl) opn47 (OpnF.cons rfl (k:=2) (by kernel_rfl) opn47 (OpnF.cons rfl (k:=2) (by kernel_rfl) opn52 (OpnF.cons rfl (k:=1) (by kernel_rfl) (Opn.int (k:=.i64) Tryz.underlying2) (OpnF.cons rfl (k:=1) (by kernel_rfl) (Opn.int (k:=.i64) Tryz.underlying3) (OpnF.cons rfl (k:=1) (by kernel_rfl) (Opn.int (k:=.i64) Tryz.underlying3) (OpnF.cons rfl (k:=1) (by kernel_rfl) (Opn.int (k:=.i64) Tryz.underlying3) OpnF.nil))))))))
theorem opn126:Opn Tryz.prog 126 (DT.den tAGroup) (DT.enc tAGroup) (DT.okD tAGroup):=Opn.struct Tryz.underlying126 (by kernel_rfl) (OpnF.cons rfl (k:=1) (by kernel_rfl) (Opn.int (k:=.i64) Tryz.underlying3) (OpnF.cons rfl (k:=2) (by kernel_rfl) opn47 (OpnF.cons rfl (k:=1) (by kernel_rfl) (Opn.int (k:=.i64) Tryz.underlying3) (OpnF.cons rfl (k:=1) (by kernel_rfl) (Opn.int (k:=.i64) Tryz.underlying2) (OpnF.cons rfl (k:=1) (by kernel_rfl) (Opn.int (k:=.i64) Tryz.underlying2) OpnF.nil)))))
theorem opn140:Opn Tryz.prog 140 (DT.den tAChoice) (DT.enc tAChoice) (DT.okD tAChoice):=Opn.struct Tryz.underlying140 (by kernel_rfl) (OpnF.cons rfl (k:=2) (by kernel_rfl) opn47 (OpnF.cons rfl (k:=2) (by kernel_rfl) opn47 (OpnF.cons rfl (k:=1) (by kernel_rfl) (Opn.bool Tryz.underlying4) OpnF.nil)))
theorem opn60:Opn Tryz.prog 60 (DT.den tAAccount) (DT.enc tAAccount) (DT.okD tAAccount):=Opn.struct Tryz.underlying60 (by kernel_rfl) (OpnF.cons rfl (k:=1) (by kernel_rfl) (Opn.int (k:=.i64) Tryz.underlying3) (OpnF.cons rfl (k:=1) (by kernel_rfl) (Opn.int (k:=.i64) Tryz.underlying3) (OpnF.cons rfl (k:=1) (by kernel_rfl) (Opn.int (k:=.i64) Tryz.underlying3) (OpnF.cons rfl (k:=1) (by kernel_rfl) (Opn.slice Tryz.underlying58 (k:=1) (by kernel_rfl) (Opn.int (k:=.i64) Tryz.underlying3)) OpnF.nil))))
theorem opn120:Opn Tryz.prog 120 (DT.den tAAsset) (DT.enc tAAsset) (DT.okD tAAsset):=Opn.struct Tryz.underlying120 (by kernel_rfl) (OpnF.cons rfl (k:=1) (by kernel_rfl) (Opn.int (k:=.i64) Tryz.underlying3) (OpnF.cons rfl (k:=1) (by kernel_rfl) (Opn.int (k:=.i64) Tryz.underlying2) (OpnF.cons rfl (k:=1) (by kernel_rfl) (Opn.int (k:=.i64) Tryz.underlying2) OpnF.nil)))
theorem opn124:Opn Tryz.prog 124 (DT.den tAInst) (DT.enc tAInst) (DT.okD tAInst):=Opn.struct Tryz.underlying124 (by kernel_rfl) (OpnF.cons rfl (k:=1) (by kernel_rfl) (Opn.int (k:=.i64) Tryz.underlying3) (OpnF.cons rfl (k:=1) (by kernel_rfl) (Opn.int (k:=.i64) Tryz.underlying2) (OpnF.cons rfl (k:=1) (by kernel_rfl) (Opn.int (k:=.i64) Tryz.underlying2) (OpnF.cons rfl (k:=1) (by kernel_rfl) (Opn.int (k:=.i64) Tryz.underlying2) (OpnF.cons rfl (k:=1) (by kernel_rfl) (Opn.slice Tryz.underlying122 (k:=1) (by kernel_rfl) (Opn.int (k:=.i64) Tryz.underlying2)) OpnF.nil)))))
theorem opn118:Opn Tryz.prog 118 (DT.den tAMember) (DT.enc tAMember) (DT.okD tAMember):=Opn.struct Tryz.underlying118 (by kernel_rfl) (OpnF.cons rfl (k:=1) (by kernel_rfl) (Opn.int (k:=.i64) Tryz.underlying3) (OpnF.cons rfl (k:=1) (by kernel_rfl) (Opn.int (k:=.i64) Tryz.underlying2) (OpnF.cons rfl (k:=1) (by kernel_rfl) (Opn.int (k:=.i64) Tryz.underlying3) (OpnF.cons rfl (k:=1) (by kernel_rfl) (Opn.int (k:=.i64) Tryz.underlying3) OpnF.nil))))
theorem opn33:Opn Tryz.prog 33 (DT.den tAState) (DT.enc tAState) (DT.okD tAState):=Opn.struct Tryz.underlying33 (by kernel_rfl) (OpnF.cons rfl (k:=1) (by kernel_rfl) (Opn.int (k:=.i64) Tryz.underlying3) (OpnF.cons rfl (k:=1) (by kernel_rfl) (Opn.slice Tryz.underlying22 (k:=4) (by kernel_rfl) opn118) (OpnF.cons rfl (k:=1) (by kernel_rfl) (Opn.slice Tryz.underlying23 (k:=5) (by kernel_rfl) opn124) (OpnF.cons rfl (k:=1) (by kernel_rfl) (Opn.slice Tryz.underlying24 (k:=3) (by kernel_rfl) opn120) (OpnF.cons rfl (k:=1) (by kernel_rfl) (Opn.slice Tryz.underlying25 (k:=4) (by kernel_rfl) opn60) (OpnF.cons rfl (k:=1) (by kernel_rfl) (Opn.slice Tryz.underlying26 (k:=5) (by kernel_rfl) opn140) (OpnF.cons rfl (k:=1) (by kernel_rfl) (Opn.slice Tryz.underlying27 (k:=6) (by kernel_rfl) opn126) (OpnF.cons rfl (k:=1) (by kernel_rfl) (Opn.slice Tryz.underlying28 (k:=11) (by kernel_rfl) opn128) (OpnF.cons rfl (k:=1) (by kernel_rfl) (Opn.slice Tryz.underlying29 (k:=3) (by kernel_rfl) opn50) (OpnF.cons rfl (k:=1) (by kernel_rfl) (Opn.slice Tryz.underlying29 (k:=3) (by kernel_rfl) opn50) (OpnF.cons rfl (k:=1) (by kernel_rfl) (Opn.slice Tryz.underlying30 (k:=3) (by kernel_rfl) opn143) (OpnF.cons rfl (k:=1) (by kernel_rfl) (Opn.slice Tryz.underlying31 (k:=3) (by kernel_rfl) opn55) OpnF.nil))))))))))))
theorem walk(x0:DT.den tAState)(x1:DT.den tAUnit)(x2:DT.den tAUnit)(x3:DT.den tAUnit)(x4:DT.den (.int .i64))(x5:DT.den (.int .i64))(x6:DT.den (.int .i64))(o0:DT.okD tAState x0)(o1:DT.okD tAUnit x1)(o2:DT.okD tAUnit x2)(o3:DT.okD tAUnit x3)(o4:DT.okD (.int .i64) x4)(o5:DT.okD (.int .i64) x5)(o6:DT.okD (.int .i64) x6):Ct Tryz.prog 8 [DT.encA tAState x0,DT.encA tAUnit x1,DT.encA tAUnit x2,DT.encA tAUnit x3,DT.encA (.int .i64) x4,DT.encA (.int .i64) x5,DT.encA (.int .i64) x6] (.val (.bool true)):=
 Ct.of_q (ztp.ct (x0,x1,x2,x3,x4,x5,x6,()) true (keeps_true x0 x1 x2 x3 x4 x5 x6 o0 o1 o2 o3 o4 o5 o6))
set_option maxRecDepth 100000 in
theorem lifted(os:Os)(started:os.Started)(H:Type)(enc:TypeId×Value→H):
  ReturnsInHanded {} Tryz.checked os 8 .any (Rows.auctKeepsSpec.pre6 enc Tryz.prog Tryz.f8 Rows.auctKeepsRow.domain false) (Rows.auctKeepsSpec.post enc Tryz.prog Tryz.f8 false true false false):=by
 refine returnsInHanded_of_change (C:=Tryz.checked) own started (by kernel_rfl) Tryz.func8
  (ChangeSpec.witness6 (enc:=enc) (C:=Tryz.checked) false ⟨#[],#[.agg #[.int .i64 0,.slice none 0 0,.slice none 0 0,.slice none 0 0,.slice none 0 0,.slice none 0 0,.slice none 0 0,.slice none 0 0,.slice none 0 0,.slice none 0 0,.slice none 0 0,.slice none 0 0],.agg #[.int .i64 0,.int .i64 0],.agg #[.int .i64 0,.int .i64 0],.agg #[.int .i64 0,.int .i64 0],.int .i64 0,.int .i64 0,.int .i64 0],[]⟩ 8 (by kernel_rfl) (by kernel_rfl) (by kernel_rfl) (by kernel_rfl)) ?_
 intro W base args ds gs before hval0 hW hcnd _
 have hval:∀(j:Nat) t v,Tryz.f8.params[j]?=some t→args[j]?=some v→Value.okWide Tryz.prog W .any base t v:=hval0
 have hW':=hW
 obtain⟨p,q,hA0,hV,rfl,hfz,hnd⟩:=hW
 have hA:DataW.TrodAll enc Tryz.prog W 0 (fun _=>true) true Tryz.f8.params.toList args.toList ds p:=hA0
 rw[Tryz.params8]at hA hval
 obtain⟨v0,vs0,d0,ds0,p0,q0,hargs,rfl,rfl,h0,r0⟩:=trodAll_cons hA
 obtain⟨v1,vs1,d1,ds1,p1,q1,rfl,rfl,rfl,h1,r1⟩:=trodAll_cons r0
 obtain⟨v2,vs2,d2,ds2,p2,q2,rfl,rfl,rfl,h2,r2⟩:=trodAll_cons r1
 obtain⟨v3,vs3,d3,ds3,p3,q3,rfl,rfl,rfl,h3,r3⟩:=trodAll_cons r2
 obtain⟨v4,vs4,d4,ds4,p4,q4,rfl,rfl,rfl,h4,r4⟩:=trodAll_cons r3
 obtain⟨v5,vs5,d5,ds5,p5,q5,rfl,rfl,rfl,h5,r5⟩:=trodAll_cons r4
 obtain⟨v6,vs6,d6,ds6,p6,q6,rfl,rfl,rfl,h6,r6⟩:=trodAll_cons r5
 obtain⟨rfl,rfl,rfl⟩:=trodAll_nil r6
 obtain rfl:args = #[v0,v1,v2,v3,v4,v5,v6]:=by cases args; simp_all
 obtain⟨rfl,rfl⟩:=trodVars_none hV
 have lt0:=zcf h0
 have k0:=h0
 have lt1:=zcf h1
 have k1:=h1
 have lt2:=zcf h2
 have k2:=h2
 have lt3:=zcf h3
 have k3:=h3
 have lt4:=zcf h4
 have k4:=h4
 have lt5:=zcf h5
 have k5:=h5
 have lt6:=zcf h6
 have k6:=h6
 obtain⟨x0,o0,g0⟩:=openS Tryz.underlying33 opn33 (hval 0 33 v0 rfl rfl) k0
 obtain⟨x1,o1,g1⟩:=openS Tryz.underlying47 opn47 (hval 1 47 v1 rfl rfl) k1
 obtain⟨x2,o2,g2⟩:=openS Tryz.underlying47 opn47 (hval 2 47 v2 rfl rfl) k2
 obtain⟨x3,o3,g3⟩:=openS Tryz.underlying47 opn47 (hval 3 47 v3 rfl rfl) k3
 obtain⟨x4,o4,g4⟩:=zjq (r:=DT.encA (.int .i64)) Tryz.underlying3 (Opn.int (k:=.i64) Tryz.underlying3) (fun _=>rfl) (hval 4 3 v4 rfl rfl) k4
 obtain⟨x5,o5,g5⟩:=zjq (r:=DT.encA (.int .i64)) Tryz.underlying2 (Opn.int (k:=.i64) Tryz.underlying2) (fun _=>rfl) (hval 5 2 v5 rfl rfl) k5
 obtain⟨x6,o6,g6⟩:=zjq (r:=DT.encA (.int .i64)) Tryz.underlying2 (Opn.int (k:=.i64) Tryz.underlying2) (fun _=>rfl) (hval 6 2 v6 rfl rfl) k6
 clear hA0 hval0
 refine(Ct.says (walk x0 x1 x2 x3 x4 x5 x6 o0 o1 o2 o3 o4 o5 o6) (vs:=[v0,v1,v2,v3,v4,v5,v6]) (w:=W) ⟨_,_,rfl,g0,⟨_,_,rfl,g1,⟨_,_,rfl,g2,⟨_,_,rfl,g3,⟨_,_,rfl,g4,⟨_,_,rfl,g5,⟨_,_,rfl,g6,rfl⟩⟩⟩⟩⟩⟩⟩ ⟨_,Tryz.func8,by decide +kernel,rfl⟩).mono fun e W' ⟨he,bel⟩=>?_
 subst he
 exact⟨_,rfl,_,_,_,[],_,[],hW',trodAll_mk1 (shut_bool Tryz.underlying4 _),
  (trodAll_cons_mk (Below.trod zfz (by kernel_rfl) (of_decide_eq_true (by kernel_rfl)) h0 bel lt0) (trodAll_cons_mk (Below.trod zfz (by kernel_rfl) (of_decide_eq_true (by kernel_rfl)) h1 bel lt1) (trodAll_cons_mk (Below.trod zfz (by kernel_rfl) (of_decide_eq_true (by kernel_rfl)) h2 bel lt2) (trodAll_cons_mk (Below.trod zfz (by kernel_rfl) (of_decide_eq_true (by kernel_rfl)) h3 bel lt3) (trodAll_cons_mk (Below.trod zfz (by kernel_rfl) (of_decide_eq_true (by kernel_rfl)) h4 bel lt4) (trodAll_cons_mk (Below.trod zfz (by kernel_rfl) (of_decide_eq_true (by kernel_rfl)) h5 bel lt5) (trodAll_cons_mk (Below.trod zfz (by kernel_rfl) (of_decide_eq_true (by kernel_rfl)) h6 bel lt6) trodAll_mk0))))))),rfl,bel.frame _,fun h=>by cases h⟩
set_option maxRecDepth 1000000 in
theorem unf:Tryz.prog.unfollowed 8=true:=by
 unfold Program.unfollowed
 rw[zhe zpr]
 kernel_rfl
theorem rec:Tryz.prog.recurses 8=true:=by unfold Program.recurses; rw[unf]; rfl
theorem and_t{a b:Bool}(ha:a=true)(hb:b=true):(a&&b)=true:=by rw[ha,hb]; rfl
set_option maxRecDepth 1000000 in
theorem fact0:(Rows.auctKeepsRow.wf (OpenSpec.ofChange Rows.auctKeepsSpec))=true:=by kernel_rfl
set_option maxRecDepth 1000000 in
theorem fact1:(laidOutB Tryz.prog)=true:=by kernel_rfl
set_option maxRecDepth 1000000 in
theorem fact2:(mapsRowed Tryz.prog)=true:=by kernel_rfl
set_option maxRecDepth 1000000 in
theorem fact3:(Tryz.f8.params.all (Tryz.prog.readableRec ·))=true:=by kernel_rfl
set_option maxRecDepth 1000000 in
theorem fact4:(namedTie Tryz.prog Rows.auctKeepsRow.named Rows.auctKeepsSpec.vars)=true:=by kernel_rfl
set_option maxRecDepth 1000000 in
theorem fact5:((Rows.auctKeepsRow.stops==[]))=true:=by kernel_rfl
set_option maxRecDepth 1000000 in
theorem fact6:((Tryz.prog.stops==[]))=true:=by kernel_rfl
set_option maxRecDepth 1000000 in
theorem fact7:((Rows.auctKeepsRow.knobs==[]))=true:=by kernel_rfl
set_option maxRecDepth 1000000 in
theorem fact8:((Tryz.prog.stopKnobs==[]))=true:=by kernel_rfl
set_option maxRecDepth 1000000 in
theorem fact9:((Rows.auctKeepsRow.inPlace==Tryz.prog.inPlace 8))=true:=by unfold Program.inPlace; rw[zhe zpr]; kernel_rfl
set_option maxRecDepth 1000000 in
theorem fact10:((Rows.auctKeepsRow.unfollowed==Tryz.prog.unfollowed 8))=true:=by rw[unf]; kernel_rfl
set_option maxRecDepth 1000000 in
theorem fact11:((Rows.auctKeepsRow.recurses==Tryz.prog.recurses 8))=true:=by rw[rec]; kernel_rfl
set_option maxRecDepth 1000000 in
theorem fact12:((Rows.auctKeepsRow.named==Tryz.prog.varsNamed 8))=true:=by unfold Program.varsNamed; rw[zhe zpr]; kernel_rfl
set_option maxRecDepth 1000000 in
theorem fact13:((Rows.auctKeepsRow.maps==(Tryz.f8.params.toList++Rows.auctKeepsSpec.plain.varTypes Tryz.prog).any (Tryz.prog.mapsRec ·)))=true:=by kernel_rfl
set_option maxRecDepth 1000000 in
theorem fact14:((Rows.auctKeepsRow.ifaces==(Tryz.f8.params.toList++Rows.auctKeepsSpec.plain.varTypes Tryz.prog).any (Tryz.prog.ifacesRec ·)))=true:=by kernel_rfl
set_option maxRecDepth 1000000 in
theorem fact15:((Rows.auctKeepsRow.mapsOut==Tryz.prog.mapsAmong Tryz.f8.resultTypes.toList))=true:=by kernel_rfl
set_option maxRecDepth 1000000 in
theorem fact16:((Rows.auctKeepsRow.loops==(Tryz.f8.params.toList++Rows.auctKeepsSpec.plain.varTypes Tryz.prog).any (Tryz.prog.loopsFrom ·)))=true:=by kernel_rfl
set_option maxRecDepth 1000000 in
theorem fact17:((Rows.auctKeepsRow.wideKeys==(Tryz.f8.params.toList++Rows.auctKeepsSpec.plain.varTypes Tryz.prog++Tryz.f8.resultTypes.toList).any (Tryz.prog.wideKeysFrom ·)))=true:=by kernel_rfl
set_option maxRecDepth 1000000 in
theorem fact18:(Rows.auctKeepsSpec.vars.all (Tryz.prog.varReadable ·))=true:=by kernel_rfl
set_option maxRecDepth 1000000 in
theorem fact19:(Tryz.f8.resultTypes.all (fun t=>Tryz.prog.readableRec t&&decide (t<Tryz.prog.types.size)))=true:=by kernel_rfl
set_option maxRecDepth 1000000 in
theorem fact20:((Rows.auctKeepsRow.ifacesOut==Tryz.f8.resultTypes.toList.any (Tryz.prog.ifacesRec ·)))=true:=by kernel_rfl
set_option maxRecDepth 1000000 in
theorem fact21:((Rows.auctKeepsRow.loopsOut==Tryz.f8.resultTypes.toList.any (Tryz.prog.loopsFrom ·)))=true:=by kernel_rfl
set_option maxRecDepth 1000000 in
theorem fact22:((Rows.auctKeepsRow.plainKeys==Tryz.prog.plainKeys))=true:=by kernel_rfl
set_option maxRecDepth 1000000 in
theorem fact23:(Rows.auctKeepsRow.shortTexts.isNone)=true:=by kernel_rfl
set_option maxRecDepth 1000000 in
theorem fact24:(Tryz.prog.stopsHeard)=true:=by kernel_rfl
set_option maxRecDepth 1000000 in
theorem fact25:(Tryz.prog.mayEnter)=true:=by kernel_rfl
set_option maxRecDepth 1000000 in
theorem fact26:((Rows.auctKeepsRow.lifted==Tryz.prog.liftsFinal))=true:=by kernel_rfl
set_option maxRecDepth 1000000 in
theorem fact27:((Tryz.prog.make==some Rows.auctKeepsRow.make))=true:=by kernel_rfl
set_option maxRecDepth 1000000 in
theorem fact28:((Rows.auctKeepsRow.kinds==(if Rows.auctKeepsRow.domain.isEmpty then [] else Tryz.f8.params.toList.map fun t=>match Tryz.prog.underlying t with|some (.int k)=>some k|_=>none)))=true:=by kernel_rfl
set_option maxRecDepth 1000000 in
theorem fact29:((Rows.auctKeepsRow.pinned==Rows.auctKeepsRow.pinnedBy))=true:=by kernel_rfl
set_option maxRecDepth 1000000 in
theorem fact30:((Rows.auctKeepsRow.veiled==(Tryz.f8.params.toList++Rows.auctKeepsSpec.plain.varTypes Tryz.prog++Tryz.f8.resultTypes.toList).any (Tryz.prog.veiledRec ·)))=true:=by kernel_rfl
set_option maxRecDepth 1000000 in
theorem fact31:(Rows.auctKeepsRow.veiledFits Tryz.prog Tryz.f8.params.toList (Tryz.f8.params.toList++Rows.auctKeepsSpec.plain.varTypes Tryz.prog++Tryz.f8.resultTypes.toList))=true:=by kernel_rfl
set_option maxRecDepth 1000000 in
theorem closed:joinedFacts Tryz.pinned.checked.prog 8 Tryz.f8 Rows.auctKeepsSpec Rows.auctKeepsRow=true:=by
 show joinedFacts Tryz.prog 8 Tryz.f8 Rows.auctKeepsSpec Rows.auctKeepsRow=true
 unfold joinedFacts
 exact(and_t (and_t (and_t (and_t (and_t (and_t (and_t (and_t (and_t (and_t (and_t (and_t (and_t (and_t (and_t (and_t (and_t (and_t (and_t (and_t (and_t (and_t (and_t (and_t (and_t (and_t (and_t (and_t (and_t (and_t (and_t fact0 fact1) fact2) fact3) fact4) fact5) fact6) fact7) fact8) fact9) fact10) fact11) fact12) fact13) fact14) fact15) fact16) fact17) fact18) fact19) fact20) fact21) fact22) fact23) fact24) fact25) fact26) fact27) fact28) fact29) fact30) fact31)
theorem over:Rows.auctKeepsRow.holds Tryz.pinned (OpenSpec.ofChange Rows.auctKeepsSpec):=
 OpenClaim.holds_of_wide 8 Tryz.f8 rfl rfl rfl rfl rfl rfl rfl ⟨rfl,rfl,rfl,rfl,rfl⟩ rfl rfl rfl rfl rfl (by kernel_rfl) Tryz.func8 closed
  (of_decide_eq_true (by kernel_rfl)) (by unfold Func.isWrapper; first|(rw[if_pos (by decide +kernel)]; kernel_rfl)|(rw[if_neg (by decide +kernel)]; exact⟨rfl,rfl⟩))
  (fun os started H enc _=>lifted os started H enc)
theorem proved:Rows.AuctKeepsSaid:=over
end Go.Proofs.YtllkmncnmlmefaaGreat.AuctKeepsP