/- 'RestGivesSaid' is proved: the law RestGives returns true at every input, and hands back what it read. Conditions: none beyond the statement's own. -/
import Derived.Test.YtbpbkmngbhgpfaaGreatB8
namespace Go.Proofs.YtbpbkmngbhgpfaaGreat.RestGivesP
open Go Go.Vc Go.RowKit Go.ChangeShapes Go.WideShapes Go.ChangeAt Go.Joins
theorem opn121:Opn Tryz.prog 121 (DT.den tAAsset) (DT.enc tAAsset) (DT.okD tAAsset):=Opn.struct Tryz.underlying121 (by kernel_rfl) (OpnF.cons rfl (k:=1) (by kernel_rfl) (Opn.int (k:=.i64) Tryz.underlying3) (OpnF.cons rfl (k:=1) (by kernel_rfl) (Opn.int (k:=.i64) Tryz.underlying3) (OpnF.cons rfl (k:=1) (by kernel_rfl) (Opn.int (k:=.i64) Tryz.underlying2) OpnF.nil)))
theorem opn35:Opn Tryz.prog 35 (DT.den tAUnit) (DT.enc tAUnit) (DT.okD tAUnit):=Opn.struct Tryz.underlying35 (by kernel_rfl) (OpnF.cons rfl (k:=1) (by kernel_rfl) (Opn.int (k:=.i64) Tryz.underlying3) (OpnF.cons rfl (k:=1) (by kernel_rfl) (Opn.int (k:=.i64) Tryz.underlying3) OpnF.nil))
theorem opn123:Opn Tryz.prog 123 (DT.den tAHold) (DT.enc tAHold) (DT.okD tAHold):=Opn.struct Tryz.underlying123 (by kernel_rfl) (OpnF.cons rfl (k:=2) (by kernel_rfl) opn35 (OpnF.cons rfl (k:=1) (by kernel_rfl) (Opn.slice Tryz.underlying36 (k:=3) (by kernel_rfl) opn121) OpnF.nil))
theorem opn111:Opn Tryz.prog 111 (DT.den tAFlow) (DT.enc tAFlow) (DT.okD tAFlow):=Opn.struct Tryz.underlying111 (by kernel_rfl) (OpnF.cons rfl (k:=2) (by kernel_rfl) opn35 (OpnF.cons rfl (k:=1) (by kernel_rfl) (Opn.int (k:=.i64) Tryz.underlying2) OpnF.nil))
theorem opn136:Opn Tryz.prog 136 (DT.den tAUnit) (DT.enc tAUnit) (DT.okD tAUnit):=Opn.struct Tryz.underlying136 (by kernel_rfl) (OpnF.cons rfl (k:=1) (by kernel_rfl) (Opn.int (k:=.i64) Tryz.underlying3) (OpnF.cons rfl (k:=1) (by kernel_rfl) (Opn.int (k:=.i64) Tryz.underlying2) OpnF.nil))
theorem opn198:Opn Tryz.prog 198 (DT.den tAPos) (DT.enc tAPos) (DT.okD tAPos):=Opn.struct Tryz.underlying198 (by kernel_rfl) (OpnF.cons rfl (k:=2) (by kernel_rfl) opn35 (OpnF.cons rfl (k:=1) (by kernel_rfl) (Opn.slice Tryz.underlying137 (k:=2) (by kernel_rfl) opn136) OpnF.nil))
theorem opn154:Opn Tryz.prog 154 (DT.den tAGive) (DT.enc tAGive) (DT.okD tAGive):=Opn.struct Tryz.underlying154 (by kernel_rfl) (OpnF.cons rfl (k:=1) (by kernel_rfl) (Opn.int (k:=.i64) Tryz.underlying3) (OpnF.cons rfl (k:=2) (by kernel_rfl) opn35 (OpnF.cons rfl (k:=2) (by kernel_rfl) opn35 (OpnF.cons rfl (k:=2) (by kernel_rfl) opn136 (OpnF.cons rfl (k:=1) (by kernel_rfl) (Opn.int (k:=.i64) Tryz.underlying2) (OpnF.cons rfl (k:=1) (by kernel_rfl) (Opn.int (k:=.i64) Tryz.underlying3) (OpnF.cons rfl (k:=1) (by kernel_rfl) (Opn.int (k:=.i64) Tryz.underlying3) (OpnF.cons rfl (k:=1) (by kernel_rfl) (Opn.int (k:=.i64) Tryz.underlying3) OpnF.nil))))))))
theorem opn152:Opn Tryz.prog 152 (DT.den tAGroup) (DT.enc tAGroup) (DT.okD tAGroup):=Opn.struct Tryz.underlying152 (by kernel_rfl) (OpnF.cons rfl (k:=1) (by kernel_rfl) (Opn.int (k:=.i64) Tryz.underlying3) (OpnF.cons rfl (k:=2) (by kernel_rfl) opn35 (OpnF.cons rfl (k:=1) (by kernel_rfl) (Opn.int (k:=.i64) Tryz.underlying3) (OpnF.cons rfl (k:=1) (by kernel_rfl) (Opn.int (k:=.i64) Tryz.underlying2) (OpnF.cons rfl (k:=1) (by kernel_rfl) (Opn.int (k:=.i64) Tryz.underlying2) OpnF.nil)))))
theorem opn167:Opn Tryz.prog 167 (DT.den tAChoice) (DT.enc tAChoice) (DT.okD tAChoice):=Opn.struct Tryz.underlying167 (by kernel_rfl) (OpnF.cons rfl (k:=2) (by kernel_rfl) opn35 (OpnF.cons rfl (k:=2) (by kernel_rfl) opn35 (OpnF.cons rfl (k:=1) (by kernel_rfl) (Opn.bool Tryz.underlying4) OpnF.nil)))
theorem opn69:Opn Tryz.prog 69 (DT.den tAAccount) (DT.enc tAAccount) (DT.okD tAAccount):=Opn.struct Tryz.underlying69 (by kernel_rfl) (OpnF.cons rfl (k:=1) (by kernel_rfl) (Opn.int (k:=.i64) Tryz.underlying3) (OpnF.cons rfl (k:=1) (by kernel_rfl) (Opn.int (k:=.i64) Tryz.underlying3) (OpnF.cons rfl (k:=1) (by kernel_rfl) (Opn.int (k:=.i64) Tryz.underlying3) (OpnF.cons rfl (k:=1) (by kernel_rfl) (Opn.slice Tryz.underlying67 (k:=1) (by kernel_rfl) (Opn.int (k:=.i64) Tryz.underlying3)) OpnF.nil))))
theorem opn125:Opn Tryz.prog 125 (DT.den tAAsset) (DT.enc tAAsset) (DT.okD tAAsset):=Opn.struct Tryz.underlying125 (by kernel_rfl) (OpnF.cons rfl (k:=1) (by kernel_rfl) (Opn.int (k:=.i64) Tryz.underlying3) (OpnF.cons rfl (k:=1) (by kernel_rfl) (Opn.int (k:=.i64) Tryz.underlying2) (OpnF.cons rfl (k:=1) (by kernel_rfl) (Opn.int (k:=.i64) Tryz.underlying2) OpnF.nil)))
theorem opn76:Opn Tryz.prog 76 (DT.den tAInst) (DT.enc tAInst) (DT.okD tAInst):=Opn.struct Tryz.underlying76 (by kernel_rfl) (OpnF.cons rfl (k:=1) (by kernel_rfl) (Opn.int (k:=.i64) Tryz.underlying3) (OpnF.cons rfl (k:=1) (by kernel_rfl) (Opn.int (k:=.i64) Tryz.underlying2) (OpnF.cons rfl (k:=1) (by kernel_rfl) (Opn.int (k:=.i64) Tryz.underlying2) (OpnF.cons rfl (k:=1) (by kernel_rfl) (Opn.int (k:=.i64) Tryz.underlying2) (OpnF.cons rfl (k:=1) (by kernel_rfl) (Opn.slice Tryz.underlying74 (k:=1) (by kernel_rfl) (Opn.int (k:=.i64) Tryz.underlying2)) OpnF.nil)))))
theorem opn150:Opn Tryz.prog 150 (DT.den tAMember) (DT.enc tAMember) (DT.okD tAMember):=Opn.struct Tryz.underlying150 (by kernel_rfl) (OpnF.cons rfl (k:=1) (by kernel_rfl) (Opn.int (k:=.i64) Tryz.underlying3) (OpnF.cons rfl (k:=1) (by kernel_rfl) (Opn.int (k:=.i64) Tryz.underlying2) (OpnF.cons rfl (k:=1) (by kernel_rfl) (Opn.int (k:=.i64) Tryz.underlying3) (OpnF.cons rfl (k:=1) (by kernel_rfl) (Opn.int (k:=.i64) Tryz.underlying3) OpnF.nil))))
theorem opn33:Opn Tryz.prog 33 (DT.den tAState) (DT.enc tAState) (DT.okD tAState):=Opn.struct Tryz.underlying33 (by kernel_rfl) (OpnF.cons rfl (k:=1) (by kernel_rfl) (Opn.int (k:=.i64) Tryz.underlying3) (OpnF.cons rfl (k:=1) (by kernel_rfl) (Opn.slice Tryz.underlying22 (k:=4) (by kernel_rfl) opn150) (OpnF.cons rfl (k:=1) (by kernel_rfl) (Opn.slice Tryz.underlying23 (k:=5) (by kernel_rfl) opn76) (OpnF.cons rfl (k:=1) (by kernel_rfl) (Opn.slice Tryz.underlying24 (k:=3) (by kernel_rfl) opn125) (OpnF.cons rfl (k:=1) (by kernel_rfl) (Opn.slice Tryz.underlying25 (k:=4) (by kernel_rfl) opn69) (OpnF.cons rfl (k:=1) (by kernel_rfl) (Opn.slice Tryz.underlying26 (k:=5) (by kernel_rfl) opn167) (OpnF.cons rfl (k:=1) (by kernel_rfl) (Opn.slice Tryz.underlying27 (k:=6) (by kernel_rfl) opn152) (OpnF.cons rfl (k:=1) (by kernel_rfl) (Opn.slice Tryz.underlying28 (k:=11) (by kernel_rfl) opn154) (OpnF.cons rfl (k:=1) (by kernel_rfl) (Opn.slice Tryz.underlying29 (k:=3) (by kernel_rfl) opn198) (OpnF.cons rfl (k:=1) (by kernel_rfl) (Opn.slice Tryz.underlying29 (k:=3) (by kernel_rfl) opn198) (OpnF.cons rfl (k:=1) (by kernel_rfl) (Opn.slice Tryz.underlying30 (k:=3) (by kernel_rfl) opn111) (OpnF.cons rfl (k:=1) (by kernel_rfl) (Opn.slice Tryz.underlying31 (k:=3) (by kernel_rfl) opn123) OpnF.nil))))))))))))
theorem opn38:Opn Tryz.prog 38 (DT.den tAReturn) (DT.enc tAReturn) (DT.okD tAReturn):=Opn.struct Tryz.underlying38 (by kernel_rfl) (OpnF.cons rfl (k:=2) (by kernel_rfl) opn35 (OpnF.cons rfl (k:=1) (by kernel_rfl) (Opn.int (k:=.i64) Tryz.underlying2) (OpnF.cons rfl (k:=1) (by kernel_rfl) (Opn.slice Tryz.underlying36 (k:=3) (by kernel_rfl) opn121) OpnF.nil)))
theorem walk(x0:DT.den tAState)(x1:DT.den (.int .i64))(x2:DT.den tAUnit)(x3:DT.den tAReturn)(o0:DT.okD tAState x0)(o1:DT.okD (.int .i64) x1)(o2:DT.okD tAUnit x2)(o3:DT.okD tAReturn x3):Ct Tryz.prog 3 [DT.encA tAState x0,DT.encA (.int .i64) x1,DT.encA tAUnit x2,DT.encA tAReturn x3] (.val (.bool true)):=
 Ct.of_q (ztn.ct (x0,x1,x2,x3,()) true (gives_true x0 x1 x2 x3 o0 o1 o2 o3))
set_option maxRecDepth 100000 in
theorem lifted(os:Os)(started:os.Started)(H:Type)(enc:TypeId×Value→H):
  ReturnsInHanded {} Tryz.checked os 3 .any (Rows.restGivesSpec.pre6 enc Tryz.prog Tryz.f3 Rows.restGivesRow.domain false) (Rows.restGivesSpec.post enc Tryz.prog Tryz.f3 false true false false):=by
 refine returnsInHanded_of_change (C:=Tryz.checked) own started (by kernel_rfl) Tryz.func3
  (ChangeSpec.witness6 (enc:=enc) (C:=Tryz.checked) false ⟨#[],#[.agg #[.int .i64 0,.slice none 0 0,.slice none 0 0,.slice none 0 0,.slice none 0 0,.slice none 0 0,.slice none 0 0,.slice none 0 0,.slice none 0 0,.slice none 0 0,.slice none 0 0,.slice none 0 0],.int .i64 0,.agg #[.int .i64 0,.int .i64 0],.agg #[.int .i64 0,.int .i64 0,.int .i64 0,.slice none 0 0]],[]⟩ 8 (by kernel_rfl) (by kernel_rfl) (by kernel_rfl) (by kernel_rfl)) ?_
 intro W base args ds gs before hval0 hW hcnd _
 have hval:∀(j:Nat) t v,Tryz.f3.params[j]?=some t→args[j]?=some v→Value.okWide Tryz.prog W .any base t v:=hval0
 have hW':=hW
 obtain⟨p,q,hA0,hV,rfl,hfz,hnd⟩:=hW
 have hA:DataW.TrodAll enc Tryz.prog W 0 (fun _=>true) true Tryz.f3.params.toList args.toList ds p:=hA0
 rw[Tryz.params3]at hA hval
 obtain⟨v0,vs0,d0,ds0,p0,q0,hargs,rfl,rfl,h0,r0⟩:=trodAll_cons hA
 obtain⟨v1,vs1,d1,ds1,p1,q1,rfl,rfl,rfl,h1,r1⟩:=trodAll_cons r0
 obtain⟨v2,vs2,d2,ds2,p2,q2,rfl,rfl,rfl,h2,r2⟩:=trodAll_cons r1
 obtain⟨v3,vs3,d3,ds3,p3,q3,rfl,rfl,rfl,h3,r3⟩:=trodAll_cons r2
 obtain⟨rfl,rfl,rfl⟩:=trodAll_nil r3
 obtain rfl:args = #[v0,v1,v2,v3]:=by cases args; simp_all
 obtain⟨rfl,rfl⟩:=trodVars_none hV
 have lt0:=zkg h0
 have k0:=h0
 have lt1:=zkg h1
 have k1:=h1
 have lt2:=zkg h2
 have k2:=h2
 have lt3:=zkg h3
 have k3:=h3
 obtain⟨x0,o0,g0⟩:=openS Tryz.underlying33 opn33 (hval 0 33 v0 rfl rfl) k0
 obtain⟨x1,o1,g1⟩:=open_int' (r:=DT.encA (.int .i64)) Tryz.underlying3 (Opn.int (k:=.i64) Tryz.underlying3) (fun _=>rfl) (hval 1 3 v1 rfl rfl) k1
 obtain⟨x2,o2,g2⟩:=openS Tryz.underlying35 opn35 (hval 2 35 v2 rfl rfl) k2
 obtain⟨x3,o3,g3⟩:=openS Tryz.underlying38 opn38 (hval 3 38 v3 rfl rfl) k3
 clear hA0 hval0
 refine(Ct.says (walk x0 x1 x2 x3 o0 o1 o2 o3) (vs:=[v0,v1,v2,v3]) (w:=W) ⟨_,_,rfl,g0,⟨_,_,rfl,g1,⟨_,_,rfl,g2,⟨_,_,rfl,g3,rfl⟩⟩⟩⟩ ⟨_,Tryz.func3,by decide +kernel,rfl⟩).mono fun e W' ⟨he,bel⟩=>?_
 subst he
 exact⟨_,rfl,_,_,_,[],_,[],hW',trodAll_mk1 (shut_bool Tryz.underlying4 _),
  (trodAll_cons_mk (Below.trod yjb (by kernel_rfl) (of_decide_eq_true (by kernel_rfl)) h0 bel lt0) (trodAll_cons_mk (Below.trod yjb (by kernel_rfl) (of_decide_eq_true (by kernel_rfl)) h1 bel lt1) (trodAll_cons_mk (Below.trod yjb (by kernel_rfl) (of_decide_eq_true (by kernel_rfl)) h2 bel lt2) (trodAll_cons_mk (Below.trod yjb (by kernel_rfl) (of_decide_eq_true (by kernel_rfl)) h3 bel lt3) trodAll_mk0)))),rfl,bel.frame _,fun h=>by cases h⟩
set_option maxRecDepth 1000000 in
theorem unf:Tryz.prog.unfollowed 3=true:=by
 unfold Program.unfollowed
 rw[ygx yqz]
 kernel_rfl
theorem rec:Tryz.prog.recurses 3=true:=by unfold Program.recurses; rw[unf]; rfl
set_option maxRecDepth 1000000 in
theorem closed:joinedFacts Tryz.pinned.checked.prog 3 Tryz.f3 Rows.restGivesSpec Rows.restGivesRow=true:=by
 show joinedFacts Tryz.prog 3 Tryz.f3 Rows.restGivesSpec Rows.restGivesRow=true
 unfold joinedFacts
 rw[rec,unf]
 unfold Program.inPlace Program.varsNamed
 rw[ygx yqz]
 kernel_rfl
theorem over:Rows.restGivesRow.holds Tryz.pinned (OpenSpec.ofChange Rows.restGivesSpec):=
 OpenClaim.holds_of_wide 3 Tryz.f3 rfl rfl rfl rfl rfl rfl rfl ⟨rfl,rfl,rfl,rfl,rfl⟩ rfl rfl rfl rfl rfl (by kernel_rfl) Tryz.func3 closed
  (of_decide_eq_true (by kernel_rfl)) (by unfold Func.isWrapper; first|(rw[if_pos (by decide +kernel)]; kernel_rfl)|(rw[if_neg (by decide +kernel)]; exact⟨rfl,rfl⟩))
  (fun os started H enc _=>lifted os started H enc)
theorem proved:Rows.RestGivesSaid:=over
#print axioms proved
end Go.Proofs.YtbpbkmngbhgpfaaGreat.RestGivesP
