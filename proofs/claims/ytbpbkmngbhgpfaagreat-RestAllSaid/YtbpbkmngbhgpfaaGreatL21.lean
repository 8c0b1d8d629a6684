/- 'RestAllSaid' is proved: the law RestAll returns true at every input, and hands back what it read. Conditions: none beyond the statement's own. -/
import Derived.Test.YtbpbkmngbhgpfaaGreatB7
namespace Go.Proofs.YtbpbkmngbhgpfaaGreat.RestAllP
open Go Go.Vc Go.RowKit Go.ChangeShapes Go.WideShapes Go.ChangeAt Go.Joins
theorem opn121:Opn Tryz.prog 121 (DT.den tAAsset) (DT.enc tAAsset) (DT.okD tAAsset):=Opn.struct Tryz.underlying121 (by kernel_rfl) (OpnF.cons rfl (k:=1) (by kernel_rfl) (Opn.int (k:=.i64) Tryz.underlying3) (OpnF.cons rfl (k:=1) (by kernel_rfl) (Opn.int (k:=.i64) Tryz.underlying3) (OpnF.cons rfl (k:=1) (by kernel_rfl) (Opn.int (k:=.i64) Tryz.underlying2) OpnF.nil)))
theorem opn35:Opn Tryz.prog 35 (DT.den tAUnit) (DT.enc tAUnit) (DT.okD tAUnit):=Opn.struct Tryz.underlying35 (by kernel_rfl) (OpnF.cons rfl (k:=1) (by kernel_rfl) (Opn.int (k:=.i64) Tryz.underlying3) (OpnF.cons rfl (k:=1) (by kernel_rfl) (Opn.int (k:=.i64) Tryz.underlying3) OpnF.nil))
theorem opn123:Opn Tryz.prog 123 (DT.den tAHold) (DT.enc tAHold) (DT.okD tAHold):=Opn.struct Tryz.underlying123 (by kernel_rfl) (OpnF.cons rfl (k:=2) (by kernel_rfl) opn35 (OpnF.cons rfl (k:=1) (by kernel_rfl) (Opn.slice Tryz.underlying36 (k:=3) (by kernel_rfl) opn121) OpnF.nil))
theorem opn111:Opn Tryz.prog 111 (DT.den tAFlow) (DT.enc tAFlow) (DT.okD tAFlow):=Opn.struct Tryz.underlying111 (by kernel_rfl) (OpnF.cons rfl (k:=2) (by kernel_rfl) opn35 (OpnF.cons rfl (k:=1) (by kernel_rfl) (Opn.int (k:=.i64) Tryz.underlying2) OpnF.nil))
theorem opn136:Opn Tryz.prog 136 (DT.den tAUnit) (DT.enc tAUnit) (DT.okD tAUnit):=Opn.struct Tryz.underlying136 (by kernel_rfl) (OpnF.cons rfl (k:=1) (by kernel_rfl) (Opn.int (k:=.i64) Tryz.underlying3) (OpnF.cons rfl (k:=1) (by kernel_rfl) (Opn.int (k:=.i64) Tryz.underlying2) OpnF.nil))
theorem opn198:Opn Tryz.prog 198 (DT.den tAPos) (DT.enc tAPos) (DT.okD tAPos):=Opn.struct Tryz.underlying198 (by kernel_rfl) (OpnF.cons rfl (k:=2) (by kernel_rfl) opn35 (OpnF.cons rfl (k:=1) (by kernel_rfl) (Opn.slice Tryz.underlying137 (k:=2) (by kernel_rfl) opn136) OpnF.nil))
theorem opn154:Opn Tryz.prog 154 (DT.den tAGive) (DT.enc tAGive) (DT.okD tAGive):=Opn.struct Tryz.underlying154 (by kernel_rfl) (OpnF.cons rfl (k:=1) (by kernel_rfl) (Opn.int (k:=.i64) Tryz.underlying3) (OpnF.cons rfl (k:=2) (by kernel_rfl) opn35 (OpnF.cons rfl (k:=2) (by kernel_rfl) opn35 (OpnF.cons rfl (k:=2) (by kernel_rfl) opn136 (OpnF.cons rfl (k:=1) (by kernel_rfl) (Opn.int (k:=.i64) Tryz.underlying2) (OpnF.cons rfl (k:=1) (by kernel_rfl) (Opn.int (k:=.i64) Tryz.underlying3) (OpnF.cons rfl (k:=1) (by kernel_rfl) (Opn.int (k:=.i64) Tryz.underlying3) (OpnF.cons rfl (k:=1) (by kernel_rfl) (Opn.int (k:=.i64) Tryz.underlying3) OpnF.nil))))))))
theorem opn152:Opn Tryz.prog 152 (DT.den tAGroup) (DT.enc tAGroup) (DT.okD tAGroup):=Opn.struct Tryz.underlying152 (by kernel_rfl) (OpnF.cons rfl (k:=1) (by kernel_rfl) (Opn.int (k:=.i64) Tryz.underlying3) (OpnF.cons rfl (k:=2) (by kernel_rfl) opn35 (OpnF.cons rfl (k:=1) (by kernel_rfl) (Opn.int (k:=.i64) Tryz.underlying3) (OpnF.cons rfl (k:=1) (by kernel_rfl) (Opn.int (k:=.i64) Tryz.underlying2) (OpnF.cons rfl (k:=1) (by kernel_rfl) (Opn.int (k:=.i64) Tryz.underlying2) OpnF.nil)))))
theorem opn167:Opn Tryz.prog 167 (DT.den tAChoice) (DT.enc tAChoice) (DT.okD tAChoice):=Opn.struct Tryz.underlying167 (by kernel_rfl) (OpnF.cons rfl (k:=2) (by kernel_rfl) opn35 (OpnF.cons rfl (k:=2) (by kernel_rfl) opn35 (OpnF.cons rfl (k:=1) (by kernel_rfl) (Opn.bool Tryz.underlying4) OpnF.nil)))
theorem opn69:Opn Tryz.prog 69 (DT.den tAAccount) (DT.enc tAAccount) (DT.okD tAAccount):=Opn.struct Tryz.underlying69 (by kernel_rfl) (OpnF.cons rfl (k:=1) (by kernel_rfl) (Opn.int (k:=.i64) Tryz.underlying3) (OpnF.cons rfl (k:=1) (by kernel_rfl) (Opn.int (k:=.i64) Tryz.underlying3) (OpnF.cons rfl (k:=1) (by kernel_rfl) (Opn.int (k:=.i64) Tryz.underlying3) (OpnF.cons rfl (k:=1) (by kernel_rfl) (Opn.slice Tryz.underlying67 (k:=1) (by kernel_rfl) (Opn.int (k:=.i64) Tryz.underlying3)) OpnF.nil))))
theorem opn125:Opn Tryz.prog 125 (DT.den tAAsset) (DT.enc tAAsset) (DT.okD tAAsset):=Opn.struct Tryz.underlying125 (by kernel_rfl) (OpnF.cons rfl (k:=1) (by kernel_rfl) (Opn.int (k:=.i64) Tryz.underlying3) (OpnF.cons rfl (k:=1) (by kernel_rfl) (Opn.int (k:=.i64) Tryz.underlying2) (OpnF.cons rfl (k:=1) (by kernel_rfl) (Opn.int (k:=.i64) Tryz.underlying2) OpnF.nil)))
theorem opn76:Opn Tryz.prog 76 (DT.den tAInst) (DT.enc tAInst) (DT.okD tAInst):=Opn.struct Tryz.underlying76 (by kernel_rfl) (OpnF.cons rfl (k:=1) (by kernel_rfl) (Opn.int (k:=.i64) Tryz.underlying3) (OpnF.cons rfl (k:=1) (by kernel_rfl) (Opn.int (k:=.i64) Tryz.underlying2) (OpnF.cons rfl (k:=1) (by kernel_rfl) (Opn.int (k:=.i64) Tryz.underlying2) (OpnF.cons rfl (k:=1) (by kernel_rfl) (Opn.int (k:=.i64) Tryz.underlying2) (OpnF.cons rfl (k:=1) (by kernel_rfl) (Opn.slice Tryz.underlying74 (k:=1) (by kernel_rfl) (Opn.int (k:=.i64) Tryz.underlying2)) OpnF.nil)))))
theorem opn150:Opn Tryz.prog 150 (DT.den tAMember) (DT.enc tAMember) (DT.okD tAMember):=Opn.struct Tryz.underlying150 (by kernel_rfl) (OpnF.cons rfl (k:=1) (by kernel_rfl) (Opn.int (k:=.i64) Tryz.underlying3) (OpnF.cons rfl (k:=1) (by kernel_rfl) (Opn.int (k:=.i64) Tryz.underlying2) (OpnF.cons rfl (k:=1) (by kernel_rfl) (Opn.int (k:=.i64) Tryz.underlying3) (OpnF.cons rfl (k:=1) (by kernel_rfl) (Opn.int (k:=.i64) Tryz.underlying3) OpnF.nil))))
theorem opn33:Opn Tryz.prog 33 (DT.den tAState) (DT.enc tAState) (DT.okD tAState):=Opn.struct Tryz.underlying33 (by kernel_rfl) (OpnF.cons rfl (k:=1) (by kernel_rfl) (Opn.int (k:=.i64) Tryz.underlying3) (OpnF.cons rfl (k:=1) (by kernel_rfl) (Opn.slice Tryz.underlying22 (k:=4) (by kernel_rfl) opn150) (OpnF.cons rfl (k:=1) (by kernel_rfl) (Opn.slice Tryz.underlying23 (k:=5) (by kernel_rfl) opn76) (OpnF.cons rfl (k:=1) (by kernel_rfl) (Opn.slice Tryz.underlying24 (k:=3) (by kernel_rfl) opn125) (OpnF.cons rfl (k:=1) (by kernel_rfl) (Opn.slice Tryz.underlying25 (k:=4) (by kernel_rfl) opn69) (OpnF.cons rfl (k:=1) (by kernel_rfl) (Opn.slice Tryz.underlying26 (k:=5) (by kernel_rfl) opn167) (OpnF.cons rfl (k:=1) (by kernel_rfl) (Opn.slice Tryz.underlying27 (k:=6) (by kernel_rfl) opn152) (OpnF.cons rfl (k:=1) (by kernel_rfl) (Opn.slice Tryz.underlying28 (k:=11) (by kernel_rfl) opn154) (OpnF.cons rfl (k:=1) (by kernel_rfl) (Opn.slice Tryz.underlying29 (k:=3) (by kernel_rfl) opn198) (OpnF.cons rfl (k:=1) (by kernel_rfl) (Opn.slice Tryz.underlying29 (k:=3) (by kernel_rfl) opn198) (OpnF.cons rfl (k:=1) (by kernel_rfl) (Opn.slice Tryz.underlying30 (k:=3) (by kernel_rfl) opn111) (OpnF.cons rfl (k:=1) (by kernel_rfl) (Opn.slice Tryz.underlying31 (k:=3) (by kernel_rfl) opn123) OpnF.nil))))))))))))
theorem walk(x0:DT.den tAState)(x1:DT.den (.int .i64))(o0:DT.okD tAState x0)(o1:DT.okD (.int .i64) x1):Ct Tryz.prog 4 [DT.encA tAState x0,DT.encA (.int .i64) x1] (.val (.bool true)):=
 Ct.of_q (zvv.ct (x0,x1,()) true (rest_true x0 x1 o0 o1))
set_option maxRecDepth 100000 in
theorem lifted(os:Os)(started:os.Started)(H:Type)(enc:TypeId×Value→H):
  ReturnsInHanded {} Tryz.checked os 4 .any (Rows.restAllSpec.pre6 enc Tryz.prog Tryz.f4 Rows.restAllRow.domain false) (Rows.restAllSpec.post enc Tryz.prog Tryz.f4 false true false false):=by
 refine returnsInHanded_of_change (C:=Tryz.checked) own started (by kernel_rfl) Tryz.func4
  (ChangeSpec.witness6 (enc:=enc) (C:=Tryz.checked) false ⟨#[],#[.agg #[.int .i64 0,.slice none 0 0,.slice none 0 0,.slice none 0 0,.slice none 0 0,.slice none 0 0,.slice none 0 0,.slice none 0 0,.slice none 0 0,.slice none 0 0,.slice none 0 0,.slice none 0 0],.int .i64 0],[]⟩ 8 (by kernel_rfl) (by kernel_rfl) (by kernel_rfl) (by kernel_rfl)) ?_
 intro W base args ds gs before hval0 hW hcnd _
 have hval:∀(j:Nat) t v,Tryz.f4.params[j]?=some t→args[j]?=some v→Value.okWide Tryz.prog W .any base t v:=hval0
 have hW':=hW
 obtain⟨p,q,hA0,hV,rfl,hfz,hnd⟩:=hW
 have hA:DataW.TrodAll enc Tryz.prog W 0 (fun _=>true) true Tryz.f4.params.toList args.toList ds p:=hA0
 rw[Tryz.params4]at hA hval
 obtain⟨v0,vs0,d0,ds0,p0,q0,hargs,rfl,rfl,h0,r0⟩:=trodAll_cons hA
 obtain⟨v1,vs1,d1,ds1,p1,q1,rfl,rfl,rfl,h1,r1⟩:=trodAll_cons r0
 obtain⟨rfl,rfl,rfl⟩:=trodAll_nil r1
 obtain rfl:args = #[v0,v1]:=by cases args; simp_all
 obtain⟨rfl,rfl⟩:=trodVars_none hV
 have lt0:=zxd h0
 have k0:=h0
 have lt1:=zxd h1
 have k1:=h1
 obtain⟨x0,o0,g0⟩:=openS Tryz.underlying33 opn33 (hval 0 33 v0 rfl rfl) k0
 obtain⟨x1,o1,g1⟩:=open_int' (r:=DT.encA (.int .i64)) Tryz.underlying3 (Opn.int (k:=.i64) Tryz.underlying3) (fun _=>rfl) (hval 1 3 v1 rfl rfl) k1
 clear hA0 hval0
 refine(Ct.says (walk x0 x1 o0 o1) (vs:=[v0,v1]) (w:=W) ⟨_,_,rfl,g0,⟨_,_,rfl,g1,rfl⟩⟩ ⟨_,Tryz.func4,by decide +kernel,rfl⟩).mono fun e W' ⟨he,bel⟩=>?_
 subst he
 exact⟨_,rfl,_,_,_,[],_,[],hW',trodAll_mk1 (shut_bool Tryz.underlying4 _),
  (trodAll_cons_mk (Below.trod laidOut (by kernel_rfl) (of_decide_eq_true (by kernel_rfl)) h0 bel lt0) (trodAll_cons_mk (Below.trod laidOut (by kernel_rfl) (of_decide_eq_true (by kernel_rfl)) h1 bel lt1) trodAll_mk0)),rfl,bel.frame _,fun h=>by cases h⟩
set_option maxRecDepth 1000000 in
theorem unf:Tryz.prog.unfollowed 4=true:=by
 unfold Program.unfollowed
 rw[ydb ymp]
 kernel_rfl
theorem rec:Tryz.prog.recurses 4=true:=by unfold Program.recurses; rw[unf]; rfl
set_option maxRecDepth 1000000 in
theorem closed:joinedFacts Tryz.pinned.checked.prog 4 Tryz.f4 Rows.restAllSpec Rows.restAllRow=true:=by
 show joinedFacts Tryz.prog 4 Tryz.f4 Rows.restAllSpec Rows.restAllRow=true
 unfold joinedFacts
 rw[rec,unf]
 unfold Program.inPlace Program.varsNamed
 rw[ydb ymp]
 kernel_rfl
theorem over:Rows.restAllRow.holds Tryz.pinned (OpenSpec.ofChange Rows.restAllSpec):=
 OpenClaim.holds_of_wide 4 Tryz.f4 rfl rfl rfl rfl rfl rfl rfl ⟨rfl,rfl,rfl,rfl,rfl⟩ rfl rfl rfl rfl rfl (by kernel_rfl) Tryz.func4 closed
  (of_decide_eq_true (by kernel_rfl)) (by unfold Func.isWrapper; first|(rw[if_pos (by decide +kernel)]; kernel_rfl)|(rw[if_neg (by decide +kernel)]; exact⟨rfl,rfl⟩))
  (fun os started H enc _=>lifted os started H enc)
theorem proved:Rows.RestAllSaid:=over
#print axioms proved
end Go.Proofs.YtbpbkmngbhgpfaaGreat.RestAllP
