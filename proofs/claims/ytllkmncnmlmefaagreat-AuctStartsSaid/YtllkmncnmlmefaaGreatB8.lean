import Derived.Test.YtllkmncnmlmefaaGreatB7
import Derived.Test.YtllkmncnmlmefaaGreatRows
import Derived.JoinedOf
namespace Go.Proofs.YtllkmncnmlmefaaGreat
open Go Go.Vc Go.RowKit
theorem wrap_neg{q:Int}(h:I64 q)(h2:I64 (-q)):IntKind.i64.wrap (0 - q) = -q:=by
 unfold I64 at h h2
 rw[IntWalk.i64_in _ (by omega)]; omega
theorem ypx{l:List AFlow'}{f t:AUnit'}{n:Int}(hp:isP l=true)(h:I64 (-n)):moveP l f t n=payP l [(f,(-n,())),(t,(n,()))]:=by unfold moveP; rw[if_pos h]
theorem move_no{l:List AFlow'}{f t:AUnit'}{n:Int}(hp:isP l=true)(h:¬I64 (-n)):moveP l f t n=([],(7,())):=by unfold moveP; rw[if_neg h,if_pos hp]
theorem r_fill30{s:zae}(F:OkF s)(u to:AUnit')(id qty price:Int)(hq:I64 qty):zwc s u to id qty price=some (fillP s u to id qty price):=by
 show zlg stdW s u to id qty price=_
 unfold zlg
 have hpl:=F.pl
 have hbl:=F.bl
 have hsl:=F.sl
 have hml:=F.mL
 have hal:=F.aA.2
 have e1:zes s.2.2.2.2.2.2.2.2.1=some (isB (bk s)):=ybj F.hb
 have e2:zes s.2.2.2.2.2.2.2.2.2.1=some (isB (sa s)):=ybj F.hs
 have e3:ztl s.2.2.2.2.2.2.2.2.2.2.1=some (isP (pu s)):=r_is17 (by show (pu s).length≤_; omega)
 refine join_b (!((isB (bk s)&&isB (sa s))&&isP (pu s))) (fun k=>?_) ?_
 ·rw[zaa e1]
  cases isB (bk s) with
  |false=>rfl
  |true=>
   rw[cnd_n (by rfl),zaa e2]
   cases isB (sa s) with
   |false=>rfl
   |true=>rw[cnd_n (by rfl),zaa e3]; rfl
 show stdW.cnd (!((isB (bk s)&&isB (sa s))&&isP (pu s))) (some (noS,(3,()))) _=_
 by_cases hB:(isB (bk s)=true∧isB (sa s)=true)∧isP (pu s)=true
 case neg=>
  have hB':((isB (bk s)&&isB (sa s))&&isP (pu s))=false:=by
   cases h1:isB (bk s)<;>cases h2:isB (sa s)<;>cases h3:isP (pu s)<;>simp_all
  have hc:checkE s u to id qty price=3:=by unfold checkE; rw[if_neg hB]
  rw[hB',cnd_y (by rfl),zey hc (by decide)]
 have hc:checkE s u to id qty price=match findI s.2.2.1 id with
  |none=>11
  |some _=>if qty=0∨price<0∨2147483647<price then 2 else if hasQ (getV (ofB (sa s) u) id) qty=true then buyerE s to else 23:=by unfold checkE; rw[if_pos hB]; rfl
 have hB':((isB (bk s)&&isB (sa s))&&isP (pu s))=true:=by rw[hB.1.1,hB.1.2,hB.2]; rfl
 rw[hB',cnd_n (by rfl),zaa (ypj (by have:=F.iT.2; omega))]
 cases hi:findI s.2.2.1 id with
 |none=>
  rw[hi]at hc
  replace hc:checkE s u to id qty price=11:=hc
  rw[zey hc (by decide)]; rfl
 |some i=>
 obtain⟨i1,i2,i3,i4⟩:=F.inst hi
 rw[hi]at hc
 show stdW.cnd (!true) _ _=_
 rw[cnd_n (by rfl)]
 refine join_b (decide (qty=0∨price<0∨2147483647<price)) (fun k=>?_) ?_
 ·by_cases h1:qty=0
  ·rw[cnd_y (by simpa using h1),decide_eq_true (.inl h1)]
  ·rw[cnd_n (by simpa using h1)]
   by_cases h2:price<0
   ·rw[cnd_y (decide_eq_true h2),decide_eq_true (.inr (.inl h2))]
   ·rw[cnd_n (decide_eq_false h2)]
    congr 2
    exact decide_eq_decide.2 ⟨fun h=>.inr (.inr h),fun h=>by omega⟩
 show stdW.cnd (decide (qty=0∨price<0∨2147483647<price)) (some (noS,(2,()))) (stdW.call (zei (sa s) u) _)=_
 by_cases h1:qty=0∨price<0∨2147483647<price
 case pos=>
  replace hc:checkE s u to id qty price=2:=hc.trans (if_pos h1)
  rw[cnd_y (decide_eq_true h1),zey hc (by decide)]
 replace hc:checkE s u to id qty price=if hasQ (getV (ofB (sa s) u) id) qty=true then buyerE s to else 23:=hc.trans (if_neg h1)
 have g1:qty≠0:=by omega
 have g2:0≤price∧price≤2147483647:=by omega
 obtain⟨_,o2⟩:=ofB_ok F.hs u
 rw[cnd_n (decide_eq_false h1),zaa (r_of19 (by omega)),zaa (ymy (by omega))]
 refine join_b (!(hasQ (getV (ofB (sa s) u) id) qty)) (fun k=>?_) ?_
 ·unfold hasQ
  generalize getV (ofB (sa s) u) id=v
  by_cases a1:0<qty
  ·rw[cnd_y (decide_eq_true a1)]
   by_cases a2:v<qty
   ·rw[cnd_y (decide_eq_true a2)]
    congr 2
    rw[decide_eq_false (by omega),decide_eq_false (by omega)]; rfl
   ·rw[cnd_n (decide_eq_false a2),cnd_n (decide_eq_false (by omega))]
    congr 2
    rw[decide_eq_true (by omega)]; rfl
  ·rw[cnd_n (decide_eq_false a1),cnd_y (decide_eq_true (by omega))]
   congr 2
   rw[decide_eq_false (p:=0<qty∧qty≤v) (by omega),Bool.false_or,←decide_not]
   exact decide_eq_decide.2 (by omega)
 show stdW.cnd (!(hasQ (getV (ofB (sa s) u) id) qty)) (some (noS,(23,()))) _=_
 by_cases h2:hasQ (getV (ofB (sa s) u) id) qty=true
 case neg=>
  replace hc:checkE s u to id qty price=23:=hc.trans (if_neg h2)
  have h2:hasQ (getV (ofB (sa s) u) id) qty=false:=by simpa using h2
  rw[h2,cnd_y (by rfl),zey hc (by decide)]
 replace hc:checkE s u to id qty price=buyerE s to:=hc.trans (if_pos h2)
 rw[h2,cnd_n (by rfl),zaa (r_find15c (by omega))]
 unfold buyerE at hc
 cases ha:findC s.2.2.2.2.1 to.1 with
 |none=>
  rw[ha]at hc
  replace hc:checkE s u to id qty price=11:=hc
  rw[zey hc (by decide)]
  exact join_b true (fun k=>cnd_y (by rfl) _ _) rfl
 |some a=>
 rw[ha]at hc
 have hca:=F.aA.1 _ (ylt ha).1
 refine join_b (!(hasA a to)) (fun k=>?_) ?_
 ·show stdW.cnd (!true) _ (stdW.call (znz a to) _)=_
  rw[cnd_n (by rfl),zaa (r_has15 hca)]
 show stdW.cnd (!(hasA a to)) (some (noS,(11,()))) (stdW.cnd (a.2.2.1 != 1) (some (noS,(17,()))) (stdW.call (zjy s.2.1 a.2.1) _))=_
 by_cases h3:hasA a to=true
 case neg=>
  replace hc:checkE s u to id qty price=11:=hc.trans (if_neg h3)
  have h3:hasA a to=false:=by simpa using h3
  rw[h3,cnd_y (by rfl),zey hc (by decide)]
 replace hc:=hc.trans (if_pos h3)
 rw[h3,cnd_n (by rfl)]
 by_cases h4:a.2.2.1=1
 case neg=>
  replace hc:checkE s u to id qty price=17:=hc.trans (if_neg h4)
  rw[cnd_y (by simpa using h4),zey hc (by decide)]
 replace hc:=hc.trans (if_pos h4)
 rw[cnd_n (by simpa using h4),zaa (ypi (by omega))]
 cases hm:findM s.2.1 a.2.1 with
 |none=>
  rw[hm]at hc
  replace hc:checkE s u to id qty price=15:=hc
  rw[zey hc (by decide)]
  exact join_b true (fun k=>cnd_y (by rfl) _ _) rfl
 |some m=>
 rw[hm]at hc
 refine join_b (m.2.2.1 != 0) (fun k=>?_) ?_
 ·show stdW.cnd (!true) _ _=_
  rw[cnd_n (by rfl)]
 show stdW.cnd (m.2.2.1 != 0) (some (noS,(15,()))) (stdW.call (zpn i qty price i.2.2.1) _)=_
 by_cases h5:m.2.2.1=0
 case neg=>
  replace hc:checkE s u to id qty price=15:=hc.trans (if_neg h5)
  rw[cnd_y (by simpa using h5),zey hc (by decide)]
 replace hc:checkE s u to id qty price=0:=hc.trans (if_pos h5)
 have hz:=gZ_bd i1 hq g2 i1.2.2.1
 rw[cnd_n (by simpa using h5),zaa (r_gain13g i1 hq g2 i1.2.2.1),yim hc hi]
 generalize gZ i qty price i.2.2.1=g at*
 have hg:sml g:=by unfold sml; omega
 have hng:sml (-g):=by unfold sml; omega
 have hqn:I64 (-qty)↔¬qty = -9223372036854775808:=by unfold I64 at *; omega
 refine join_b (!(decide (I64 g))||decide (qty = -9223372036854775808)) (fun k=>?_) ?_
 ·rw[zaa (r_fits hg)]
  by_cases hI:I64 g
  ·rw[decide_eq_true hI,cnd_n (by rfl)]
   congr 2
  ·rw[decide_eq_false hI]; rfl
 show stdW.cnd (!(decide (I64 g))||decide (qty = -9223372036854775808)) (some (noS,(7,()))) (stdW.call (zed (sa s) u [(id,(IntKind.i64.wrap (0 - qty),()))]) _)=_
 by_cases hI:I64 g
 case neg=>rw[decide_eq_false hI,if_neg hI,cnd_y (by rfl)]
 rw[decide_eq_true hI,if_pos hI]
 by_cases hn:I64 (-qty)
 case neg=>
  rw[if_neg hn,decide_eq_true (Decidable.not_not.1 fun h=>hn (hqn.2 h)),cnd_y (by rfl)]
 rw[if_pos hn,decide_eq_false (hqn.1 hn),cnd_n (by rfl),wrap_neg hq hn,zaa (ybi F.hs (okL1 hn) (by simp))]
 unfold fill3
 by_cases s1:(shiftP (sa s) u [(id,(-qty,()))]).2.1=0
 case neg=>rw[if_neg s1,cnd_y (by simpa using s1)]; rfl
 rw[if_pos s1,cnd_n (by simpa using s1)]
 show stdW.call (zed (bk s) to [(id,(qty,()))]) _=_
 rw[zaa (ybi F.hb (okL1 hq) (by simp))]
 by_cases s2:(shiftP (bk s) to [(id,(qty,()))]).2.1=0
 case neg=>rw[if_neg s2,cnd_y (by simpa using s2)]; rfl
 rw[if_pos s2,cnd_n (by simpa using s2),zaa (r_negB hg),zaa (r_fits hng)]
 by_cases hm:I64 (-g)
 case neg=>
  rw[decide_eq_false hm,cnd_y (by rfl),move_no hB.2 hm]; rfl
 rw[decide_eq_true hm,cnd_n (by rfl),zaa (r_negB hg),zaa (r_int hm),zaa (r_int hI),ypx hB.2 hm]
 show stdW.call (ztj (pu s) [(u,(-g,())),(to,(g,()))]) _=_
 have hfl:okF [((u,(-g,())):AFlow'),(to,(g,()))]:=fun x hx=>by
  simp only[List.mem_cons,List.not_mem_nil,or_false]at hx
  rcases hx with rfl|rfl
  ·exact hm
  ·exact hI
 rw[zaa (r_pay17 F.pf hfl (by simp; omega))]
 by_cases s3:(payP (pu s) [(u,(-g,())),(to,(g,()))]).2.1=0
 case neg=>rw[if_neg s3,cnd_y (by simpa using s3)]; rfl
 rw[if_pos s3,cnd_n (by simpa using s3)]; rfl
end Go.Proofs.YtllkmncnmlmefaaGreat
namespace Go.Proofs.YtllkmncnmlmefaaGreat
open Go Go.Vc Go.RowKit
set_option maxRecDepth 100000
set_option synthInstance.maxSize 100000
set_option synthInstance.maxHeartbeats 0
theorem payP_e(l fl:List AFlow'):payP l fl=if isP l=true then payGo (l++fl) ((l++fl).foldl (fun a x=>insA x.1 a) []) [] else ([],3,()):=by unfold payP; rw[yli]
def li0:zae:=(0,(((2,(0,(0,(0,()))))::[]),(((1,(10,(7,(0,([],())))))::[]),([],(((1,(1,(2,((2::[]),()))))::((2,(2,(1,([],()))))::[])),([],([],([],((((1,(2,())),(((1,(5,()))::[]),()))::[]),([],([],([],()))))))))))))
def li1:zae:=(0,(((2,(0,(0,(0,()))))::[]),(((1,(10,(7,(0,([],())))))::[]),([],(((1,(1,(2,((2::[]),()))))::((2,(2,(1,([],()))))::[])),([],([],([],([],((((1,(2,())),(((1,(5,()))::[]),()))::[]),([],([],()))))))))))))
def li2:zae:=setS li1 [((2,(0,())),([(1,(3,()))],()))] [((1,(2,())),([(1,(2,()))],()))] [((1,(2,())),(-60,())),((2,(0,())),(60,()))]
theorem li_okA:okAs li0.2.2.2.2.1:=⟨by decide +kernel,by decide +kernel⟩
theorem li_ok1:OkF li1:=⟨⟨by decide +kernel,by decide +kernel⟩,by decide +kernel,⟨by decide +kernel,by decide +kernel⟩,by unfold SrtI; decide +kernel,⟨by unfold okL I64; decide +kernel,by decide +kernel⟩,⟨by unfold okL I64; decide +kernel,by decide +kernel⟩,by decide +kernel,by decide +kernel,by unfold okF I64; decide +kernel,by decide +kernel⟩
theorem zma:zba=some true:=by
 show ziy stdW=_
 unfold ziy
 have e1:=ymu (s:=li0) (id:=1) li_okA ⟨by unfold okL I64; decide +kernel,by decide +kernel⟩ ⟨by unfold okL I64; decide +kernel,by decide +kernel⟩ (by decide +kernel) (by decide +kernel)
 have e2:startP li0 1=(li1,(0,())):=by kernel_rfl
 rw[e2]at e1
 have e3:=r_fill li_ok1 (1,(2,())) (2,(0,())) 1 3 5 (by unfold I64; omega)
 have e4:fillP li1 (1,(2,())) (2,(0,())) 1 3 5=(li2,(0,())):=by unfold fillP fill3 moveP; simp only[payP_e]; kernel_rfl
 rw[e4]at e3
 have e5:=r_left (s:=li2) (id:=1) li_okA (by decide +kernel)
 have e6:leftP li2 1=[((1,(2,())),([(1,(2,()))],()))]:=by kernel_rfl
 rw[e6]at e5
 show stdW.call (zho li0 1) _=_
 rw[zaa e1]
 show stdW.call (zkq li1 (1,(2,())) (2,(0,())) 1 3 5) _=_
 rw[zaa e3,cnd_y (by rfl),cnd_y (by rfl)]
 show stdW.call (zbw li2 1) _=_
 rw[zaa e5,cnd_y (by rfl)]
 have e7:zfw (pu li2) (2,(0,()))=some 60:=by rw[ymx (by decide +kernel)]; decide +kernel
 show stdW.idx [(((1,(2,())),([(1,(2,()))],())):APos')] ((0:Nat):Int) _=_
 rw[idx_w (by simp)]
 show stdW.idx [((1,(2,())):Leg)] ((0:Nat):Int) _=_
 rw[idx_w (by simp)]
 show stdW.cnd ((2:Int)==2) (stdW.call (zfw (pu li2) (2,(0,()))) _) _=_
 rw[cnd_y (by rfl),zaa e7]; rfl
end Go.Proofs.YtllkmncnmlmefaaGreat

namespace Go.Proofs.YtllkmncnmlmefaaGreat
open Go Go.Vc Go.RowKit
theorem yml(x0:DT.den tAState)(x1:DT.den (.int .i64))(o0:DT.okD tAState x0)(_:DT.okD (.int .i64) x1):znp x0 x1=some true:=by
 show zej stdW x0 x1=_
 unfold zej
 obtain⟨t,et,F,hb,hs,hbl,hsl,hf,hp⟩:=yny o0
 have eS:=ymu (id:=x1) F.a hb hs (by omega) (by omega)
 have eR:=r_start30 (id:=x1) F.a hb hs (by omega) (by omega)
 obtain⟨g1,g2,g3,g4,g5⟩:=yjv (id:=x1) hb hs (by omega) (by omega) hp F.a
 rw[zaa et,zaa eS,zaa eR]
 generalize startP t x1=r at*
 rw[zaa (yhi g1 g2 (by omega)),cnd_y rfl,cnd_y (by simp)]
 have L1:=r_left (id:=x1) F.a (by omega)
 have L2:=yph (id:=x1) F.a (by omega)
 have L3:=r_left (s:=r.1) (id:=x1) g5 (by omega)
 have L4:=yph (s:=r.1) (id:=x1) g5 (by omega)
 have S1:=zyz (ypu (id:=x1) hs)
 have S2:=zyz (ypu (id:=x1) g2)
 have one:∀(K:Option Bool),K=some true→(stdW.call (zbw t x1) fun v=>stdW.call (zbp t x1) fun w=>stdW.call (zbf v w) fun b=>stdW.cnd b K (some false))=some true:=by
  intro K hK
  rw[zaa L1,zaa L2,zaa S1,cnd_y rfl,hK]
 have two:(stdW.call (zbw r.1 x1) fun v=>stdW.call (zbp r.1 x1) fun w=>stdW.call (zbf v w) fun b=>stdW.cnd b (stdW.call zba fun v=>some v) (some false))=some true:=by
  rw[zaa L3,zaa L4,zaa S2,cnd_y rfl,zaa zma]
 have three:stdW.both (stdW.both (stdW.call (zbw r.1 x1) fun v=>stdW.call (zbp r.1 x1) fun w=>stdW.call (zbf v w) fun b=>stdW.cnd b (stdW.call zba fun v=>some v) (some false)) (stdW.call (zbw r.1 x1) fun v=>stdW.call (zbp r.1 x1) fun w=>stdW.call (zbf v w) fun b=>stdW.cnd b (stdW.call zba fun v=>some v) (some false))) (stdW.call (zbw r.1 x1) fun v=>stdW.call (zbp r.1 x1) fun w=>stdW.call (zbf v w) fun b=>stdW.cnd b (stdW.call zba fun v=>some v) (some false))=some true:=
  zgk (zgk two two) two
 have last:∀(K2:Option Bool),K2=some true→(stdW.call (zbw t x1) fun v=>stdW.call (zbp t x1) fun w=>stdW.call (zbf v w) fun b=>stdW.cnd b K2 (stdW.both (stdW.both (some false) (some false)) (some false)))=some true:=by
  intro K hK
  rw[zaa L1,zaa L2,zaa S1,cnd_y rfl,hK]
 exact zgk (zgk (last _ three) (last _ three)) (last _ three)
structure FilOk(s r:zae)(u to:AUnit'):Prop where
 b:okB (bk r)
 a:okB (sa r)
 p:okF (pu r)
 bl:(bk r).length≤40
 al:(sa r).length≤40
 pl:(pu r).length≤40
 opn:∀k,opnZ (bk r) k+opnZ (sa r) k=opnZ (bk s) k+opnZ (sa s) k
 ofb:∀x,x≠to→ofB (bk r) x=ofB (bk s) x
 ofa:∀x,x≠u→ofB (sa r) x=ofB (sa s) x
 get:∀x,x≠u→x≠to→getP (pu r) x=getP (pu s) x
 sum:sumBy amt (pu r)=sumBy amt (pu s)
theorem pay2{p:List AFlow'}{u to:AUnit'}{g:Int}(h:(payP p [(u,(-g,())),(to,(g,()))]).2.1=0):
  okF (payP p [(u,(-g,())),(to,(g,()))]).1∧(∀x,x≠u→x≠to→getP (payP p [(u,(-g,())),(to,(g,()))]).1 x=getP p x)∧sumBy amt (payP p [(u,(-g,())),(to,(g,()))]).1=sumBy amt p:=by
 obtain⟨h1,h2,h3⟩:=payP_ok h
 rw[h2]
 refine⟨resP_ok h3,fun x hu ht=>?_,?_⟩
 ·rw[resP_get,sumU_app,zhs,zhs,if_neg (Ne.symm hu),if_neg (Ne.symm ht),←yij (isP_nd h1)]
  show getP p x+(0+(0+0))=_
  omega
 ·rw[resP_sum,zht,zcy,zcy,yar]
  show sumBy amt p+(-g+(g+0))=_
  omega
theorem fill_ok{s:zae}(F:OkF s){u to:AUnit'}{id qty price:Int}(h:(fillP s u to id qty price).2.1=0):FilOk s (fillP s u to id qty price).1 u to:=by
 have hbl:=F.bl
 have hsl:=F.sl
 have hpl:=F.pl
 by_cases hc:checkE s u to id qty price=0
 case neg=>rw[zey rfl hc]at h; exact absurd h hc
 obtain⟨hB,⟨i,hi⟩,_⟩:=yit hc
 rw[yim hc hi]at h ⊢
 generalize gZ i qty price i.2.2.1=g at*
 by_cases hI:I64 g
 case neg=>rw[if_neg hI]at h; cases h
 rw[if_pos hI]at h ⊢
 by_cases hn:I64 (-qty)
 case neg=>rw[if_neg hn]at h; cases h
 rw[if_pos hn]at h ⊢
 unfold fill3 at h ⊢
 by_cases s1:(shiftP (sa s) u [(id,(-qty,()))]).2.1=0
 case neg=>rw[if_neg s1]at h; exact absurd h s1
 rw[if_pos s1]at h ⊢
 by_cases s2:(shiftP (bk s) to [(id,(qty,()))]).2.1=0
 case neg=>rw[if_neg s2]at h; exact absurd h s2
 rw[if_pos s2]at h ⊢
 by_cases s3:(moveP (pu s) u to g).2.1=0
 case neg=>rw[if_neg s3]at h; exact absurd h s3
 rw[if_pos s3]
 have S:=zta s1
 have T:=zta s2
 have hs:=S.len
 have ht:=T.len
 have hm:I64 (-g):=Decidable.byContradiction fun hm=>by rw[move_no hB.2 hm]at s3; cases s3
 rw[ypx hB.2 hm]at s3 ⊢
 obtain⟨p1,p2,p3⟩:=pay2 s3
 have p4:=payP_len (pu s) [(u,(-g,())),(to,(g,()))]
 refine⟨T.ok F.hb (by omega),S.ok F.hs (by omega),p1,?_,?_,?_,fun k=>?_,T.other,S.other,p2,p3⟩
 ·show (shiftP (bk s) to [(id,(qty,()))]).1.length≤40; omega
 ·show (shiftP (sa s) u [(id,(-qty,()))]).1.length≤40; omega
 ·show (payP (pu s) [(u,(-g,())),(to,(g,()))]).1.length≤40
  simp at p4; omega
 ·show opnZ (shiftP (bk s) to [(id,(qty,()))]).1 k+opnZ (shiftP (sa s) u [(id,(-qty,()))]).1 k=_
  rw[T.opn,S.opn]
  have:getV [((id,(-qty,())):Leg)] k+getV [((id,(qty,())):Leg)] k=0:=by
   simp only[getV]
   split<;>omega
  omega
theorem fill_bad{s:zae}{u to:AUnit'}{id qty price:Int}(h:(fillP s u to id qty price).2.1≠0):(fillP s u to id qty price).1=noS:=by
 by_cases hc:checkE s u to id qty price=0
 case neg=>rw[zey rfl hc]
 obtain⟨hB,⟨i,hi⟩,_⟩:=yit hc
 rw[yim hc hi]at h ⊢
 generalize gZ i qty price i.2.2.1=g at*
 unfold fill3 at h ⊢
 repeat' split
 all_goals first|rfl|(exfalso; apply h; repeat' (first|rw[if_pos (by assumption)]|rfl))
theorem fewOkF{s t:zae}(F:Few30 s t)(hb:okB (bk t))(hs:okB (sa t))(hbl:(bk t).length≤12)(hsl:(sa t).length≤12)(hf:okF (pu t))(hp:(pu t).length≤20):OkF t:=
 ⟨F.i,by have:=F.m; omega,F.a,F.aS,hb,hs,by omega,by omega,hf,hp⟩
theorem same_no:zhl noS noS=some true:=yhi (s:=noS) zwh zwh (by simp[noS,pu])
theorem fill_same{s:zae}(F:OkF s)(u to:AUnit')(id qty price:Int):zhl (fillP s u to id qty price).1 (fillP s u to id qty price).1=some true:=by
 by_cases h:(fillP s u to id qty price).2.1=0
 ·have R:=fill_ok F h
  exact yhi R.b R.a (by have:=R.pl; omega)
 ·rw[fill_bad h]; exact same_no
theorem fills_true(x0:DT.den tAState)(x1:DT.den tAUnit)(x2:DT.den tAUnit)(x3:DT.den (.int .i64))(x4:DT.den (.int .i64))(x5:DT.den (.int .i64))(o0:DT.okD tAState x0)(_:DT.okD tAUnit x1)(_:DT.okD tAUnit x2)(_:DT.okD (.int .i64) x3)(o4:DT.okD (.int .i64) x4)(_:DT.okD (.int .i64) x5):
  zon x0 x1 x2 x3 x4 x5=some true:=by
 show zex stdW x0 x1 x2 x3 x4 x5=_
 unfold zex
 obtain⟨t,et,F,hb,hs,hbl,hsl,hf,hp⟩:=yny o0
 have O:=fewOkF F hb hs hbl hsl hf hp
 have hq:I64 x4:=wf_i64 o4
 rw[zaa et,zaa (r_fill O x1 x2 x3 x4 x5 hq),zaa (r_fill30 O x1 x2 x3 x4 x5 hq),zaa (fill_same O x1 x2 x3 x4 x5),cnd_y rfl,cnd_y (by simp),zaa zma]
theorem ybu{l:List APos'}(hb:okB l)(k:Int) : -922337203685477580800≤opnZ l k∧opnZ l k≤922337203685477580800:=by
 have:=zyr (f:=fun p:APos'=>getV p.2.1 k) (B:=9223372036854775808) (l:=l) fun p hp=>by
  have:=ycn (hb.1 p hp).1 k
  unfold I64 at this; omega
 have hl:=hb.2
 unfold opnZ
 omega
theorem okB_take{l:List APos'}(hb:okB l)(i:Nat):okB (l.take i):=⟨fun p hp=>hb.1 p (List.mem_of_mem_take hp),by rw[List.length_take]; have:=hb.2; omega⟩
theorem ypg{l:List APos'}(hb:okB l)(k:Int):zhm l k=some (big (opnZ l k)):=by
 show zli stdW l k=_
 unfold zli
 have hl:=hb.2
 refine loop_n (N:=l.length) (by omega) (fun i s=>s=big (opnZ (l.take i) k)) (some (big (opnZ l k))) (by rw[List.take_zero]; exact big0.symm) ?_ ?_
 ·rintro _ again rfl
  rw[zak,List.take_length]
 ·rintro i hi _ rfl again ha
  have h1:=ybu (okB_take hb i) k
  have h2:=hb.1 _ (List.getElem_mem hi)
  have h3:=ycn h2.1 k
  have e:opnZ (l.take (i+1)) k=opnZ (l.take i) k+getV l[i].2.1 k:=by unfold opnZ; rw[yem _ _ _ hi]
  rw[cnd_lt hi]
  refine join_g fun j hj=>?_
  have kk:∀v:BigT,j v=again (((i+1:Nat):Int),v):=by intro v; rw[←i64_s i (by omega)]; subst hj; rfl
  clear hj
  have g:=ymy (l:=l[i].2.1) (k:=k) (by omega)
  have fin:(stdW.call (zdg (getV l[i].2.1 k)) fun v7=>stdW.call (zbv (big (opnZ (l.take i) k)) v7) fun v8=>j v8)=some (big (opnZ l k)):=by
   rw[zaa (r_of h3),zaa (r_addB (by unfold sml; omega) (ycj h3)),kk]
   exact ha _ (by rw[e])
  rw[idx_w hi]
  refine zgk ?_ ?_
  ·rw[zaa g]; exact fin
  ·rw[zaa g]; exact zgk fin fin
theorem ypf{s:zae}(hb:okB (bk s))(hs:okB (sa s))(k:Int):zbg s k=some (big (opnZ (bk s) k+opnZ (sa s) k)):=by
 show zml stdW s k=_
 unfold zml
 have h1:=ybu hb k
 have h2:=ybu hs k
 have e1:zhm s.2.2.2.2.2.2.2.2.1 k=some (big (opnZ (bk s) k)):=ypg hb k
 have e2:zhm s.2.2.2.2.2.2.2.2.2.1 k=some (big (opnZ (sa s) k)):=ypg hs k
 rw[zaa e1,zaa e2,zaa (r_addB (by unfold sml; omega) (by unfold sml; omega))]
theorem yps{s r:zae}(hb:okB (bk s))(hs:okB (sa s))(gb:okB (bk r))(gs:okB (sa r))(k:Int)(h:opnZ (bk r) k+opnZ (sa r) k=opnZ (bk s) k+opnZ (sa s) k)(K:Int→Option Bool):
  (stdW.call (zbg r k) fun v=>stdW.call (zbg s k) fun w=>stdW.call (zcb v w) fun x=>K x)=K 0:=by
 have h1:=ybu hb k
 have h2:=ybu hs k
 rw[zaa (ypf gb gs k),zaa (ypf hb hs k),h,zaa (r_cmpB (by unfold sml; omega) (by unfold sml; omega)),if_pos (by omega)]
theorem tot_cmp{p q:List AFlow'}(hp:okF p)(hpl:p.length≤1000)(hq:okF q)(hql:q.length≤1000)(h:sumBy amt q=sumBy amt p)(K:Int→Option Bool):
  (stdW.call (zci q) fun v=>stdW.call (zci p) fun w=>stdW.call (zcb v w) fun x=>K x)=K 0:=by
 have h1:=(yop hp (by omega)).1
 rw[zaa (ykf hq (by omega)),zaa (ykf hp (by omega)),h,zaa (r_cmpB h1 h1),if_pos (by omega)]
theorem start_keep{s:zae}{id:Int}(hb:okB (bk s))(hs:okB (sa s))(hbl:(bk s).length≤20)(hsl:(sa s).length≤20)(h:(startP s id).2.1=0):
  (∀k,opnZ (bk (startP s id).1) k+opnZ (sa (startP s id).1) k=opnZ (bk s) k+opnZ (sa s) k)∧pu (startP s id).1=pu s:=by
 unfold startP at h ⊢
 split
 ·rename_i hB
  rw[if_pos hB]at h
  split
  ·rename_i he
   have R:=zpf (ownA s.2.2.2.2.1 id) (bk s) (sa s) [] he hs zwh hb (by omega) (by simp; omega)
   refine⟨fun k=>?_,rfl⟩
   have:=R.opn k
   show opnZ (zce _ _ _ _).2.1 k+opnZ (zce _ _ _ _).1 k=_
   rw[this]
   show 0+opnZ (bk s) k+opnZ (sa s) k=_
   omega
  ·rename_i he
   rw[if_neg he]at h; exact absurd h he
 ·rename_i hB
  rw[if_neg hB]at h; cases h
theorem keeps_true(x0:DT.den tAState)(x1:DT.den tAUnit)(x2:DT.den tAUnit)(x3:DT.den tAUnit)(x4:DT.den (.int .i64))(x5:DT.den (.int .i64))(x6:DT.den (.int .i64))(o0:DT.okD tAState x0)(_:DT.okD tAUnit x1)(_:DT.okD tAUnit x2)(_:DT.okD tAUnit x3)(_:DT.okD (.int .i64) x4)(o5:DT.okD (.int .i64) x5)(_:DT.okD (.int .i64) x6):
  zom x0 x1 x2 x3 x4 x5 x6=some true:=by
 show zew stdW x0 x1 x2 x3 x4 x5 x6=_
 unfold zew
 obtain⟨t,et,F,hb,hs,hbl,hsl,hf,hp⟩:=yny o0
 have O:=fewOkF F hb hs hbl hsl hf hp
 have hq:I64 x5:=wf_i64 o5
 have eS:=ymu (id:=x4) F.a hb hs (by omega) (by omega)
 obtain⟨g1,g2,_,g4,_⟩:=yjv (id:=x4) hb hs (by omega) (by omega) hp F.a
 have SK:=start_keep (id:=x4) hb hs (by omega) (by omega)
 have FK:=fill_ok O (u:=x1) (to:=x2) (id:=x4) (qty:=x5) (price:=x6)
 rw[zaa et,zaa eS,zaa (r_fill O x1 x2 x4 x5 x6 hq)]
 generalize startP t x4=a at*
 generalize fillP t x1 x2 x4 x5 x6=b at*
 have hL:=zma
 have hz:((1:Int),())=(((0:Nat):Int)+1,()):=rfl
 have tail:∀K:Option Bool,K=(stdW.join (fun (z29:Bool×Unit)=>
  stdW.cnd z29.1 (some false)
   (
   stdW.join (fun (z30:Bool×Unit)=>
   stdW.cnd z30.1 (stdW.call (zba) fun v31=>some v31)
    (
    stdW.join (fun (z32:Bool×Unit)=>
    stdW.cnd z32.1 (stdW.call (zci (pu b.1)) fun v33=>stdW.call (zci (pu t)) fun v34=>stdW.call (zcb v33 v34) fun v35=>
     stdW.cnd (v35==0) (stdW.call (zba) fun v36=>some v36)
     (some false))
     (some false))
    fun k37=>stdW.call (zfw (pu b.1) x3) fun v38=>stdW.call (zfw (pu t) x3) fun v39=>
    stdW.cnd (v38==v39) (stdW.call (zei (bk b.1) x3) fun v40=>stdW.call (zei (bk t) x3) fun v41=>
     stdW.cnd ((v40.length:Int)==(v41.length:Int)) (stdW.call (zei (sa b.1) x3) fun v42=>stdW.call (zei (sa t) x3) fun v43=>(k37 (((v42.length:Int)==(v43.length:Int)),())))
     ((k37 (false,()))))
     ((k37 (false,())))))
   fun k44=>
   stdW.cnd (b.2.1 != 0) ((k44 (true,())))
    (
    stdW.cnd (Go.Vc.notIf false ((x3.1==x1.1)&&(x3.2.1==x1.2.1))) ((k44 (true,())))
    ((k44 ((Go.Vc.notIf false ((x3.1==x2.1)&&(x3.2.1==x2.2.1))),()))))))
  fun k45=>
  stdW.cnd (a.2.1==0) (stdW.call (zci (pu a.1)) fun v46=>stdW.call (zci (pu t)) fun v47=>stdW.call (zcb v46 v47) fun v48=>(k45 ((v48 != 0),())))
   ((k45 (false,()))))→K=some true:=by
  intro K hK
  rw[hK]
  refine join_b false (fun k=>?_) ?_
  ·by_cases ha:a.2.1=0
   ·have hpe:=(SK ha).2
    rw[cnd_y (by simpa using ha),hpe]
    exact tot_cmp hf (by omega) hf (by omega) rfl fun x=>k ((x != 0),())
   ·rw[cnd_n (by simpa using ha)]
  ·show stdW.cnd false (some false) _=_
   rw[cnd_n rfl]
   by_cases he:b.2.1=0
   ·have R:=FK he
    by_cases h1:x3=x1
    ·refine join_b true (fun k=>?_) (by show stdW.cnd true _ _=_; rw[cnd_y rfl,zaa hL])
     rw[cnd_n (by simp[he]),unitEq,cnd_y (decide_eq_true h1)]
    ·by_cases h2:x3=x2
     ·refine join_b true (fun k=>?_) (by show stdW.cnd true _ _=_; rw[cnd_y rfl,zaa hL])
      rw[cnd_n (by simp[he]),unitEq,cnd_n (decide_eq_false h1),unitEq,decide_eq_true h2]
     ·refine join_b false (fun k=>?_) ?_
      ·rw[cnd_n (by simp[he]),unitEq,cnd_n (decide_eq_false h1),unitEq,decide_eq_false h2]
      ·show stdW.cnd false _ _=_
       rw[cnd_n rfl]
       have rbl:=R.bl
       have ral:=R.al
       have rpl:=R.pl
       refine join_b true (fun k=>?_) ?_
       ·rw[zaa (ymx (by omega)),zaa (ymx (by omega)),R.get x3 h1 h2,cnd_y (by simp),zaa (r_of19 (by omega)),zaa (r_of19 (by omega)),R.ofb x3 h2,cnd_y (by simp),zaa (r_of19 (by omega)),zaa (r_of19 (by omega)),R.ofa x3 h1]
        congr 2
        simp
       ·show stdW.cnd true (stdW.call (zci (pu b.1)) fun v33=>stdW.call (zci (pu t)) fun v34=>stdW.call (zcb v33 v34) fun v35=>stdW.cnd (v35==0) (stdW.call (zba) fun v36=>some v36) (some false)) _=_
        rw[cnd_y rfl,tot_cmp hf (by omega) R.p (by omega) R.sum fun v35=>stdW.cnd (v35==0) (stdW.call (zba) fun v36=>some v36) (some false),cnd_y (by rfl),zaa hL]
   ·refine join_b true (fun k=>cnd_y (by simpa using he) _ _) (by show stdW.cnd true _ _=_; rw[cnd_y rfl,zaa hL])
 refine zdv (fun z=>10 - z.1.toNat) (fun z=>∃i:Nat,1≤i∧i≤9∧z=((i:Int),())) (fun _=>some true) ⟨1,by omega,by omega,rfl⟩ (by show 10 - (1:Int).toNat<_; omega) ?_
 rintro _ ⟨i,hi1,hi9,rfl⟩ again ha
 show stdW.cnd (decide ((i:Int)≤8)) _ _=_
 by_cases h8:i≤8
 ·rw[cnd_y (decide_eq_true (by omega))]
  refine join_b false (fun k=>?_) ?_
  ·have two:stdW.cnd (b.2.1==0) (stdW.both (stdW.both (stdW.call (zbg b.1 (i:Int)) fun v11=>stdW.call (zbg t (i:Int)) fun v12=>stdW.call (zcb v11 v12) fun v13=>(k ((v13 != 0),()))) (stdW.call (zbg b.1 (i:Int)) fun v11=>stdW.call (zbg t (i:Int)) fun v12=>stdW.call (zcb v11 v12) fun v13=>(k ((v13 != 0),())))) (stdW.call (zbg b.1 (i:Int)) fun v11=>stdW.call (zbg t (i:Int)) fun v12=>stdW.call (zcb v11 v12) fun v13=>(k ((v13 != 0),())))) (stdW.both (stdW.both ((k (false,()))) ((k (false,())))) ((k (false,()))))=k (false,()):=by
    by_cases he:b.2.1=0
    ·have R:=FK he
     have e:=yps hb hs R.b R.a (i:Int) (R.opn _) fun v=>k ((v != 0),())
     rw[cnd_y (by simpa using he)]
     exact zgk (zgk e e) e
    ·rw[cnd_n (by simpa using he)]
     exact zgk (zgk rfl rfl) rfl
   by_cases ha:a.2.1=0
   ·rw[cnd_y (by simpa using ha)]
    refine(yps hb hs g1 g2 (i:Int) ((SK ha).1 _) fun v10=>stdW.cnd (v10 != 0) _ _).trans ?_
    show stdW.cnd false _ _=_
    rw[cnd_n rfl]
    exact two
   ·rw[cnd_n (by simpa using ha)]
    exact two
  ·show stdW.cnd false (some false) (again (IntKind.i64.wrap ((i:Int)+1),()))=_
   rw[cnd_n rfl,i64_s i (by omega)]
   exact ha _ ⟨i+1,by omega,by omega,rfl⟩ (by show 10 - ((i+1:Nat):Int).toNat<10 - ((i:Nat):Int).toNat; omega)
 ·rw[cnd_n (decide_eq_false (by omega))]
  exact tail _ rfl
end Go.Proofs.YtllkmncnmlmefaaGreat
namespace Go.Proofs.YtllkmncnmlmefaaGreat
open Go Go.Vc Go.RowKit Go.ChangeShapes Go.WideShapes Go.ChangeAt Go.Joins
theorem own:ownKnob Tryz.prog.godebug=none:=by kernel_rfl
theorem zff:laidOutB Tryz.prog=true:=by kernel_rfl
theorem zca{H:Type}{enc:TypeId×Value→H}{w:World}{spare:Nat→Bool}{held:Bool}{t:TypeId}{v:Value}{d:DataW H}{p:List MemPlace}(h:DataW.Trod enc Tryz.prog w 0 spare held t v d p):∀x∈p,x.block<w.heap.size:=by
 obtain⟨m,hm⟩:=h; exact DataW.trod_lt m _ _ _ hm
end Go.Proofs.YtllkmncnmlmefaaGreat
namespace Go.Vc
open Go
def closT(T:List (List Nat)):Nat→List Nat→List Nat→List Nat
 |0,_,seen=>seen.reverse
 |_,[],seen=>seen.reverse
 |n+1,f::todo,seen=>if seen.contains f then closT T n todo seen else closT T n ((T[f]?).getD []++todo) (f::seen)
theorem lead_eq{P:Program}{T:List (List Nat)}(hT:P.funcs.toList.map P.leadsTo=T)(f:Nat):(P.funcs[f]?).elim [] P.leadsTo=(T[f]?).getD []:=by
 subst hT
 rw[List.getElem?_map,Array.getElem?_toList]
 cases P.funcs[f]?<;>rfl
theorem zmw{P:Program}{T:List (List Nat)}(hT:P.funcs.toList.map P.leadsTo=T):∀n todo seen,P.closureVia n todo seen=closT T n todo seen
 |0,_,_=>by simp only[Program.closureVia,closT]
 |n+1,[],_=>by simp only[Program.closureVia,closT]
 |n+1,f::todo,seen=>by
  simp only[Program.closureVia,closT]
  rw[zmw hT n,zmw hT n,lead_eq hT f]
theorem zek{P:Program}{T:List (List Nat)}(hT:P.funcs.toList.map P.leadsTo=T)(f:Nat):P.closure f=closT T (1+(T.map fun l=>l.length+1).sum) [f] []:=by
 unfold Program.closure
 rw[zmw hT]
 subst hT
 rw[List.map_map]; rfl
end Go.Vc
namespace Go.Proofs.YtllkmncnmlmefaaGreat
open Go Go.Vc
def leadsT:List (List Nat):=[[],[],[1],[15,17,18,16,19],[20,15,18,21,22,23,23,21,23,19,22,18,16,19],[15,15,24,23,25,23,25,18,18,16,19],[26,27,28,29,31,32,30,31,32,30,33],[26,34,35,29,33],[26,27,34,37,37,36,37,37,36,38,38,36,33,39,39,40,40,40,40,38,38,36,33],[41,42,43,44,45],[41,42,44,45,46,46,46,46,47,48,45],[49,50,51,52,53,54,55,56,57,58,59],[49,60,61,62,63,56,64,56,64,59],[49,65,66,56,64,59],[49,65,59,67,68,70,69,51,51,70,70,71,36,72,72,36,38,38,36,59],[73,74,74,75,76,77],[],[78,79,80,81,82,83,83,84,85],[86,87,88,87,88,88,87,88,87,88,87,87,88,87,88,87,88,89,89,87,88,87,88,88],[90,17,21,23,90,17,16],[],[91,92,93,94,95,96,96,98,97,102,101,105,106,17,107],[108,109,110,110,111,112,113,113,114],[47,115,116,48,117,118,119,30,30,120,121],[122,123,124,125,126,127,128,129,130,131,132,132,133,134],[17,17,107],[77,135,136,137,74,74,75],[138,139,140],[141,141,142,143],[30,30,120],[144],[139],[142],[27,34,31,39],[145,146,147,148,140,140,149],[141,141,111,150,40,151,152,153,154,155,156,143,143,157,156,157,159,159,158],[71],[160,160,69],[70,69],[],[],[77,135,137,73,74,75,76],[161,163,162,164,165,149,166,167],[168,40,169,111,39,158,170,171],[47,48,117,30,120,121],[172,42],[40,40,144,39,39,173,173,121],[],[174],[77,175,137,75,76],[165,176],[39],[178,177,165,179],[173,180,70,39,70,69,156,159],[181,182,57,178,165,183,184],[111,112,173,70,39,70,71,156,159,114,159,185,70,36,159,186,156,187,159,188],[120,121],[],[],[65,64,39,173],[50,52,189,190],[51,53,191],[50,54,50],[51,55,51],[],[192,193,194,195,196,58,196],[68,68,63,68,197,61],[153,153,153],[],[199,198,200,201,198,201,198],[202,202,199],[157,69],[203,69],[],[204],[],[205],[],[],[206],[79,79,206,79,79,79,206,79,206,79,79,206],[79,79,79,79,207,208],[79,79,207,79,206,79,79,207,79,206,79],[79,207,79,79,206],[79,207,206,79,207,79,79,206],[209,210],[],[86],[211],[87,88,88],[],[210],[212],[214,213,216,215,219,218],[221,220,224,223],[226,225,228,227],[231,230],[212,233],[99,100],[92,92],[212],[212,233],[99,104,103],[212,233],[92,92,100],[233],[234,235,236,237,238,239,239,240],[],[241,242,243,154,244,245,245,246],[245,247,245,245,247],[245,247,141],[248],[249,248],[245],[],[250],[],[],[],[],[],[251],[],[],[],[],[],[],[],[],[],[],[252,253],[],[],[254],[255],[256],[257,257],[192,259,258],[257,163,162,261,262,263,264],[265,248],[153],[141,40,266,248],[],[146,138,181,163,268,267,269],[270,271],[272,273,273,275,274,276],[277,183],[183,181,278],[],[],[],[68],[],[70,70,279,70,70,71,279],[280],[198],[111,281,70,69,156,159,159],[],[151,70,69],[282,283,284],[285,277,268,179],[253],[257,148,140,140],[],[182,178,178,286,286],[124,288,287],[289,154,290,291,289,154,40,39,173,292,293,294],[141,295,143,143],[112,173,296,173,296],[],[],[],[],[297],[183],[298,299,179],[134],[300,302,301],[249,70,114,186,156,303,69,156,159],[304],[305,304],[300,300,306,301],[307,308,299,57,309,57,149],[70,310],[70,70,279],[112,311,312],[158],[],[54,149],[55,188],[314,315,313],[316,316],[62,317],[316,318,317],[60,317],[51,319,53,319,320,320,191],[],[],[],[],[],[70,69],[],[],[209,322,321],[79],[79],[],[],[86],[323,324,325,326],[212,233],[92,100,92,92],[212,233],[92,100,100,100,100,217],[212,233],[212,233],[92,100,100],[212,233],[92,92,92,92,222],[212,233],[212,233],[99,99,212],[212,233],[92,99,92,100,100],[212,233],[92,99,99,229,100,92,92,92],[92,100],[212,233],[99,229,232],[212,233],[],[316],[327,272,328,329],[330,330,331],[330,332,333,334],[330,330,332,334,333],[330,332,257],[335,335,307,181,182],[],[336,336],[],[],[153],[248],[150],[],[337,338],[339],[],[],[],[241,154],[340],[244,152],[341,304],[342],[260],[316,343],[304],[253],[],[344,345],[],[265,151,70,69,346],[],[],[347,260,348,349],[351,350],[130],[273,273,352,353],[],[354,300,354,355,355,356,358,357,359],[300,300,354,354,355,358,358,357],[300],[341],[181,360,361,362,179],[199,198],[202,69],[248],[363,348,364],[365],[363,348,349,366,367,368,369],[370],[134,304,134],[371],[],[152,153],[],[372],[141,40,373,70,69,156,159],[374,292],[70,70,69,70,36],[265,151,70,157,346],[248],[243,114],[305,307],[328,375],[],[276],[376,377],[186,70,279,378],[],[379,380],[376,376,300,376,377],[],[328,381],[182,382,383],[378,202,69],[112,173,384,296],[112,173,385,296],[342],[386],[],[],[],[387,50,387,388,189,389,389,190],[70,69,156,159],[390,391,70,36,392],[],[],[],[326,326],[],[],[],[393],[348,394],[],[304],[146],[],[],[330],[],[],[],[],[242,150],[],[],[395],[],[396],[156,159],[397,386],[398],[],[],[],[399],[],[358,400,400],[],[],[400,400],[],[],[401],[402,403],[],[347,260],[404],[405],[163,165,178],[257,163,406,179],[407,367],[408,179],[],[],[],[265,70,156,69,156,159],[68],[275,276],[356,356],[359],[198,202,71],[],[410,410,409],[275,411,300,302,301],[178,412,413],[178,414,413],[249,337,415,416],[249,337,415,70,70,69,156,159,416],[131],[179],[52,165],[417,179,418],[391,156],[70,69],[390,391,159,70,70,279,378,159],[],[419],[],[420,420,420],[],[422,421],[],[],[],[424,423],[304,304],[],[425,371],[277,176,179],[192,316],[],[],[426,426],[354,427,358,356,358,357],[428,429,380,134,430],[182,286],[428,429,380,134,431,179,134],[],[338],[408],[417,179,432,433,434],[],[],[],[],[435,436,437,438,439,440,441,442,423,423],[443,444],[],[],[445],[305,379],[],[],[446,447],[448],[424,449],[450,410,409],[],[451,451],[452,453],[454,454,454,455],[],[],[],[],[],[],[444],[],[456],[275,411,301],[457,458,459,460,461,462,463,464,449,449],[465,465],[],[424],[],[455],[466,466,466],[467,467,467],[],[468,468],[452,453],[469,469,469,470],[],[],[],[],[],[],[],[],[470],[471,471,471],[],[],[],[],[],[],[],[],[],[],[],[],[],[],[],[],[],[],[],[]]
set_option maxRecDepth 1000000 in
theorem zhf:Tryz.prog.funcs.toList.map Tryz.prog.leadsTo=leadsT:=by kernel_rfl
end Go.Proofs.YtllkmncnmlmefaaGreat