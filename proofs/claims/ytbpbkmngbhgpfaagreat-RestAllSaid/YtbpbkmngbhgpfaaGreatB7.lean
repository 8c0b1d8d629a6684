import Derived.Test.YtbpbkmngbhgpfaaGreatB6
import Derived.Test.YtbpbkmngbhgpfaaGreatRows
import Derived.JoinedOf
namespace Go.Proofs.YtbpbkmngbhgpfaaGreat
open Go Go.Vc Go.RowKit
def pu(s:zba):List AFlow':=s.2.2.2.2.2.2.2.2.2.2.1
def ho(s:zba):List AHold':=s.2.2.2.2.2.2.2.2.2.2.2.1
def updS(s:zba)(p:List AFlow')(h:List AHold'):zba:=(s.1,(s.2.1,(s.2.2.1,(s.2.2.2.1,(s.2.2.2.2.1,(s.2.2.2.2.2.1,(s.2.2.2.2.2.2.1,(s.2.2.2.2.2.2.2.1,(s.2.2.2.2.2.2.2.2.1,(s.2.2.2.2.2.2.2.2.2.1,(p,(h,()))))))))))))
theorem r_restOf{s:zba}{u:AUnit'}(hp:(pu s).length≤1000000)(hh:okHs (ho s)):zon s u=some (backR (pu s) (ho s) u):=by
 show zqd stdW s u=_
 unfold zqd
 have e1:zii s.2.2.2.2.2.2.2.2.2.2.1 u=some (getP (pu s) u):=r_get hp
 have e2:zir s.2.2.2.2.2.2.2.2.2.2.2.1 u=some (lotsH (ho s) u):=r_hlots hh
 rw[zac e1,zac e2]
 unfold backR
 have:(if getP (pu s) u>0 then getP (pu s) u else 0)=max 0 (getP (pu s) u):=by split<;>omega
 rw[this]
theorem r_without{s:zba}{u:AUnit'}{c:Int}{lots:List ALot'}(hp:isP (pu s)=true)(hf:okF (pu s))(hl:(pu s).length≤900000)(hh:okHs (ho s))(hc:c=max 0 (getP (pu s) u)):
  (∃e z,e≠0∧zdh s (u,(c,(lots,())))=some (z,(e,())))∨zdh s (u,(c,(lots,())))=some (updS s (payP (pu s) [(u,(-c,()))]).1 (zap (ho s) u),(0,())):=by
 show (∃e z,e≠0∧zdp stdW s (u,(c,(lots,())))=_)∨zdp stdW s (u,(c,(lots,())))=_
 unfold zdp
 have hg:=yfh hf u
 have hcI:I64 (-c):=by unfold I64 at *; omega
 have ew:IntKind.i64.wrap (0 - c) = -c:=by rw[IntWalk.i64_in _ (by unfold I64 at hg; omega)]; omega
 have e1:zfn s.2.2.2.2.2.2.2.2.2.2.1 [(u,(-c,()))]=some (payP (pu s) [(u,(-c,()))]):=r_pay hf (fun x hx=>by simp only[List.mem_singleton]at hx; subst hx; exact hcI) (by show (pu s).length+1≤_; omega)
 obtain⟨b0,_⟩:=ymf hp hf u c hc
 obtain⟨b,e2⟩:=r_hSet (l:=ho s) (u:=u) hh
 have e2':zhm s.2.2.2.2.2.2.2.2.2.2.2.1 u []=_:=e2
 show (∃e z,e≠0∧stdW.call (zfn s.2.2.2.2.2.2.2.2.2.2.1 [(u,((IntKind.i64.wrap (0 - c)),()))]) _=_)∨stdW.call (zfn s.2.2.2.2.2.2.2.2.2.2.1 [(u,((IntKind.i64.wrap (0 - c)),()))]) _=_
 rw[ew,zac e1]
 refine zka (Q:=fun o=>(∃e z,e≠0∧o=some (z,(e,())))∨o=some (updS s (payP (pu s) [(u,(-c,()))]).1 (zap (ho s) u),(0,()))) fun k hk=>?_
 rw[cnd_y (by rw[b0]; rfl)]
 show (∃e z,e≠0∧stdW.call (zhm s.2.2.2.2.2.2.2.2.2.2.2.1 u []) _=_)∨stdW.call (zhm s.2.2.2.2.2.2.2.2.2.2.2.1 u []) _=_
 rw[zac e2']
 subst hk
 cases b with
 |true=>exact .inr rfl
 |false=>exact .inl ⟨3,_,by decide,rfl⟩
def GiveQ(s:zba)(id:Int)(o:Option (zba×(List zam)×Int×Unit)):Prop:=
 ∃z,o=some z∧((z.2.2.1≠0∧z.2.1=[])∨(z.2.2.1=0∧∃us p h,z.1=updS s p h∧(∀u∈us,∃a∈s.2.2.2.2.1,isM id a=true∧u∈unitsA a)∧us.length≤1000∧GOk (pu s) (ho s) (p,h,z.2.1) us))
def zst(s:zba)(p:List AFlow')(h:List AHold')(out:List zam):=(s.1,(s.2.1,(s.2.2.1,(s.2.2.2.1,(s.2.2.2.2.1,(s.2.2.2.2.2.1,(s.2.2.2.2.2.2.1,(s.2.2.2.2.2.2.2.1,(s.2.2.2.2.2.2.2.2.1,(s.2.2.2.2.2.2.2.2.2.1,(p,(h,(out,())))))))))))))
def zsu(s:zba)(p:List AFlow')(h:List AHold')(out:List zam)(v:List AUnit'):=(s.1,(s.2.1,(s.2.2.1,(s.2.2.2.1,(s.2.2.2.2.1,(s.2.2.2.2.2.1,(s.2.2.2.2.2.2.1,(s.2.2.2.2.2.2.2.1,(s.2.2.2.2.2.2.2.2.1,(s.2.2.2.2.2.2.2.2.2.1,(p,(h,(out,(v,()))))))))))))))
theorem r_give{s:zba}{id:Int}(hf:okF (pu s))(hl:(pu s).length≤1000)(hh:okHs (ho s))(hA:∀a∈s.2.2.2.2.1,a.2.2.2.1.length≤20)(hAl:s.2.2.2.2.1.length≤20):GiveQ s id (zgk s id):=by
 show GiveQ s id (zic stdW s id)
 unfold zic
 have hAs:okAs s.2.2.2.2.1:=⟨fun a ha=>by have:=hA a ha; omega,by omega⟩
 have e1:zjs s.2.2.2.2.2.2.2.2.2.2.1=some (isP (pu s)):=r_is (by show (pu s).length≤_; omega)
 obtain⟨bh,e2,hb⟩:=r_his hh
 have e2':zox s.2.2.2.2.2.2.2.2.2.2.2.1=some bh:=e2
 refine zka (Q:=GiveQ s id) fun k17 hk=>?_
 have kt:GiveQ s id (k17 (true,())):=by
  subst hk
  exact⟨_,rfl,.inl ⟨by decide,rfl⟩⟩
 have kf:isP (pu s)=true→bh=true→GiveQ s id (k17 (false,())):=by
  intro hp hbt
  subst hk
  show GiveQ s id (stdW.cnd false _ (stdW.call (zul s.2.2.2.2.1 id) _))
  rw[cnd_n rfl,zac (r_aof hAs)]
  have hv2:∀a∈s.2.2.2.2.1.filter (isM id),a∈s.2.2.2.2.1∧isM id a=true:=fun a ha=>⟨(List.mem_filter.1 ha).1,(List.mem_filter.1 ha).2⟩
  have hv2l:(s.2.2.2.2.1.filter (isM id)).length≤20:=Nat.le_trans (List.length_filter_le _ _) hAl
  generalize s.2.2.2.2.1.filter (isM id)=v2 at*
  have G0:GOk (pu s) (ho s) (pu s,ho s,[]) []:=give_start hp hf ⟨hb hbt,hh.1⟩
  refine loop_P (GiveQ s id) (fun z=>v2.length+1 - z.1.toNat) (fun z=>∃(j:Nat) (us:List AUnit') (p:List AFlow') (h:List AHold') (out:List zam),j≤v2.length∧us.length≤20*j∧(∀u∈us,∃a∈s.2.2.2.2.1,isM id a=true∧u∈unitsA a)∧GOk (pu s) (ho s) (p,h,out) us∧z=((j:Int),zst s p h out))
   ⟨0,[],pu s,ho s,[],Nat.zero_le _,by simp,(fun u hu=>by cases hu),G0,rfl⟩ (by show v2.length+1 - (0:Int).toNat<_; omega) ?_
  rintro _ ⟨j,us,p,h,out,hj,hul,hus,G,rfl⟩ again ha
  show GiveQ s id (stdW.cnd (decide ((j:Int)<(v2.length:Int))) _ _)
  by_cases hjl:j<v2.length
  ·rw[cnd_lt hjl]
   show GiveQ s id (stdW.idx v2 (j:Int) _)
   obtain⟨ham,hai⟩:=hv2 _ (List.getElem_mem hjl)
   have hac:=hA _ ham
   rw[idx_w hjl,zac (r_aunits (by omega))]
   have hvl:(unitsA v2[j]).length≤20:=by
    unfold unitsA
    split
    ·simp
    ·rw[List.length_map]; exact hac
   have hvm:∀u∈unitsA v2[j],∃a∈s.2.2.2.2.1,isM id a=true∧u∈unitsA a:=fun u hu=>⟨_,ham,hai,hu⟩
   generalize unitsA v2[j]=v6 at*
   refine loop_P (GiveQ s id) (fun z=>v6.length+1 - z.1.toNat) (fun z=>∃(i:Nat) (us':List AUnit') (p:List AFlow') (h:List AHold') (out:List zam),i≤v6.length∧us'.length≤20*j+i∧(∀u∈us',∃a∈s.2.2.2.2.1,isM id a=true∧u∈unitsA a)∧GOk (pu s) (ho s) (p,h,out) us'∧z=((i:Int),zsu s p h out v6))
    ⟨0,us,p,h,out,Nat.zero_le _,by omega,hus,G,rfl⟩ (by show v6.length+1 - (0:Int).toNat<_; omega) ?_
   clear G
   rintro _ ⟨i,us',p,h,out,hi,hul',hus',G,rfl⟩ again2 ha2
   show GiveQ s id (stdW.cnd (decide ((i:Int)<(v6.length:Int))) _ _)
   by_cases hil:i<v6.length
   ·rw[cnd_lt hil]
    refine zka (Q:=GiveQ s id) fun k10 hk10=>?_
    have kk10:∀(us':List AUnit') (p:List AFlow') (h:List AHold') (out:List zam),us'.length≤20*j+(i+1)→(∀u∈us',∃a∈s.2.2.2.2.1,isM id a=true∧u∈unitsA a)→GOk (pu s) (ho s) (p,h,out) us'→GiveQ s id (k10 (zsu s p h out v6)):=by
     intro us' p h out g1 g2 g3
     subst hk10
     show GiveQ s id (again2 (IntKind.i64.wrap ((i:Int)+1),zsu s p h out v6))
     rw[i64_s i (by omega)]
     exact ha2 _ ⟨i+1,us',p,h,out,by omega,g1,g2,g3,rfl⟩ (by show v6.length+1 - ((i+1:Nat):Int).toNat<v6.length+1 - ((i:Nat):Int).toNat; omega)
    clear hk10 ha2 ha
    show GiveQ s id (stdW.idx v6 (i:Int) _)
    rw[idx_w hil]
    show GiveQ s id (stdW.nth v6 (Int.toNat (i:Int)) _)
    rw[nth_w hil]
    have hum:=hvm _ (List.getElem_mem hil)
    generalize v6[i]=u at*
    have hpl:p.length≤900000:=by have h1:=G.lp; have h2:(pu s).length≤1000:=hl; have h3:p.length≤(pu s).length+us'.length:=h1; omega
    have hhl:h.length≤1000:=Nat.le_trans G.lh hh.2
    have hoh:okHs h:=⟨G.h.2,hhl⟩
    have e3:zon (updS s p h) u=some (backR p h u):=r_restOf (s:=updS s p h) (by show p.length≤_; omega) hoh
    show GiveQ s id (stdW.call (zon (updS s p h) u) _)
    rw[zac e3]
    have GS:=give_step G u
    have husu:∀x∈us'++[u],∃a∈s.2.2.2.2.1,isM id a=true∧x∈unitsA a:=fun x hx=>by
     rcases List.mem_append.1 hx with hx|hx
     ·exact hus' x hx
     ·simp only[List.mem_singleton]at hx; subst hx; exact hum
    refine zka (Q:=GiveQ s id) fun k16 hk16=>?_
    have kk16:¬(max 0 (getP p u)=0∧lotsH h u=[])→GiveQ s id (k16 (out,(v6,()))):=by
     intro hne
     subst hk16
     show GiveQ s id (stdW.call (zdh (updS s p h) (u,(max 0 (getP p u),(lotsH h u,())))) _)
     have hol:out.length≤us'.length:=G.len
     rcases r_without (s:=updS s p h) (u:=u) (c:=max 0 (getP p u)) (lots:=lotsH h u) G.p G.f hpl hoh (show max 0 (getP p u)=max 0 (getP (pu (updS s p h)) u) from rfl) with ⟨e,z,h1,h2⟩|h2
     ·rw[zac h2,cnd_y (by simp[h1])]
      exact⟨_,rfl,.inl ⟨h1,rfl⟩⟩
     ·rw[zac h2,cnd_n (by rfl)]
      show GiveQ s id (stdW.room (out.length+1) 48 (k10 (zsu s (payP p [(u,(-(max 0 (getP p u)),()))]).1 (zap h u) (out++[backR p h u]) v6)))
      rw[room_w (by omega) (by omega)]
      have:giveS (p,h,out) u=((payP p [(u,(-(max 0 (getP p u)),()))]).1,zap h u,out++[backR p h u]):=by
       unfold giveS; rw[if_neg hne]
      rw[this]at GS
      exact kk10 (us'++[u]) _ _ _ (by simp; omega) husu GS
    clear hk16
    have skip:(max 0 (getP p u)=0∧lotsH h u=[])→GiveQ s id (k10 (zsu s p h out v6)):=by
     intro hy
     have:giveS (p,h,out) u=(p,h,out):=by unfold giveS; rw[if_pos hy]
     rw[this]at GS
     exact kk10 (us'++[u]) _ _ _ (by simp; omega) husu GS
    show GiveQ s id (stdW.cnd (max 0 (getP p u)==0) (stdW.cnd (((lotsH h u).length:Int)==0) (k10 (zsu s p h out v6)) (k16 (out,(v6,())))) (k16 (out,(v6,()))))
    by_cases h1:max 0 (getP p u)=0
    ·rw[cnd_y (by simpa using h1)]
     by_cases h2:lotsH h u=[]
     ·rw[cnd_y (by rw[h2]; rfl)]; exact skip ⟨h1,h2⟩
     ·rw[cnd_n (by
       cases hl:lotsH h u with
       |nil=>exact absurd hl h2
       |cons x xs=>simp; omega)]
      exact kk16 fun hh=>h2 hh.2
    ·rw[cnd_n (by simpa using h1)]; exact kk16 fun hh=>h1 hh.1
   ·have:i=v6.length:=by omega
    subst this
    rw[zax]
    show GiveQ s id (again (IntKind.i64.wrap ((j:Int)+1),zst s p h out))
    rw[i64_s j (by omega)]
    exact ha _ ⟨j+1,us',p,h,out,by omega,by omega,hus',G,rfl⟩ (by show v2.length+1 - ((j+1:Nat):Int).toNat<v2.length+1 - ((j:Nat):Int).toNat; omega)
  ·have:j=v2.length:=by omega
   subst this
   rw[zax]
   exact⟨_,rfl,.inr ⟨rfl,us,p,h,rfl,hus,by omega,G⟩⟩
 clear hk
 rw[zac e1]
 cases hp:isP (pu s) with
 |false=>rw[cnd_y (by rfl)]; exact kt
 |true=>
  rw[cnd_n (by rfl),zac e2']
  cases bh with
  |false=>exact kt
  |true=>exact kf hp rfl
end Go.Proofs.YtbpbkmngbhgpfaaGreat

namespace Go.Proofs.YtbpbkmngbhgpfaaGreat
open Go Go.Vc Go.RowKit
theorem ex_cnd{β:Type}{c:Bool}{a b:Option β}(ha:∃r,a=some r)(hb:∃r,b=some r):∃r,stdW.cnd c a b=some r:=by
 cases c
 ·exact hb
 ·exact ha
theorem r_is15{a:zaa}(hm:a.2.2.2.1.length≤1000000):∃b,zwb a=some b:=by
 show ∃b,zqj stdW a=some b
 unfold zqj
 refine zka (Q:=fun o=>∃b,o=some b) fun k12 hk12=>?_
 have kb12:∀c,∃b,k12 (c,())=some b:=by
  intro c
  subst hk12
  show ∃b,stdW.cnd c (some false) _=some b
  refine ex_cnd ⟨_,rfl⟩ ?_
  refine zka (Q:=fun o=>∃b,o=some b) fun k11 hk11=>?_
  have kb11:∀c,∃b,k11 (c,())=some b:=by
   intro c
   subst hk11
   show ∃b,stdW.cnd c (some false) _=some b
   refine ex_cnd ⟨_,rfl⟩ ?_
   refine loop_P (fun o=>∃b,o=some b) (fun z=>a.2.2.2.1.length+1 - z.1.toNat) (fun z=>∃j:Nat,j≤a.2.2.2.1.length∧z=((j:Int),())) ⟨0,Nat.zero_le _,rfl⟩ (by show _ - (0:Int).toNat<_; omega) ?_
   rintro _ ⟨j,hj,rfl⟩ again ha
   show ∃b,stdW.cnd (decide ((j:Int)<(a.2.2.2.1.length:Int))) _ _=some b
   by_cases h:j<a.2.2.2.1.length
   ·rw[cnd_lt h]
    refine zka (Q:=fun o=>∃b,o=some b) fun k6 hk6=>?_
    have kb6:∀c,∃b,k6 (c,())=some b:=by
     intro c
     subst hk6
     show ∃b,stdW.cnd c (some false) (again (IntKind.i64.wrap ((j:Int)+1),()))=some b
     refine ex_cnd ⟨_,rfl⟩ ?_
     rw[i64_s j (by omega)]
     exact ha _ ⟨j+1,by omega,rfl⟩ (by show _ - ((j+1:Nat):Int).toNat<_ - ((j:Nat):Int).toNat; omega)
    clear hk6 ha
    show ∃b,stdW.idx a.2.2.2.1 (j:Int) _=some b
    rw[idx_w h]
    refine ex_cnd (kb6 _) ?_
    show ∃b,stdW.idx a.2.2.2.1 (j:Int) _=some b
    rw[idx_w h]
    refine ex_cnd (kb6 _) ?_
    show ∃b,stdW.cnd (decide (0<(j:Int))) (stdW.idx a.2.2.2.1 (j:Int) fun x9=>stdW.idx a.2.2.2.1 (IntKind.i64.wrap ((j:Int) - 1)) _) _=some b
    by_cases h0:0<j
    ·rw[cnd_y (decide_eq_true (by omega)),idx_w h,znu j h0 (by rw[zbj]; omega),idx_w (by omega)]
     exact kb6 _
    ·rw[cnd_n (decide_eq_false (by omega))]; exact kb6 _
   ·have:j=a.2.2.2.1.length:=by omega
    subst this
    rw[zax]; exact⟨_,rfl⟩
  clear hk11
  repeat' (first|exact kb11 _|refine ex_cnd ?_ ?_)
 clear hk12
 repeat' (first|exact kb12 _|refine ex_cnd ?_ ?_)
theorem r_find15{l:List zaa}{id:Int}(hl:l.length≤1000000):∃x b,ztk l id=some (x,(b,()))∧(b=false→∀a∈l,a.1≠id):=by
 show ∃x b,zjn stdW l id=some (x,(b,()))∧_
 unfold zjn
 refine loop_P (fun o=>∃(x:zaa) (b:Bool),o=some (x,(b,()))∧(b=false→∀a∈l,a.1≠id)) (fun z=>l.length+1 - z.1.toNat) (fun z=>∃j:Nat,j≤l.length∧z=((j:Int),())∧∀a∈l.take j,a.1≠id) ⟨0,Nat.zero_le _,rfl,by simp⟩ (by show _ - (0:Int).toNat<_; omega) ?_
 rintro _ ⟨j,hj,rfl,hp⟩ again ha
 show ∃x b,stdW.cnd (decide ((j:Int)<(l.length:Int))) _ _=some (x,(b,()))∧_
 by_cases h:j<l.length
 ·rw[cnd_lt h]
  show ∃x b,stdW.idx l (j:Int) _=some (x,(b,()))∧_
  rw[idx_w h]
  by_cases hi:l[j].1=id
  ·rw[cnd_y (by simpa using hi)]
   show ∃x b,stdW.idx l (j:Int) _=some (x,(b,()))∧_
   rw[idx_w h]
   exact⟨_,true,rfl,fun h=>by cases h⟩
  ·rw[cnd_n (by simpa using hi)]
   show ∃x b,again (IntKind.i64.wrap ((j:Int)+1),())=some (x,(b,()))∧_
   rw[i64_s j (by omega)]
   refine ha _ ⟨j+1,by omega,rfl,fun a hm=>?_⟩ (by show _ - ((j+1:Nat):Int).toNat<_ - ((j:Nat):Int).toNat; omega)
   rw[List.take_succ_eq_append_getElem h]at hm
   rcases List.mem_append.1 hm with hm|hm
   ·exact hp a hm
   ·simp only[List.mem_singleton]at hm; subst hm; exact hi
 ·have:j=l.length:=by omega
  subst this
  rw[List.take_length]at hp
  rw[zax]; exact⟨_,false,rfl,fun _=>hp⟩
theorem r_put15{l:List zaa}{i:zaa}(hl:l.length≤1000)(hm:i.2.2.2.1.length≤1000000):∃r e,zqi l i=some (r,(e,()))∧(e=0→(∀x∈r,x∈l∨x=i)∧r.length≤l.length+1∧((l.map (·.1)).Nodup→(r.map (·.1)).Nodup)):=by
 show ∃r e,znd stdW l i=some (r,(e,()))∧_
 unfold znd
 obtain⟨b,hb⟩:=r_is15 hm
 have e0:zwb (i.1,(i.2.1,(i.2.2.1,(i.2.2.2.1,()))))=some b:=hb
 rw[zac e0]
 cases b with
 |false=>rw[cnd_y (by decide)]; exact⟨[],2,rfl,by simp⟩
 |true=>
  obtain⟨x,bf,hf,hno⟩:=r_find15 (l:=l) (id:=i.1) (by omega)
  rw[cnd_n (by decide),zac hf]
  cases bf with
  |true=>
   rw[cnd_y (by rfl)]; exact⟨[],12,rfl,by simp⟩
  |false=>
   have hno:=hno rfl
   rw[cnd_n (by rfl),join_w]
   refine loop_P (fun o=>∃(r:List zaa) (e:Int),o=some (r,(e,()))∧(e=0→(∀x∈r,x∈l∨x=i)∧r.length≤l.length+1∧((l.map (·.1)).Nodup→(r.map (·.1)).Nodup))) (fun z=>l.length+1 - z.1.toNat) (fun z=>∃j:Nat,j≤l.length∧z=((j:Int),())) ⟨0,Nat.zero_le _,rfl⟩ (by show _ - (0:Int).toNat<_; omega) ?_
   rintro _ ⟨j,hj,rfl⟩ again ha
   have fin:∃(r:List zaa) (e:Int),stdW.bnd (j:Int) l.length (fun h4=>stdW.room (l.take h4).length 48 (stdW.room ((l.take h4).length+((i.1,(i.2.1,(i.2.2.1,(i.2.2.2.1,()))))::([]:List zaa)).length) 48 (stdW.bnd (j:Int) l.length fun h5=>stdW.room (((l.take h4)++((i.1,(i.2.1,(i.2.2.1,(i.2.2.2.1,()))))::([]:List zaa))).length+((l.take l.length).drop h5).length) 48 (some (((l.take h4)++((i.1,(i.2.1,(i.2.2.1,(i.2.2.2.1,()))))::([]:List zaa))++((l.take l.length).drop h5)),(0,()))))))=some (r,(e,()))∧(e=0→(∀x∈r,x∈l∨x=i)∧r.length≤l.length+1∧((l.map (·.1)).Nodup→(r.map (·.1)).Nodup)):=by
    rw[bnd_w (by omega) (by omega),Int.toNat_natCast]
    have l1:(l.take j).length≤1000:=by rw[List.length_take]; omega
    rw[room_w (by omega) (by omega),room_w (by simp only[List.length_cons,List.length_nil]; omega) (by simp only[List.length_cons,List.length_nil]; omega),bnd_w (by omega) (by omega),Int.toNat_natCast,List.take_length,
     room_w (by simp only[List.length_append,List.length_drop,List.length_cons,List.length_nil]; omega) (by simp only[List.length_append,List.length_drop,List.length_cons,List.length_nil]; omega)]
    refine⟨_,_,rfl,fun _=>⟨fun x hx=>?_,by simp only[List.length_append,List.length_drop,List.length_cons,List.length_nil,List.length_take]; omega,fun hnd=>?_⟩⟩
    ·rcases List.mem_append.1 hx with hx|hx
     ·rcases List.mem_append.1 hx with hx|hx
      ·exact .inl (List.mem_of_mem_take hx)
      ·simp only[List.mem_singleton]at hx
       exact .inr hx
     ·exact .inl (List.mem_of_mem_drop hx)
    ·have hp:(l.take j++[i]++l.drop j).Perm (i::l):=by
      have h1:(l.take j++[i]++l.drop j).Perm (i::(l.take j++l.drop j)):=by
       rw[List.append_assoc]; exact List.perm_middle
      rwa [List.take_append_drop]at h1
     have h2:=(hp.map (fun x:zaa=>x.1)).nodup_iff.2 (List.nodup_cons.2 ⟨fun hm=>by
      obtain⟨a,ha,e⟩:=List.mem_map.1 hm
      exact hno a ha e,hnd⟩)
     exact h2
   show ∃r e,stdW.cnd (decide ((j:Int)<(l.length:Int))) _ _=_∧_
   by_cases h:j<l.length
   ·rw[cnd_lt h]
    show ∃r e,stdW.idx l (j:Int) _=_∧_
    rw[idx_w h]
    by_cases h1:l[j].1<i.1
    ·rw[cnd_y (decide_eq_true h1)]
     show ∃r e,again (IntKind.i64.wrap ((j:Int)+1),())=_∧_
     rw[i64_s j (by omega)]
     exact ha _ ⟨j+1,by omega,rfl⟩ (by show _ - ((j+1:Nat):Int).toNat<_ - ((j:Nat):Int).toNat; omega)
    ·rw[cnd_n (decide_eq_false h1)]; exact fin
   ·have:j=l.length:=by omega
    subst this
    rw[zax]; exact fin
def okTab(l t:List zaa):Prop:=(∀x∈t,x∈l)∧t.length≤20∧(t.map (·.1)).Nodup
theorem r_table15{l:List zaa}(hm:∀i∈l,i.2.2.2.1.length≤1000000)(hl:l.length≤1000):∃t,zjm l=some t∧okTab l t:=by
 show ∃t,zhf stdW l=some t∧okTab l t
 unfold zhf
 rw[join_w]
 refine loop_P (fun o=>∃t,o=some t∧okTab l t) (fun z=>l.length+1 - z.2.1.toNat) (fun z=>∃(j:Nat) (acc:List zaa),j≤l.length∧j≤20∧acc.length≤j∧(∀x∈acc,x∈l)∧(acc.map (·.1)).Nodup∧z=(acc,((j:Int),()))) ⟨0,[],Nat.zero_le _,Nat.zero_le _,Nat.le_refl _,by simp,by simp,rfl⟩ (by show _ - (0:Int).toNat<_; omega) ?_
 rintro _ ⟨j,acc,hj,hj10,hacc,hok,hnd,rfl⟩ again ha
 have fin:∃t,(some acc:Option (List zaa))=some t∧okTab l t:=⟨acc,rfl,hok,by omega,hnd⟩
 show ∃t,stdW.cnd (decide ((j:Int)<(l.length:Int))) (stdW.cnd (decide ((j:Int)<20)) _ _) _=some t∧okTab l t
 by_cases h:j<l.length
 ·rw[cnd_lt h]
  by_cases h10:j<20
  ·rw[cnd_y (decide_eq_true (by omega)),join_w]
   show ∃t,stdW.idx l (j:Int) _=some t∧okTab l t
   rw[idx_w h]
   obtain⟨r,e,hp,hr⟩:=r_put15 (l:=acc) (i:=l[j]) (by omega) (hm _ (List.getElem_mem h))
   have nxt:∀a:List zaa,a.length≤j+1→(∀x∈a,x∈l)→(a.map (·.1)).Nodup→∃t,again (a,(IntKind.i64.wrap ((j:Int)+1),()))=some t∧okTab l t:=by
    intro a h1 h2 h3
    rw[i64_s j (by omega)]
    exact ha _ ⟨j+1,a,by omega,by omega,h1,h2,h3,rfl⟩ (by show _ - ((j+1:Nat):Int).toNat<_ - ((j:Nat):Int).toNat; omega)
   show ∃t,stdW.call (zqi acc l[j]) _=some t∧okTab l t
   rw[zac hp]
   by_cases he:e=0
   ·obtain⟨h1,h2,h3⟩:=hr he
    rw[cnd_y (by simpa using he)]
    exact nxt r (by omega) (fun x hx=>(h1 x hx).elim (hok x) fun h3=>h3▸List.getElem_mem h) (h3 hnd)
   ·rw[cnd_n (by simpa using he)]
    exact nxt acc (by omega) hok hnd
  ·rw[cnd_n (decide_eq_false (by omega))]; exact fin
 ·have:j=l.length:=by omega
  subst this
  rw[zax]; exact fin
theorem r_is12(a:zad):∃b,yee a=some b:=by
 show ∃b,zqm stdW a=some b
 unfold zqm
 repeat' (first|exact⟨_,rfl⟩|refine ex_cnd ?_ ?_)
theorem r_find12{l:List zad}{id:Int}(hl:l.length≤1000000):∃x b,ztl l id=some (x,(b,())):=by
 show ∃x b,zjp stdW l id=some (x,(b,()))
 unfold zjp
 refine loop_P (fun o=>∃(x:zad) (b:Bool),o=some (x,(b,()))) (fun z=>l.length+1 - z.1.toNat) (fun z=>∃j:Nat,j≤l.length∧z=((j:Int),())) ⟨0,Nat.zero_le _,rfl⟩ (by show _ - (0:Int).toNat<_; omega) ?_
 rintro _ ⟨j,hj,rfl⟩ again ha
 show ∃x b,stdW.cnd (decide ((j:Int)<(l.length:Int))) _ _=some (x,(b,()))
 by_cases h:j<l.length
 ·rw[cnd_lt h]
  show ∃x b,stdW.idx l (j:Int) _=some (x,(b,()))
  rw[idx_w h]
  by_cases hi:l[j].1=id
  ·rw[cnd_y (by simpa using hi)]
   show ∃x b,stdW.idx l (j:Int) _=some (x,(b,()))
   rw[idx_w h]
   exact⟨_,true,rfl⟩
  ·rw[cnd_n (by simpa using hi)]
   show ∃x b,again (IntKind.i64.wrap ((j:Int)+1),())=some (x,(b,()))
   rw[i64_s j (by omega)]
   exact ha _ ⟨j+1,by omega,rfl⟩ (by show _ - ((j+1:Nat):Int).toNat<_ - ((j:Nat):Int).toNat; omega)
 ·have:j=l.length:=by omega
  subst this
  rw[zax]; exact⟨_,false,rfl⟩
theorem r_put12{l:List zad}{i:zad}(hl:l.length≤1000):∃r e,zql l i=some (r,(e,()))∧r.length≤l.length+1:=by
 show ∃r e,zne stdW l i=some (r,(e,()))∧_
 unfold zne
 obtain⟨b,hb⟩:=r_is12 i
 rw[zac hb]
 cases b with
 |false=>rw[cnd_y (by decide)]; exact⟨[],2,rfl,by simp⟩
 |true=>
  obtain⟨x,bf,hf⟩:=r_find12 (l:=l) (id:=i.1) (by omega)
  rw[cnd_n (by decide),zac hf]
  cases bf with
  |true=>rw[cnd_y (by rfl)]; exact⟨[],12,rfl,by simp⟩
  |false=>
   rw[cnd_n (by rfl),join_w]
   refine loop_P (fun o=>∃(r:List zad) (e:Int),o=some (r,(e,()))∧r.length≤l.length+1) (fun z=>l.length+1 - z.1.toNat) (fun z=>∃j:Nat,j≤l.length∧z=((j:Int),())) ⟨0,Nat.zero_le _,rfl⟩ (by show _ - (0:Int).toNat<_; omega) ?_
   rintro _ ⟨j,hj,rfl⟩ again ha
   have fin:∃(r:List zad) (e:Int),stdW.bnd (j:Int) l.length (fun h4=>stdW.room (l.take h4).length 24 (stdW.room ((l.take h4).length+(i::([]:List zad)).length) 24 (stdW.bnd (j:Int) l.length fun h5=>stdW.room (((l.take h4)++(i::([]:List zad))).length+((l.take l.length).drop h5).length) 24 (some (((l.take h4)++(i::([]:List zad))++((l.take l.length).drop h5)),(0,()))))))=some (r,(e,()))∧r.length≤l.length+1:=by
    rw[bnd_w (by omega) (by omega),Int.toNat_natCast]
    have l1:(l.take j).length≤1000:=by rw[List.length_take]; omega
    rw[room_w (by omega) (by omega),room_w (by simp only[List.length_cons,List.length_nil]; omega) (by simp only[List.length_cons,List.length_nil]; omega),bnd_w (by omega) (by omega),Int.toNat_natCast,List.take_length,
     room_w (by simp only[List.length_append,List.length_drop,List.length_cons,List.length_nil]; omega) (by simp only[List.length_append,List.length_drop,List.length_cons,List.length_nil]; omega)]
    exact⟨_,_,rfl,by simp only[List.length_append,List.length_drop,List.length_cons,List.length_nil,List.length_take]; omega⟩
   show ∃r e,stdW.cnd (decide ((j:Int)<(l.length:Int))) _ _=_∧_
   by_cases h:j<l.length
   ·rw[cnd_lt h]
    show ∃r e,stdW.idx l (j:Int) _=_∧_
    rw[idx_w h]
    by_cases h1:l[j].1<i.1
    ·rw[cnd_y (decide_eq_true h1)]
     show ∃r e,again (IntKind.i64.wrap ((j:Int)+1),())=_∧_
     rw[i64_s j (by omega)]
     exact ha _ ⟨j+1,by omega,rfl⟩ (by show _ - ((j+1:Nat):Int).toNat<_ - ((j:Nat):Int).toNat; omega)
    ·rw[cnd_n (decide_eq_false h1)]; exact fin
   ·have:j=l.length:=by omega
    subst this
    rw[zax]; exact fin
theorem r_table12{l:List zad}(hl:l.length≤9223372036854775807):∃t,zjo l=some t:=by
 show ∃t,zhg stdW l=some t
 unfold zhg
 rw[join_w]
 refine loop_P (fun o=>∃t,o=some t) (fun z=>l.length+1 - z.2.1.toNat) (fun z=>∃(j:Nat) (acc:List zad),j≤l.length∧j≤8∧acc.length≤j∧z=(acc,((j:Int),()))) ⟨0,[],Nat.zero_le _,Nat.zero_le _,Nat.le_refl _,rfl⟩ (by show _ - (0:Int).toNat<_; omega) ?_
 rintro _ ⟨j,acc,hj,hj10,hacc,rfl⟩ again ha
 have fin:∃t,(some acc:Option (List zad))=some t:=⟨acc,rfl⟩
 show ∃t,stdW.cnd (decide ((j:Int)<(l.length:Int))) (stdW.cnd (decide ((j:Int)<8)) _ _) _=some t
 by_cases h:j<l.length
 ·rw[cnd_lt h]
  by_cases h10:j<8
  ·rw[cnd_y (decide_eq_true (by omega)),join_w]
   show ∃t,stdW.idx l (j:Int) _=some t
   rw[idx_w h]
   obtain⟨r,e,hp,hr⟩:=r_put12 (l:=acc) (i:=l[j]) (by omega)
   have nxt:∀a:List zad,a.length≤j+1→∃t,again (a,(IntKind.i64.wrap ((j:Int)+1),()))=some t:=by
    intro a h1
    rw[i64_s j (by omega)]
    exact ha _ ⟨j+1,a,by omega,by omega,h1,rfl⟩ (by show _ - ((j+1:Nat):Int).toNat<_ - ((j:Nat):Int).toNat; omega)
   show ∃t,stdW.call (zql acc l[j]) _=some t
   rw[zac hp]
   exact ex_cnd (nxt r (by omega)) (nxt acc (by omega))
  ·rw[cnd_n (decide_eq_false (by omega))]; exact fin
 ·have:j=l.length:=by omega
  subst this
  rw[zax]; exact fin
def few26(l:List AHold'):List AHold':=(l.take 10).map fun h=>((h.1,(h.2.1.take 20,())):AHold')
theorem r_few18{l:List ALot'}(hl:l.length≤9223372036854775807):zzf l=some (l.take 20):=by
 show znr stdW l=_
 unfold znr
 by_cases h:20<l.length
 ·rw[cnd_y (decide_eq_true (by omega)),bnd_w (by omega) (by omega)]; rfl
 ·rw[cnd_n (decide_eq_false (by omega)),List.take_of_length_le (by omega)]
theorem r_few26{l:List AHold'}(hl:l.length≤9223372036854775807)(hm:∀h∈l,h.2.1.length≤9223372036854775807):zmd l=some (few26 l):=by
 show znq stdW l=_
 unfold znq
 rw[join_w]
 have hm':∀i (h:i<l.length),l[i].2.1.length≤9223372036854775807:=fun i h=>hm _ (List.getElem_mem h)
 refine(zga (fun z=>l.length+1 - z.1.toNat) (fun z=>∃j:Nat,j≤l.length∧j≤10∧z=((j:Int),(few26 (l.take j),()))) (fun _=>some (few26 l)) ⟨0,Nat.zero_le _,Nat.zero_le _,rfl⟩ (by show _ - (0:Int).toNat<_; omega) ?_)
 rintro _ ⟨j,hj,hj10,rfl⟩ again ha
 have ft:few26 (l.take j)=(l.take j).map fun h=>((h.1,(h.2.1.take 20,())):AHold'):=by
  unfold few26; rw[List.take_take,Nat.min_eq_right hj10]
 show stdW.cnd (decide ((j:Int)<(l.length:Int))) (stdW.cnd (decide ((j:Int)<10)) _ _) _=_
 by_cases h:j<l.length
 ·rw[cnd_lt h]
  by_cases h10:j<10
  ·have ft1:few26 (l.take (j+1))=few26 (l.take j)++[(l[j].1,(l[j].2.1.take 20,()))]:=by
    unfold few26; rw[List.take_take,List.take_take,Nat.min_eq_right hj10,Nat.min_eq_right (by omega),List.take_succ_eq_append_getElem h,List.map_append]; rfl
   have hlen:(few26 (l.take j)).length≤10:=by rw[ft,List.length_map,List.length_take]; omega
   rw[cnd_y (decide_eq_true (by omega))]
   show stdW.idx l (j:Int) _=_
   rw[idx_w h,idx_w h,zac (r_few18 (hm' j h))]
   show stdW.room ((few26 (l.take j)).length+1) 40 (again (IntKind.i64.wrap ((j:Int)+1),(few26 (l.take j)++[(l[j].1,(l[j].2.1.take 20,()))],())))=_
   rw[room_w (by omega) (by omega),←ft1,i64_s j (by omega)]
   exact ha _ ⟨j+1,by omega,by omega,rfl⟩ (by show _ - ((j+1:Nat):Int).toNat<_ - ((j:Nat):Int).toNat; omega)
  ·rw[cnd_n (decide_eq_false (by omega))]
   show some (few26 (l.take j))=_
   have:j=10:=by omega
   subst this
   unfold few26; rw[List.take_take,Nat.min_self]
 ·have:j=l.length:=by omega
  subst this
  rw[zax,List.take_length]
def ydx(a:zaa):zaa:=(a.1,(a.2.1,(a.2.2.1,(a.2.2.2.1.take 20,()))))
theorem r_short{a:zaa}(hl:a.2.2.2.1.length≤9223372036854775807):zow (a.1,(a.2.1,(a.2.2.1,(a.2.2.2.1,()))))=some (ydx a):=by
 show zhl stdW a=_
 unfold zhl
 refine join_g fun k hk=>?_
 have kk:∀x:zaa,k x=some x:=by intro x; subst hk; rfl
 clear hk
 by_cases h:20<a.2.2.2.1.length
 ·rw[cnd_y (decide_eq_true (by omega)),bnd_w (by omega) (by omega),kk]; rfl
 ·rw[cnd_n (decide_eq_false (by omega)),kk]
  unfold ydx
  rw[List.take_of_length_le (by omega)]
theorem r_few31{s:zba}(h1:s.2.2.2.1.length≤9223372036854775807)(h2:s.2.2.2.2.1.length≤9223372036854775807)(h3:∀a∈s.2.2.2.2.1,a.2.2.2.1.length≤9223372036854775807)(h4:(pu s).length≤9223372036854775807)(h5:(ho s).length≤9223372036854775807)(h6:∀h∈ho s,h.2.1.length≤9223372036854775807):
  ∃as_ ac,zre s=some (0,([],([],(as_,(ac,([],([],([],([],([],((pu s).take 20,(few26 (ho s),()))))))))))))∧(∀a∈ac,a.2.2.2.1.length≤20)∧ac.length≤20∧(ac.map (·.1)).Nodup:=by
 show ∃as_ ac,znp stdW s=_∧_
 unfold znp
 rw[join_w]
 obtain⟨t12,e12⟩:=r_table12 h1
 have e17:zme s.2.2.2.2.2.2.2.2.2.2.1=some ((pu s).take 20):=r_few17 _ h4
 have e26:zmd s.2.2.2.2.2.2.2.2.2.2.2.1=some (few26 (ho s)):=r_few26 h5 h6
 have h3':∀i (h:i<s.2.2.2.2.1.length),s.2.2.2.2.1[i].2.2.2.1.length≤9223372036854775807:=fun i h=>h3 _ (List.getElem_mem h)
 generalize s.2.2.2.2.1=l at*
 refine loop_P (fun o=>∃(as_:List zad) (ac:List zaa),o=some (0,([],([],(as_,(ac,([],([],([],([],([],((pu s).take 20,(few26 (ho s),()))))))))))))∧(∀a∈ac,a.2.2.2.1.length≤20)∧ac.length≤20∧(ac.map (·.1)).Nodup) (fun z=>l.length+1 - z.1.toNat)
  (fun z=>∃(j:Nat) (acc:List zaa),j≤l.length∧j≤20∧acc.length≤j∧(∀a∈acc,a.2.2.2.1.length≤20)∧z=((j:Int),(acc,()))) ⟨0,[],Nat.zero_le _,Nat.zero_le _,Nat.le_refl _,by simp,rfl⟩ (by show _ - (0:Int).toNat<_; omega) ?_
 rintro _ ⟨j,acc,hj,hj20,hacc,hok,rfl⟩ again ha
 have fin:∃(as_:List zad) (ac:List zaa),(stdW.call (zjo s.2.2.2.1) fun v2=>stdW.call (zjm acc) fun v3=>stdW.call (zme s.2.2.2.2.2.2.2.2.2.2.1) fun v4=>stdW.call (zmd s.2.2.2.2.2.2.2.2.2.2.2.1) fun v5=>some (0,([],([],(v2,(v3,([],([],([],([],([],(v4,(v5,())))))))))))))=some ((0,([],([],(as_,(ac,([],([],([],([],([],((pu s).take 20,(few26 (ho s),())))))))))))):zba)∧(∀a∈ac,a.2.2.2.1.length≤20)∧ac.length≤20∧(ac.map (·.1)).Nodup:=by
  obtain⟨t15,e15,g1,g2,g3⟩:=r_table15 (l:=acc) (fun x hx=>by have:=hok x hx; omega) (by omega)
  rw[zac e12,zac e15,zac e17,zac e26]
  exact⟨t12,t15,rfl,fun a ha=>hok a (g1 a ha),g2,g3⟩
 show ∃as_ ac,stdW.cnd (decide ((j:Int)<(l.length:Int))) (stdW.cnd (decide ((j:Int)<20)) _ _) _=_∧_
 by_cases h:j<l.length
 ·rw[cnd_lt h]
  by_cases h20:j<20
  ·rw[cnd_y (decide_eq_true (by omega))]
   show ∃as_ ac,stdW.idx l (j:Int) _=_∧_
   rw[idx_w h,zac (r_short (h3' j h))]
   show ∃as_ ac,stdW.room (acc.length+1) 48 (again (IntKind.i64.wrap ((j:Int)+1),(acc++[ydx l[j]],())))=_∧_
   rw[room_w (by omega) (by omega),i64_s j (by omega)]
   refine ha _ ⟨j+1,acc++[ydx l[j]],by omega,by omega,by simp; omega,fun a hm=>?_,rfl⟩ (by show _ - ((j+1:Nat):Int).toNat<_ - ((j:Nat):Int).toNat; omega)
   rcases List.mem_append.1 hm with hm|hm
   ·exact hok a hm
   ·simp only[List.mem_singleton]at hm; subst hm
    show (l[j].2.2.2.1.take 20).length≤20
    rw[List.length_take]; omega
  ·rw[cnd_n (decide_eq_false (by omega))]; exact fin
 ·have:j=l.length:=by omega
  subst this
  rw[zax]; exact fin
end Go.Proofs.YtbpbkmngbhgpfaaGreat

namespace Go.Proofs.YtbpbkmngbhgpfaaGreat
open Go Go.Vc Go.RowKit
set_option maxRecDepth 100000
set_option synthInstance.maxSize 100000
set_option synthInstance.maxHeartbeats 0
def bothE{β:Type}[DecidableEq β](a b:Option β):Option β:=if a=b then a else none
def nilqE{β:Type}[DecidableEq β](e:Bool)(f:Bool→Option β):Option β:=bif e then bothE (f true) (f false) else f false
noncomputable def stdN(n:Nat):Wd where
 cnd:=fun c a b=>bif c then a else b
 idx:=idxF
 nth:=idxR
 bnd:=bndF
 nz:=nzF
 nn:=nnF
 room:=roomF
 str:=strF
 join:=joinF
 loop:=loopF n
 both:=bothF
 call:=Option.bind
 nilq:=nilF
 sidx:=sidxF
 next:=nextF
noncomputable def kE:Wd:=stdN 18446744073709551616
theorem stdW_e:stdW=kE:=by
 show stdN FU=stdN 18446744073709551616
 rw[FU_eq]
theorem zkp{β:Type}[DecidableEq β](a b:Option β):bothE a b=kE.both a b:=by
 show bothE a b=bothF a b
 by_cases h:a=b<;>simp[bothE,bothF,h]
theorem znk{β:Type}[DecidableEq β](e:Bool)(f:Bool→Option β):nilqE e f=kE.nilq e f:=by
 show nilqE e f=nilF e f
 unfold nilqE nilF
 rw[show ∀a b:Option β,bothE a b=bothF a b from zkp]
noncomputable def zdg(s:List Int):Option (List Int):=
nilqE (List.isEmpty s) fun g1=>
 kE.cnd (Go.Vc.notIf false g1) (some [])
 (kE.room ((0:Nat)+s.length) 8 (some ([]++s)))
theorem zlm:@zcf=@zdg:=by
 unfold zcf zbz zdg; rw[stdW_e]
 simp only[zkp,znk]
 all_goals rfl
noncomputable def ydg(a:zaa):Option zaa:=
kE.call (zdg a.2.2.2.1) fun v1=>some (a.1,(a.2.1,(a.2.2.1,(v1,()))))
theorem acct_own_e:@zoc=@ydg:=by
 unfold zoc zmt; rw[stdW_e,zlm]
 all_goals rfl
noncomputable def zsm(l:List zaa):Option (List zaa):=
 kE.loop (fun (z1:Int×List (Int×Int×Int×List (Int)×Unit)×Unit) again2=>
 kE.cnd (decide (z1.1<(l.length:Int))) (kE.idx l z1.1 fun x3=>kE.call (ydg (x3.1,(x3.2.1,(x3.2.2.1,(x3.2.2.2.1,()))))) fun v4=>kE.room (z1.2.1.length+((v4.1,(v4.2.1,(v4.2.2.1,(v4.2.2.2.1,()))))::[]).length) 48 ((again2 ((IntKind.i64.wrap (z1.1+1)),((z1.2.1++((v4.1,(v4.2.1,(v4.2.2.1,(v4.2.2.2.1,()))))::[])),())))))
  (some z1.2.1))
 (0,([],()))
theorem ygd:@zgv=@zsm:=by
 unfold zgv zfu; rw[stdW_e,acct_own_e]
 all_goals rfl
noncomputable def zpi(a:zaa)(free10:Int):Option (Bool×(Int×Unit)):=
some ((a.2.1 != free10),(free10,()))
theorem yai:@zmu=@zpi:=rfl
noncomputable def zbf(s:List zaa)(f0_0:Int):Option (Int×(Int×Unit)):=
 kE.loop (fun (z1:Int×Int×Unit) again2=>
 kE.cnd (decide (z1.1<(s.length:Int))) (kE.idx s z1.1 fun x3=>kE.call (zpi (x3.1,(x3.2.1,(x3.2.2.1,(x3.2.2.2.1,())))) z1.2.1) fun v4=>
  kE.cnd v4.1 (some (z1.1,v4.2))
  ((again2 ((IntKind.i64.wrap (z1.1+1)),v4.2))))
  (some ((-1),z1.2)))
 (0,(f0_0,()))
theorem zce:@zah=@zbf:=by
 unfold zah zaf; rw[stdW_e,yai]
 all_goals rfl
noncomputable def zbd(del0_0:Int)(s:List zaa):Option ((List zaa)×(Int×Unit)):=
kE.call (zbf s del0_0) fun v1=>
 kE.cnd (v1.1==(-1)) (some (s,v1.2))
 (
 kE.loop (fun (z2:Int×Int×Int×List (Int×Int×Int×List (Int)×Unit)×Unit) again3=>
  kE.cnd (decide (z2.2.1<(z2.2.2.2.1.length:Int))) (
  kE.join (fun (z4:Int×Int×List (Int×Int×Int×List (Int)×Unit)×Unit)=>(again3 (z4.1,((IntKind.i64.wrap (z2.2.1+1)),(z4.2.1,(z4.2.2.1,()))))))
   fun k5=>kE.idx z2.2.2.2.1 z2.2.1 fun x6=>kE.nth z2.2.2.2.1 (Int.toNat z2.2.1) fun x7=>kE.call (zpi (x7.1,(x7.2.1,(x7.2.2.1,(x7.2.2.2.1,())))) z2.2.2.1) fun v8=>
   kE.cnd (!v8.1) (kE.idx z2.2.2.2.1 z2.1 fun x9=>kE.nth z2.2.2.2.1 (Int.toNat z2.1) fun x10=>(k5 ((IntKind.i64.wrap (z2.1+1)),(v8.2.1,((List.set z2.2.2.2.1 (Int.toNat z2.1) (x7.1,(x7.2.1,(x7.2.2.1,(x7.2.2.2.1,()))))),())))))
   ((k5 (z2.1,(v8.2.1,(z2.2.2.2.1,()))))))
  (kE.bnd z2.1 z2.2.2.2.1.length fun h11=>kE.bnd (h11:Int) z2.2.2.2.1.length fun h12=>kE.bnd z2.1 ((z2.2.2.2.1.take h12)++(List.replicate (z2.2.2.2.1.length - h12) (0,(0,(0,([],())))))).length fun h13=>some ((((z2.2.2.2.1.take h12)++(List.replicate (z2.2.2.2.1.length - h12) (0,(0,(0,([],())))))).take h13),(z2.2.2.1,()))))
  (v1.1,((IntKind.i64.wrap (v1.1+1)),(v1.2.1,(s,())))))
theorem zcc:@zal=@zbd:=by
 unfold zal zaj; rw[stdW_e,yai,zce]
 all_goals rfl
noncomputable def yjg(l:List zaa)(member:Int):Option (List zaa):=
kE.call (zsm l) fun v1=>kE.call (zbd member v1) fun v2=>some v2.1
theorem acct_Of_e:@zul=@yjg:=by
 unfold zul zsn; rw[stdW_e,ygd,zcc]
 all_goals rfl
noncomputable def zvp(a:zaa):Option (List AUnit'):=
 kE.cnd (a.2.2.1==1) (some ((a.1,(0,()))::[]))
 (
 kE.loop (fun (z1:Int×List (Int×Int×Unit)×Unit) again2=>
  kE.cnd (decide (z1.1<(a.2.2.2.1.length:Int))) (kE.idx a.2.2.2.1 z1.1 fun x3=>kE.room (z1.2.1.length+((a.1,(x3,()))::[]).length) 16 ((again2 ((IntKind.i64.wrap (z1.1+1)),((z1.2.1++((a.1,(x3,()))::[])),())))))
  (some z1.2.1))
  (0,([],())))
theorem yje:@ziy=@zvp:=by
 unfold ziy zgw; rw[stdW_e]
 all_goals rfl
noncomputable def zyj(l:List AFlow')(u:AUnit'):Option Int:=
 kE.loop (fun (z1:Int×Unit) again2=>
 kE.cnd (decide (z1.1<(l.length:Int))) (kE.idx l z1.1 fun x3=>
  kE.cnd (Go.Vc.notIf false ((x3.1.1==u.1)&&(x3.1.2.1==u.2.1))) (some x3.2.1)
  ((again2 ((IntKind.i64.wrap (z1.1+1)),()))))
  (some 0))
 (0,())
theorem ykd:@zii=@zyj:=by
 unfold zii zih; rw[stdW_e]
 all_goals rfl
noncomputable def zao(s:List zad):Option (List zad):=
nilqE (List.isEmpty s) fun g1=>
 kE.cnd (Go.Vc.notIf false g1) (some [])
 (kE.room ((0:Nat)+s.length) 24 (some ([]++s)))
theorem zcw:@zak=@zao:=by
 unfold zak zaz zao; rw[stdW_e]
 simp only[zkp,znk]
 all_goals rfl
noncomputable def zzk(l:List AHold')(u:AUnit'):Option (List zad):=
 kE.loop (fun (z1:Int×Unit) again2=>
 kE.cnd (decide (z1.1<(l.length:Int))) (kE.idx l z1.1 fun x3=>
  kE.cnd (Go.Vc.notIf false ((x3.1.1==u.1)&&(x3.1.2.1==u.2.1))) (kE.call (zao x3.2.1) fun v4=>some v4)
  ((again2 ((IntKind.i64.wrap (z1.1+1)),()))))
  (some []))
 (0,())
theorem yks:@zir=@zzk:=by
 unfold zir ziq; rw[stdW_e,zcw]
 all_goals rfl
noncomputable def ygv(s:zba)(u:AUnit'):Option zam:=
kE.call (zyj s.2.2.2.2.2.2.2.2.2.2.1 u) fun v1=>kE.call (zzk s.2.2.2.2.2.2.2.2.2.2.2.1 u) fun v2=>some (u,((if v1>0 then v1 else 0),(v2,())))
theorem rest_Of_e:@zon=@ygv:=by
 unfold zon zqd; rw[stdW_e,yks,ykd]
 all_goals rfl
noncomputable def zfb(a:AUnit')(b:AUnit'):Option Bool:=
 kE.cnd (a.1 != b.1) (some (decide (a.1<b.1)))
 (some (decide (a.2.1<b.2.1)))
theorem zpj:@zea=@zfb:=by
 unfold zea ziz; rw[stdW_e]
 all_goals rfl
noncomputable def zto(l:List AFlow'):Option Bool:=
 kE.loop (fun (z1:Int×Unit) again2=>
 kE.cnd (decide (z1.1<(l.length:Int))) (kE.idx l z1.1 fun x3=>
  kE.join (fun (z4:Bool×Unit)=>
  kE.cnd z4.1 (some false)
   ((again2 ((IntKind.i64.wrap (z1.1+1)),()))))
  fun k5=>
  kE.cnd (x3.2.1==0) ((k5 (true,())))
   (
   kE.cnd (decide (0<z1.1)) (kE.idx l (IntKind.i64.wrap (z1.1 - 1)) fun x6=>kE.call (zfb x6.1 x3.1) fun v7=>(k5 ((!v7),())))
   ((k5 (false,())))))
  (some true))
 (0,())
theorem ybz:@zjs=@zto:=by
 unfold zjs zlu; rw[stdW_e,zpj]
 all_goals rfl
noncomputable def zlt(l:List AFlow')(u:AUnit'):Option (List Int):=
 kE.loop (fun (z1:Int×List (Int)×Unit) again2=>
 kE.cnd (decide (z1.1<(l.length:Int))) (
  kE.join (fun (z3:List (Int)×Unit)=>(again2 ((IntKind.i64.wrap (z1.1+1)),(z3.1,()))))
  fun k4=>kE.idx l z1.1 fun x5=>
  kE.cnd (Go.Vc.notIf false ((x5.1.1==u.1)&&(x5.1.2.1==u.2.1))) (kE.room (z1.2.1.length+(x5.2.1::[]).length) 8 ((k4 ((z1.2.1++(x5.2.1::[])),()))))
   ((k4 (z1.2.1,()))))
  (some z1.2.1))
 (0,([],()))
theorem zye:@zem=@zlt:=by
 unfold zem zdy; rw[stdW_e]
 all_goals rfl
noncomputable def zlb(n:Int):Option zag:=
kE.nn 63 (some ((Int.fdiv n (2 ^ (Min.min (Int.toNat 63) (Go.IntKind.bits Go.IntKind.i64)))),((IntKind.u64.wrap n),())))
theorem zwy:@zlc=@zlb:=by
 unfold zlc zpr; rw[stdW_e]
 all_goals rfl
noncomputable def zkw(w:zag)(t0:Int)(t1:Int)(t2:Int):Option (Unit×(Int×Int×Int×Unit)):=
kE.call (add64 t2 w.2.1 0) fun v1=>kE.call (add64 (IntKind.u64.wrap t1) (IntKind.u64.wrap w.1) v1.2.1) fun v2=>kE.nn 63 (some ((),((IntKind.i64.wrap (t0+(IntKind.i64.wrap ((Int.fdiv w.1 (2 ^ (Min.min (Int.toNat 63) (Go.IntKind.bits Go.IntKind.i64))))+(IntKind.i64.wrap v2.2.1))))),((IntKind.i64.wrap v2.1),(v1.1,())))))
theorem zvr:@zdu=@zkw:=by
 unfold zdu zdd; rw[stdW_e]
 all_goals rfl
noncomputable def zpp(w:zag)(ok:Bool):Option (zag×Int×Unit):=
 kE.cnd (!ok) (some ((0,(0,())),(7,())))
 (some (w,(0,())))
theorem ydl:@zgf=@zpp:=by
 unfold zgf zfe; rw[stdW_e]
 all_goals rfl
noncomputable def zhw(t0:Int)(t1:Int)(t2:Int):Option ((zag×Int×Unit)×(Int×Int×Int×Unit)):=
kE.nn 63 (kE.call (zpp (t1,(t2,())) (t0==(Int.fdiv t1 (2 ^ (Min.min (Int.toNat 63) (Go.IntKind.bits Go.IntKind.i64)))))) fun v1=>some (v1,(t0,(t1,(t2,())))))
theorem zss:@zdc=@zhw:=by
 unfold zdc zcv; rw[stdW_e,ydl]
 all_goals rfl
noncomputable def ybk(l:List zag):Option (zag×Int×Unit):=
 kE.loop (fun (z1:Int×Int×Int×Int×Unit) again2=>
 kE.cnd (decide (z1.1<(l.length:Int))) (kE.idx l z1.1 fun x3=>kE.call (zkw x3 z1.2.1 z1.2.2.1 z1.2.2.2.1) fun v4=>(again2 ((IntKind.i64.wrap (z1.1+1)),v4.2)))
  (kE.call (zhw z1.2.1 z1.2.2.1 z1.2.2.2.1) fun v5=>some v5.1))
 (0,(0,(0,(0,()))))
theorem wide_Add_e:@zmy=@ybk:=by
 unfold zmy zle; rw[stdW_e,zvr,zss]
 all_goals rfl
noncomputable def zta(w:zag):Option (Int×Int×Unit):=
kE.call (zlb (IntKind.i64.wrap w.2.1)) fun v1=>
 kE.cnd (Go.Vc.notIf true ((v1.1==w.1)&&(v1.2.1==w.2.1))) (some (0,(7,())))
 (some ((IntKind.i64.wrap w.2.1),(0,())))
theorem ybi:@zmx=@zta:=by
 unfold zmx zld; rw[stdW_e,zwy]
 all_goals rfl
noncomputable def zvh(w:zag)(e:Int):Option (Int×Int×Unit):=
 kE.cnd (e != 0) (some (0,(e,())))
 (kE.call (zta w) fun v1=>some v1)
theorem yiq:@zit=@zvh:=by
 unfold zit zgq; rw[stdW_e,ybi]
 all_goals rfl
noncomputable def zrr(l:List Int):Option (Int×Int×Unit):=
kE.nn (l.length:Int) (kE.room (Int.toNat (l.length:Int)) 16 (
 kE.loop (fun (z1:Int×List (Int×Int×Unit)×Unit) again2=>
 kE.cnd (decide (z1.1<(l.length:Int))) (kE.idx l z1.1 fun x3=>kE.call (zlb x3) fun v4=>kE.room (z1.2.1.length+(v4::[]).length) 16 ((again2 ((IntKind.i64.wrap (z1.1+1)),((z1.2.1++(v4::[])),())))))
  (kE.call (ybk z1.2.1) fun v5=>kE.call (zvh v5.1 v5.2.1) fun v6=>some v6))
 (0,([],()))))
theorem zzv:@zmj=@zrr:=by
 unfold zmj zrs; rw[stdW_e,yiq,wide_Add_e,zwy]
 all_goals rfl
noncomputable def zyg(l:List AFlow')(flows:List AFlow'):Option ((List AFlow')×Int×Unit):=
kE.call (zto l) fun v1=>
 kE.cnd (!v1) (some ([],(3,())))
 (kE.call (zpa (l::(flows::[]))) fun v2=>kE.call (namedO v2) fun v3=>
 kE.loop (fun (z4:Int×List (Int×Int×Unit)×List ((Int×Int×Unit)×Int×Unit)×Unit) again5=>
  kE.cnd (decide (z4.1<(v3.length:Int))) (
  kE.join (fun (z6:List (Int×Int×Unit)×List ((Int×Int×Unit)×Int×Unit)×Unit)=>(again5 ((IntKind.i64.wrap (z4.1+1)),(z6.1,(z6.2.1,())))))
   fun k7=>kE.idx z4.2.1 z4.1 fun x8=>kE.nth z4.2.1 (Int.toNat z4.1) fun x9=>kE.call (zlt v2 x9) fun v10=>kE.call (zrr v10) fun v11=>
   kE.cnd (v11.2.1 != 0) (some ([],v11.2))
   (
   kE.cnd (v11.1 != 0) (kE.room (z4.2.2.1.length+((x9,(v11.1,()))::[]).length) 24 ((k7 (z4.2.1,((z4.2.2.1++((x9,(v11.1,()))::[])),())))))
    ((k7 (z4.2.1,(z4.2.2.1,()))))))
  (some (z4.2.2.1,(0,()))))
  (0,(v3,([],()))))
theorem ykc:@zfn=@zyg:=by
 unfold zfn zig; rw[stdW_e,zzv,ybz,zye]
 all_goals rfl
noncomputable def zvc(x:zad):Option Bool:=
 kE.cnd (decide (1≤x.1)) (
 kE.cnd (decide (x.1≤4)) (
  kE.cnd (decide (0≤x.2.1)) (
  kE.cnd (decide (x.2.1≤255)) (some (decide (0<x.2.2.1)))
   (some false))
  (some false))
  (some false))
 (some false)
theorem yhv:@zio=@zvc:=by
 unfold zio zgm; rw[stdW_e]
 all_goals rfl
noncomputable def zpb(x:Int):Option Bool:=
some (x != x)
theorem ylb:@zmn=@zpb:=rfl
noncomputable def zkg(x:Int)(y:Int):Option Int:=
kE.call (zpb x) fun v1=>kE.call (zpb y) fun v2=>
 kE.cnd v1 (
 kE.cnd v2 (some 0)
  (some (-1)))
 (
 kE.cnd v2 (some 1)
  (
  kE.cnd (decide (x<y)) (some (-1))
  (
  kE.cnd (decide (y<x)) (some 1)
   (some 0))))
theorem yfs:@zey=@zkg:=by
 unfold zey zft; rw[stdW_e,ylb]
 all_goals rfl
noncomputable def ynd(vals:List Int):Option Int:=
 kE.loop (fun (z1:Int×Unit) again2=>
 kE.cnd (decide (z1.1<(vals.length:Int))) (kE.idx vals z1.1 fun x3=>
  kE.cnd (x3 != 0) (some x3)
  ((again2 ((IntKind.i64.wrap (z1.1+1)),()))))
  (some 0))
 (0,())
theorem cmp_Or_e:@cmp_Or=@ynd:=by
 unfold cmp_Or zzz; rw[stdW_e]
 all_goals rfl
noncomputable def zly(a:zad)(b:zad):Option Int:=
kE.call (zkg a.1 b.1) fun v1=>kE.call (zkg a.2.1 b.2.1) fun v2=>kE.call (ynd (v1::(v2::[]))) fun v3=>some v3
theorem yhw:@zge=@zly:=by
 unfold zge zgn; rw[stdW_e,yfs,cmp_Or_e]
 all_goals rfl
noncomputable def zlz(l:List zad):Option Bool:=
 kE.loop (fun (z1:Int×Unit) again2=>
 kE.cnd (decide (z1.1<(l.length:Int))) (kE.idx l z1.1 fun x3=>
  kE.join (fun (z4:Bool×Unit)=>
  kE.cnd z4.1 (some false)
   ((again2 ((IntKind.i64.wrap (z1.1+1)),()))))
  fun k5=>kE.call (zvc x3) fun v6=>
  kE.cnd (!v6) (bothE ((k5 (true,()))) ((k5 (true,()))))
   (
   kE.cnd (decide (0<z1.1)) (kE.idx l (IntKind.i64.wrap (z1.1 - 1)) fun x7=>bothE (kE.call (zly x7 x3) fun v8=>(k5 ((decide (0≤v8)),()))) (kE.call (zly x7 x3) fun v9=>(k5 ((decide (0≤v9)),()))))
   (bothE ((k5 (false,()))) ((k5 (false,()))))))
  (some (decide ((l.length:Int)≤16))))
 (0,())
theorem zyu:@zma=@zlz:=by
 unfold zma zjw zlz; rw[stdW_e,yhw,yhv]
 simp only[zkp,znk]
 all_goals rfl
noncomputable def zrl(l:List AHold'):Option Bool:=
 kE.loop (fun (z1:Int×Unit) again2=>
 kE.cnd (decide (z1.1<(l.length:Int))) (kE.idx l z1.1 fun x3=>
  kE.join (fun (z4:Bool×Unit)=>
  kE.cnd z4.1 (some false)
   ((again2 ((IntKind.i64.wrap (z1.1+1)),()))))
  fun k5=>
  kE.cnd ((x3.2.1.length:Int)==0) (bothE ((k5 (true,()))) ((k5 (true,()))))
   (kE.call (zlz x3.2.1) fun v6=>
   kE.cnd (!v6) (bothE ((k5 (true,()))) ((k5 (true,()))))
   (
   kE.cnd (decide (0<z1.1)) (kE.idx l (IntKind.i64.wrap (z1.1 - 1)) fun x7=>bothE (kE.call (zfb x7.1 x3.1) fun v8=>(k5 ((!v8),()))) (kE.call (zfb x7.1 x3.1) fun v9=>(k5 ((!v9),()))))
    (bothE ((k5 (false,()))) ((k5 (false,())))))))
  (some true))
 (0,())
theorem yij:@zox=@zrl:=by
 unfold zox zrm zrl; rw[stdW_e,zpj,zyu]
 simp only[zkp,znk]
 all_goals rfl
noncomputable def zue(l:List AHold')(u:AUnit')(all:List zad):Option (List AHold'):=
bothE (kE.call (zao all) fun v1=>
 kE.loop (fun (z2:Bool×Int×Int×Int×List (Int×Int×Int×Unit)×List ((Int×Int×Unit)×List (Int×Int×Int×Unit)×Unit)×Unit) again3=>
  kE.cnd (decide (z2.2.1<(l.length:Int))) (
  kE.join (fun (z4:Bool×List ((Int×Int×Unit)×List (Int×Int×Int×Unit)×Unit)×Unit)=>(again3 (z4.1,((IntKind.i64.wrap (z2.2.1+1)),(z2.2.2.1,(z2.2.2.2.1,(z2.2.2.2.2.1,(z4.2.1,()))))))))
   fun k5=>kE.idx l z2.2.1 fun x6=>
   kE.join (fun (z7:Bool×List ((Int×Int×Unit)×List (Int×Int×Int×Unit)×Unit)×Unit)=>
   kE.cnd (Go.Vc.notIf true ((x6.1.1==u.1)&&(x6.1.2.1==u.2.1))) (kE.call (zao x6.2.1) fun v8=>kE.room (z7.2.1.length+((x6.1,(v8,()))::[]).length) 40 ((k5 (z7.1,((z7.2.1++((x6.1,(v8,()))::[])),())))))
    (
    kE.cnd (!z7.1) (kE.room (z7.2.1.length+(((z2.2.2.1,(z2.2.2.2.1,())),(z2.2.2.2.2.1,()))::[]).length) 40 ((k5 (true,((z7.2.1++(((z2.2.2.1,(z2.2.2.2.1,())),(z2.2.2.2.2.1,()))::[])),())))))
    ((k5 (z7.1,(z7.2.1,()))))))
   fun k9=>
   kE.join (fun (z10:Bool×List ((Int×Int×Unit)×List (Int×Int×Int×Unit)×Unit)×Unit)=>
    kE.cnd z10.1 (kE.room (z10.2.1.length+(((z2.2.2.1,(z2.2.2.2.1,())),(z2.2.2.2.2.1,()))::[]).length) 40 ((k9 (true,((z10.2.1++(((z2.2.2.1,(z2.2.2.2.1,())),(z2.2.2.2.2.1,()))::[])),())))))
    ((k9 (z2.1,(z10.2.1,())))))
    fun k11=>
    kE.cnd (!z2.1) (kE.call (zfb u x6.1) fun v12=>(k11 (v12,(z2.2.2.2.2.2.1,()))))
    ((k11 (false,(z2.2.2.2.2.2.1,())))))
  (
  kE.join (fun (z13:List ((Int×Int×Unit)×List (Int×Int×Int×Unit)×Unit)×Unit)=>some z13.1)
   fun k14=>
   kE.cnd (!z2.1) (kE.room (z2.2.2.2.2.2.1.length+(((z2.2.2.1,(z2.2.2.2.1,())),(z2.2.2.2.2.1,()))::[]).length) 40 ((k14 ((z2.2.2.2.2.2.1++(((z2.2.2.1,(z2.2.2.2.1,())),(z2.2.2.2.2.1,()))::[])),()))))
   ((k14 (z2.2.2.2.2.2.1,())))))
  (((all.length:Int)==0),(0,(u.1,(u.2.1,(v1,([],()))))))) (kE.call (zao all) fun v15=>
 kE.loop (fun (z16:Bool×Int×Int×Int×List (Int×Int×Int×Unit)×List ((Int×Int×Unit)×List (Int×Int×Int×Unit)×Unit)×Unit) again17=>
  kE.cnd (decide (z16.2.1<(l.length:Int))) (
  kE.join (fun (z18:Bool×List ((Int×Int×Unit)×List (Int×Int×Int×Unit)×Unit)×Unit)=>(again17 (z18.1,((IntKind.i64.wrap (z16.2.1+1)),(z16.2.2.1,(z16.2.2.2.1,(z16.2.2.2.2.1,(z18.2.1,()))))))))
   fun k19=>kE.idx l z16.2.1 fun x20=>
   kE.join (fun (z21:Bool×List ((Int×Int×Unit)×List (Int×Int×Int×Unit)×Unit)×Unit)=>
   kE.cnd (Go.Vc.notIf true ((x20.1.1==u.1)&&(x20.1.2.1==u.2.1))) (kE.call (zao x20.2.1) fun v22=>kE.room (z21.2.1.length+((x20.1,(v22,()))::[]).length) 40 ((k19 (z21.1,((z21.2.1++((x20.1,(v22,()))::[])),())))))
    (
    kE.cnd (!z21.1) (kE.room (z21.2.1.length+(((z16.2.2.1,(z16.2.2.2.1,())),(z16.2.2.2.2.1,()))::[]).length) 40 ((k19 (true,((z21.2.1++(((z16.2.2.1,(z16.2.2.2.1,())),(z16.2.2.2.2.1,()))::[])),())))))
    ((k19 (z21.1,(z21.2.1,()))))))
   fun k23=>
   kE.join (fun (z24:Bool×List ((Int×Int×Unit)×List (Int×Int×Int×Unit)×Unit)×Unit)=>
    kE.cnd z24.1 (kE.room (z24.2.1.length+(((z16.2.2.1,(z16.2.2.2.1,())),(z16.2.2.2.2.1,()))::[]).length) 40 ((k23 (true,((z24.2.1++(((z16.2.2.1,(z16.2.2.2.1,())),(z16.2.2.2.2.1,()))::[])),())))))
    ((k23 (z16.1,(z24.2.1,())))))
    fun k25=>
    kE.cnd (!z16.1) (kE.call (zfb u x20.1) fun v26=>(k25 (v26,(z16.2.2.2.2.2.1,()))))
    ((k25 (false,(z16.2.2.2.2.2.1,())))))
  (
  kE.join (fun (z27:List ((Int×Int×Unit)×List (Int×Int×Int×Unit)×Unit)×Unit)=>some z27.1)
   fun k28=>
   kE.cnd (!z16.1) (kE.room (z16.2.2.2.2.2.1.length+(((z16.2.2.1,(z16.2.2.2.1,())),(z16.2.2.2.2.1,()))::[]).length) 40 ((k28 ((z16.2.2.2.2.2.1++(((z16.2.2.1,(z16.2.2.2.1,())),(z16.2.2.2.2.1,()))::[])),()))))
   ((k28 (z16.2.2.2.2.2.1,())))))
  (((all.length:Int)==0),(0,(u.1,(u.2.1,(v15,([],())))))))
theorem hold_set_e:@zrk=@zue:=by
 unfold zrk zmg zue; rw[stdW_e,zpj,zcw]
 simp only[zkp,znk]
 all_goals rfl
noncomputable def zrj(l:List AHold')(u:AUnit')(now:List zad)(e:Int):Option ((List AHold')×Int×Unit):=
kE.call (zrl l) fun v1=>
 kE.cnd (!v1) (some ([],(3,())))
 (
 kE.cnd (e != 0) (some ([],(e,())))
  (kE.call (zue l u now) fun v2=>some (v2,(0,()))))
theorem yfe:@zex=@zrj:=by
 unfold zex zfq; rw[stdW_e,yij,hold_set_e]
 all_goals rfl
noncomputable def yco(l:List AHold')(u:AUnit')(all:List zad):Option ((List AHold')×Int×Unit):=
 kE.join (fun (z1:Int×Unit)=>kE.call (zrj l u all z1.1) fun v2=>some (v2.1,v2.2))
 fun k3=>kE.call (zlz all) fun v4=>
 kE.cnd (!v4) ((k3 (3,())))
  ((k3 (0,())))
theorem hold_Set_e:@zhm=@yco:=by
 unfold zhm zmh; rw[stdW_e,yfe,zyu]
 all_goals rfl
noncomputable def zoe(s:zba)(r:zam):Option (zba×Int×Unit):=
kE.call (zyg s.2.2.2.2.2.2.2.2.2.2.1 ((r.1,((IntKind.i64.wrap (0 - r.2.1)),()))::[])) fun v1=>
 kE.join (fun (z2:Int×Int×List (Int×Int×Int×Int×Unit)×List (Int×Int×Int×Int×List (Int)×Unit)×List (Int×Int×Int×Unit)×List (Int×Int×Int×List (Int)×Unit)×List ((Int×Int×Unit)×(Int×Int×Unit)×Bool×Unit)×List (Int×(Int×Int×Unit)×Int×Int×Int×Unit)×List (Int×(Int×Int×Unit)×(Int×Int×Unit)×(Int×Int×Unit)×Int×Int×Int×Int×Unit)×List ((Int×Int×Unit)×List (Int×Int×Unit)×Unit)×List ((Int×Int×Unit)×List (Int×Int×Unit)×Unit)×List ((Int×Int×Unit)×List (Int×Int×Int×Unit)×Unit)×List ((Int×Int×Unit)×Int×Unit)×Unit)=>some ((z2.2.1,(z2.2.2.1,(z2.2.2.2.1,(z2.2.2.2.2.1,(z2.2.2.2.2.2.1,(z2.2.2.2.2.2.2.1,(z2.2.2.2.2.2.2.2.1,(z2.2.2.2.2.2.2.2.2.1,(z2.2.2.2.2.2.2.2.2.2.1,(z2.2.2.2.2.2.2.2.2.2.2.1,(z2.2.2.2.2.2.2.2.2.2.2.2.2.1,(z2.2.2.2.2.2.2.2.2.2.2.2.1,())))))))))))),(z2.1,())))
 fun k3=>
 kE.cnd (v1.2.1==0) (kE.call (yco s.2.2.2.2.2.2.2.2.2.2.2.1 r.1 []) fun v4=>(k3 (v4.2.1,(s.1,(s.2.1,(s.2.2.1,(s.2.2.2.1,(s.2.2.2.2.1,(s.2.2.2.2.2.1,(s.2.2.2.2.2.2.1,(s.2.2.2.2.2.2.2.1,(s.2.2.2.2.2.2.2.2.1,(s.2.2.2.2.2.2.2.2.2.1,(v4.1,(v1.1,())))))))))))))))
  ((k3 (v1.2.1,(s.1,(s.2.1,(s.2.2.1,(s.2.2.2.1,(s.2.2.2.2.1,(s.2.2.2.2.2.1,(s.2.2.2.2.2.2.1,(s.2.2.2.2.2.2.2.1,(s.2.2.2.2.2.2.2.2.1,(s.2.2.2.2.2.2.2.2.2.1,(s.2.2.2.2.2.2.2.2.2.2.2.1,(v1.1,())))))))))))))))
theorem yan:@zdh=@zoe:=by
 unfold zdh zdp; rw[stdW_e,hold_Set_e,ykc]
 all_goals rfl
noncomputable def zxo(s:zba)(id:Int):Option (zba×(List zam)×Int×Unit):=
 kE.join (fun (z1:Bool×Unit)=>
 kE.cnd z1.1 (some ((0,([],([],([],([],([],([],([],([],([],([],([],())))))))))))),([],(3,()))))
  (kE.call (yjg s.2.2.2.2.1 id) fun v2=>
  kE.loop (fun (z3:Int×Int×List (Int×Int×Int×Int×Unit)×List (Int×Int×Int×Int×List (Int)×Unit)×List (Int×Int×Int×Unit)×List (Int×Int×Int×List (Int)×Unit)×List ((Int×Int×Unit)×(Int×Int×Unit)×Bool×Unit)×List (Int×(Int×Int×Unit)×Int×Int×Int×Unit)×List (Int×(Int×Int×Unit)×(Int×Int×Unit)×(Int×Int×Unit)×Int×Int×Int×Int×Unit)×List ((Int×Int×Unit)×List (Int×Int×Unit)×Unit)×List ((Int×Int×Unit)×List (Int×Int×Unit)×Unit)×List ((Int×Int×Unit)×Int×Unit)×List ((Int×Int×Unit)×List (Int×Int×Int×Unit)×Unit)×List ((Int×Int×Unit)×Int×List (Int×Int×Int×Unit)×Unit)×Unit) again4=>
  kE.cnd (decide (z3.1<(v2.length:Int))) (kE.idx v2 z3.1 fun x5=>kE.call (zvp (x5.1,(x5.2.1,(x5.2.2.1,(x5.2.2.2.1,()))))) fun v6=>
   kE.loop (fun (z7:Int×Int×List (Int×Int×Int×Int×Unit)×List (Int×Int×Int×Int×List (Int)×Unit)×List (Int×Int×Int×Unit)×List (Int×Int×Int×List (Int)×Unit)×List ((Int×Int×Unit)×(Int×Int×Unit)×Bool×Unit)×List (Int×(Int×Int×Unit)×Int×Int×Int×Unit)×List (Int×(Int×Int×Unit)×(Int×Int×Unit)×(Int×Int×Unit)×Int×Int×Int×Int×Unit)×List ((Int×Int×Unit)×List (Int×Int×Unit)×Unit)×List ((Int×Int×Unit)×List (Int×Int×Unit)×Unit)×List ((Int×Int×Unit)×Int×Unit)×List ((Int×Int×Unit)×List (Int×Int×Int×Unit)×Unit)×List ((Int×Int×Unit)×Int×List (Int×Int×Int×Unit)×Unit)×List (Int×Int×Unit)×Unit) again8=>
   kE.cnd (decide (z7.1<(v6.length:Int))) (
    kE.join (fun (z9:Int×List (Int×Int×Int×Int×Unit)×List (Int×Int×Int×Int×List (Int)×Unit)×List (Int×Int×Int×Unit)×List (Int×Int×Int×List (Int)×Unit)×List ((Int×Int×Unit)×(Int×Int×Unit)×Bool×Unit)×List (Int×(Int×Int×Unit)×Int×Int×Int×Unit)×List (Int×(Int×Int×Unit)×(Int×Int×Unit)×(Int×Int×Unit)×Int×Int×Int×Int×Unit)×List ((Int×Int×Unit)×List (Int×Int×Unit)×Unit)×List ((Int×Int×Unit)×List (Int×Int×Unit)×Unit)×List ((Int×Int×Unit)×Int×Unit)×List ((Int×Int×Unit)×List (Int×Int×Int×Unit)×Unit)×List ((Int×Int×Unit)×Int×List (Int×Int×Int×Unit)×Unit)×List (Int×Int×Unit)×Unit)=>(again8 ((IntKind.i64.wrap (z7.1+1)),(z9.1,(z9.2.1,(z9.2.2.1,(z9.2.2.2.1,(z9.2.2.2.2.1,(z9.2.2.2.2.2.1,(z9.2.2.2.2.2.2.1,(z9.2.2.2.2.2.2.2.1,(z9.2.2.2.2.2.2.2.2.1,(z9.2.2.2.2.2.2.2.2.2.1,(z9.2.2.2.2.2.2.2.2.2.2.1,(z9.2.2.2.2.2.2.2.2.2.2.2.1,(z9.2.2.2.2.2.2.2.2.2.2.2.2.1,(z9.2.2.2.2.2.2.2.2.2.2.2.2.2.1,())))))))))))))))))
    fun k10=>kE.idx z7.2.2.2.2.2.2.2.2.2.2.2.2.2.2.1 z7.1 fun x11=>kE.nth z7.2.2.2.2.2.2.2.2.2.2.2.2.2.2.1 (Int.toNat z7.1) fun x12=>kE.call (ygv (z7.2.1,(z7.2.2.1,(z7.2.2.2.1,(z7.2.2.2.2.1,(z7.2.2.2.2.2.1,(z7.2.2.2.2.2.2.1,(z7.2.2.2.2.2.2.2.1,(z7.2.2.2.2.2.2.2.2.1,(z7.2.2.2.2.2.2.2.2.2.1,(z7.2.2.2.2.2.2.2.2.2.2.1,(z7.2.2.2.2.2.2.2.2.2.2.2.1,(z7.2.2.2.2.2.2.2.2.2.2.2.2.1,())))))))))))) x12) fun v13=>
    kE.join (fun (z14:List ((Int×Int×Unit)×Int×List (Int×Int×Int×Unit)×Unit)×List (Int×Int×Unit)×Unit)=>kE.call (zoe (z7.2.1,(z7.2.2.1,(z7.2.2.2.1,(z7.2.2.2.2.1,(z7.2.2.2.2.2.1,(z7.2.2.2.2.2.2.1,(z7.2.2.2.2.2.2.2.1,(z7.2.2.2.2.2.2.2.2.1,(z7.2.2.2.2.2.2.2.2.2.1,(z7.2.2.2.2.2.2.2.2.2.2.1,(z7.2.2.2.2.2.2.2.2.2.2.2.1,(z7.2.2.2.2.2.2.2.2.2.2.2.2.1,())))))))))))) (v13.1,(v13.2.1,(v13.2.2.1,())))) fun v15=>
     kE.cnd (v15.2.1 != 0) (some ((0,([],([],([],([],([],([],([],([],([],([],([],())))))))))))),([],v15.2)))
     (kE.room (z14.1.length+((v13.1,(v13.2.1,(v13.2.2.1,())))::[]).length) 48 ((k10 (v15.1.1,(v15.1.2.1,(v15.1.2.2.1,(v15.1.2.2.2.1,(v15.1.2.2.2.2.1,(v15.1.2.2.2.2.2.1,(v15.1.2.2.2.2.2.2.1,(v15.1.2.2.2.2.2.2.2.1,(v15.1.2.2.2.2.2.2.2.2.1,(v15.1.2.2.2.2.2.2.2.2.2.1,(v15.1.2.2.2.2.2.2.2.2.2.2.1,(v15.1.2.2.2.2.2.2.2.2.2.2.2.1,((z14.1++((v13.1,(v13.2.1,(v13.2.2.1,())))::[])),(z14.2.1,()))))))))))))))))))
     fun k16=>
     kE.cnd (v13.2.1==0) (
     kE.cnd ((v13.2.2.1.length:Int)==0) ((k10 (z7.2.1,(z7.2.2.1,(z7.2.2.2.1,(z7.2.2.2.2.1,(z7.2.2.2.2.2.1,(z7.2.2.2.2.2.2.1,(z7.2.2.2.2.2.2.2.1,(z7.2.2.2.2.2.2.2.2.1,(z7.2.2.2.2.2.2.2.2.2.1,(z7.2.2.2.2.2.2.2.2.2.2.1,(z7.2.2.2.2.2.2.2.2.2.2.2.1,(z7.2.2.2.2.2.2.2.2.2.2.2.2.1,(z7.2.2.2.2.2.2.2.2.2.2.2.2.2.1,(z7.2.2.2.2.2.2.2.2.2.2.2.2.2.2.1,()))))))))))))))))
      ((k16 (z7.2.2.2.2.2.2.2.2.2.2.2.2.2.1,(z7.2.2.2.2.2.2.2.2.2.2.2.2.2.2.1,())))))
     ((k16 (z7.2.2.2.2.2.2.2.2.2.2.2.2.2.1,(z7.2.2.2.2.2.2.2.2.2.2.2.2.2.2.1,())))))
    ((again4 ((IntKind.i64.wrap (z3.1+1)),(z7.2.1,(z7.2.2.1,(z7.2.2.2.1,(z7.2.2.2.2.1,(z7.2.2.2.2.2.1,(z7.2.2.2.2.2.2.1,(z7.2.2.2.2.2.2.2.1,(z7.2.2.2.2.2.2.2.2.1,(z7.2.2.2.2.2.2.2.2.2.1,(z7.2.2.2.2.2.2.2.2.2.2.1,(z7.2.2.2.2.2.2.2.2.2.2.2.1,(z7.2.2.2.2.2.2.2.2.2.2.2.2.1,(z7.2.2.2.2.2.2.2.2.2.2.2.2.2.1,())))))))))))))))))
   (0,(z3.2.1,(z3.2.2.1,(z3.2.2.2.1,(z3.2.2.2.2.1,(z3.2.2.2.2.2.1,(z3.2.2.2.2.2.2.1,(z3.2.2.2.2.2.2.2.1,(z3.2.2.2.2.2.2.2.2.1,(z3.2.2.2.2.2.2.2.2.2.1,(z3.2.2.2.2.2.2.2.2.2.2.1,(z3.2.2.2.2.2.2.2.2.2.2.2.1,(z3.2.2.2.2.2.2.2.2.2.2.2.2.1,(z3.2.2.2.2.2.2.2.2.2.2.2.2.2.1,(v6,()))))))))))))))))
   (some ((z3.2.1,(z3.2.2.1,(z3.2.2.2.1,(z3.2.2.2.2.1,(z3.2.2.2.2.2.1,(z3.2.2.2.2.2.2.1,(z3.2.2.2.2.2.2.2.1,(z3.2.2.2.2.2.2.2.2.1,(z3.2.2.2.2.2.2.2.2.2.1,(z3.2.2.2.2.2.2.2.2.2.2.1,(z3.2.2.2.2.2.2.2.2.2.2.2.1,(z3.2.2.2.2.2.2.2.2.2.2.2.2.1,())))))))))))),(z3.2.2.2.2.2.2.2.2.2.2.2.2.2.1,(0,())))))
  (0,(s.1,(s.2.1,(s.2.2.1,(s.2.2.2.1,(s.2.2.2.2.1,(s.2.2.2.2.2.1,(s.2.2.2.2.2.2.1,(s.2.2.2.2.2.2.2.1,(s.2.2.2.2.2.2.2.2.1,(s.2.2.2.2.2.2.2.2.2.1,(s.2.2.2.2.2.2.2.2.2.2.1,(s.2.2.2.2.2.2.2.2.2.2.2.1,([],()))))))))))))))))
 fun k17=>kE.call (zto s.2.2.2.2.2.2.2.2.2.2.1) fun v18=>
 kE.cnd (!v18) ((k17 (true,())))
  (kE.call (zrl s.2.2.2.2.2.2.2.2.2.2.2.1) fun v19=>(k17 ((!v19),())))
theorem yju:@zgk=@zxo:=by
 unfold zgk zic; rw[stdW_e,acct_Of_e,yje,yij,ybz,rest_Of_e,yan]
 all_goals rfl
noncomputable def zvn(l:List zad)(id:Int):Option (zad×Bool×Unit):=
 kE.loop (fun (z1:Int×Unit) again2=>
 kE.cnd (decide (z1.1<(l.length:Int))) (kE.idx l z1.1 fun x3=>
  kE.cnd (x3.1==id) (some (x3,(true,())))
  ((again2 ((IntKind.i64.wrap (z1.1+1)),()))))
  (some ((0,(0,(0,()))),(false,()))))
 (0,())
theorem yjb:@zoa=@zvn:=by
 unfold zoa zpf; rw[stdW_e]
 all_goals rfl
noncomputable def zoh(p:Int):Option Bool:=
 kE.cnd (decide (0≤p)) (some (decide (p≤2147483647)))
 (some false)
theorem ybc:@zhp=@zoh:=by
 unfold zhp zkq; rw[stdW_e]
 all_goals rfl
noncomputable def zsj(a:zad):Option Int:=
 kE.join (fun (z1:Bool×Unit)=>
 kE.cnd z1.1 (some 2)
  (some 0))
 fun k2=>
 kE.cnd (decide (a.1<1)) ((k2 (true,())))
  (
  kE.cnd (decide (4<a.1)) ((k2 (true,())))
  (kE.call (zoh a.2.1) fun v3=>
  kE.cnd (!v3) ((k2 (true,())))
   (
   kE.cnd (decide (a.2.2.1<0)) ((k2 (true,())))
   ((k2 ((decide (10000<a.2.2.1)),()))))))
theorem ygb:@zks=@zsj:=by
 unfold zks zmr; rw[stdW_e,ybc]
 all_goals rfl
noncomputable def zbp(w:zag):Option Bool:=
some (decide (w.1<0))
theorem zhx:@zbr=@zbp:=rfl
noncomputable def zfv(w:zag):Option zja:=
kE.call (zbp w) fun v1=>
 kE.cnd (!v1) (some ((IntKind.u64.wrap w.1),w.2))
 (kE.call (sub64 0 w.2.1 0) fun v2=>kE.call (sub64 0 (IntKind.u64.wrap w.1) v2.2.1) fun v3=>some (v3.1,(v2.1,())))
theorem zvs:@zdv=@zfv:=by
 unfold zdv zgg; rw[stdW_e,zhx]
 all_goals rfl
noncomputable def zin(x:Int)(y:Int):Option (Int×Int×Unit):=
kE.nn 32 (kE.nn 32 (kE.nn 32 (kE.nn 32 (kE.nn 32 (some ((IntKind.u64.wrap ((IntKind.u64.wrap ((IntKind.u64.wrap ((Int.fdiv x (2 ^ (Min.min (Int.toNat 32) (Go.IntKind.bits Go.IntKind.u64))))*(Int.fdiv y (2 ^ (Min.min (Int.toNat 32) (Go.IntKind.bits Go.IntKind.u64))))))+(Int.fdiv (IntKind.u64.wrap ((IntKind.u64.wrap ((Int.fdiv x (2 ^ (Min.min (Int.toNat 32) (Go.IntKind.bits Go.IntKind.u64))))*(Go.bits Go.BinOp.and Go.IntKind.u64 y 4294967295)))+(Int.fdiv (IntKind.u64.wrap ((Go.bits Go.BinOp.and Go.IntKind.u64 x 4294967295)*(Go.bits Go.BinOp.and Go.IntKind.u64 y 4294967295))) (2 ^ (Min.min (Int.toNat 32) (Go.IntKind.bits Go.IntKind.u64)))))) (2 ^ (Min.min (Int.toNat 32) (Go.IntKind.bits Go.IntKind.u64))))))+(Int.fdiv (IntKind.u64.wrap ((Go.bits Go.BinOp.and Go.IntKind.u64 (IntKind.u64.wrap ((IntKind.u64.wrap ((Int.fdiv x (2 ^ (Min.min (Int.toNat 32) (Go.IntKind.bits Go.IntKind.u64))))*(Go.bits Go.BinOp.and Go.IntKind.u64 y 4294967295)))+(Int.fdiv (IntKind.u64.wrap ((Go.bits Go.BinOp.and Go.IntKind.u64 x 4294967295)*(Go.bits Go.BinOp.and Go.IntKind.u64 y 4294967295))) (2 ^ (Min.min (Int.toNat 32) (Go.IntKind.bits Go.IntKind.u64)))))) 4294967295)+(IntKind.u64.wrap ((Go.bits Go.BinOp.and Go.IntKind.u64 x 4294967295)*(Int.fdiv y (2 ^ (Min.min (Int.toNat 32) (Go.IntKind.bits Go.IntKind.u64)))))))) (2 ^ (Min.min (Int.toNat 32) (Go.IntKind.bits Go.IntKind.u64)))))),((IntKind.u64.wrap (x*y)),())))))))
theorem ztt:@zen=@zin:=by
 unfold zen zfx; rw[stdW_e]
 all_goals rfl
noncomputable def zck(s:zja)(minus:Bool):Option (zag×Bool×Unit):=
 kE.cnd (!minus) (some (((IntKind.i64.wrap s.1),s.2),((decide (s.1<9223372036854775808)),())))
 (kE.call (sub64 0 s.2.1 0) fun v1=>kE.call (sub64 0 s.1 v1.2.1) fun v2=>
 kE.cnd (decide (s.1<9223372036854775808)) (some (((IntKind.i64.wrap v2.1),(v1.1,())),(true,())))
  (
  kE.cnd (s.1==9223372036854775808) (some (((IntKind.i64.wrap v2.1),(v1.1,())),((s.2.1==0),())))
  (some (((IntKind.i64.wrap v2.1),(v1.1,())),(false,())))))
theorem zpn:@zbw=@zck:=by
 unfold zbw zeq; rw[stdW_e]
 all_goals rfl
noncomputable def zsy(a:Int)(b:Int):Option zag:=
kE.call (zlb a) fun v1=>kE.call (zlb b) fun v2=>kE.call (zfv v1) fun v3=>kE.call (zfv v2) fun v4=>kE.call (zin v3.2.1 v4.2.1) fun v5=>bothE (kE.call (zbp v1) fun v6=>bothE (kE.call (zbp v2) fun v7=>bothE (kE.call (zck v5 (Go.Vc.notIf true (v6==v7))) fun v8=>some v8.1) (kE.call (zck v5 (Go.Vc.notIf true (v6==v7))) fun v9=>some v9.1)) (kE.call (zbp v2) fun v10=>kE.call (zck v5 (Go.Vc.notIf true (v6==v10))) fun v11=>some v11.1)) (kE.call (zbp v1) fun v12=>kE.call (zbp v2) fun v13=>kE.call (zck v5 (Go.Vc.notIf true (v12==v13))) fun v14=>some v14.1)
theorem wide_Mul_e:@zvw=@zsy:=by
 unfold zvw zwz zsy; rw[stdW_e,ztt,zwy,zhx,zvs,zpn]
 simp only[zkp,znk]
 all_goals rfl
noncomputable def zru(l:List Int):Option (Int×Int×Unit):=
 kE.loop (fun (z1:Int×Int×Unit) again2=>
 kE.cnd (decide (z1.2.1<(l.length:Int))) (kE.idx l z1.2.1 fun x3=>kE.call (zsy z1.1 x3) fun v4=>kE.call (zta v4) fun v5=>
  kE.cnd (v5.2.1 != 0) (some (0,v5.2))
  ((again2 (v5.1,((IntKind.i64.wrap (z1.2.1+1)),())))))
  (some (z1.1,(0,()))))
 (1,(0,()))
theorem yfk:@zkc=@zru:=by
 unfold zkc zmk; rw[stdW_e,ybi,wide_Mul_e]
 all_goals rfl
noncomputable def zsh(a:zad)(qty:Int):Option (Int×Int×Unit):=
kE.call (zsj a) fun v1=>
 kE.cnd (v1 != 0) (some (0,(v1,())))
 (kE.call (zru (qty::(a.2.1::[]))) fun v2=>some v2)
theorem yfz:@zkr=@zsh:=by
 unfold zkr zmq; rw[stdW_e,ygb,yfk]
 all_goals rfl
noncomputable def zdr(as_:List zad)(l:List zad):Option (((List Int)×Int×Unit)×(Unit)):=
kE.call (zlz l) fun v1=>
 kE.cnd (!v1) (some (([],(3,())),()))
 (
 kE.loop (fun (z2:Int×List (Int)×Unit) again3=>
  kE.cnd (decide (z2.1<(l.length:Int))) (kE.idx l z2.1 fun x4=>kE.call (zvn as_ x4.1) fun v5=>
  kE.cnd (!v5.2.1) (some (([],(11,())),()))
   (kE.call (zsh v5.1 x4.2.2.1) fun v6=>
   kE.cnd (v6.2.1 != 0) (some (([],v6.2),()))
   (kE.room (z2.2.1.length+(v6.1::[]).length) 8 ((again3 ((IntKind.i64.wrap (z2.1+1)),((z2.2.1++(v6.1::[])),())))))))
  (some ((z2.2.1,(0,())),())))
  (0,([],())))
theorem zgx:@zbv=@zdr:=by
 unfold zbv zco; rw[stdW_e,yjb,yfz,zyu]
 all_goals rfl
noncomputable def zsb(as_:List zad)(l:List zad):Option (Int×Int×Unit):=
kE.call (zdr as_ l) fun v1=>
 kE.cnd (v1.1.2.1 != 0) (some (0,v1.1.2))
 (kE.call (zrr v1.1.1) fun v2=>some v2)
theorem yfr:@zkf=@zsb:=by
 unfold zkf zmm; rw[stdW_e,zgx,zzv]
 all_goals rfl
noncomputable def zuq(as_:List zad)(r:zam):Option (Int×Int×Unit):=
kE.call (zsb as_ r.2.2.1) fun v1=>
 kE.cnd (v1.2.1 != 0) (some (0,v1.2))
 (kE.call (zrr (v1.1::(r.2.1::[]))) fun v2=>some v2)
theorem ygt:@zna=@zuq:=by
 unfold zna zom; rw[stdW_e,yfr,zzv]
 all_goals rfl
noncomputable def yfc:Option Bool:=
kE.call (zxo (0,([],([],([],(((1,(1,(1,([],()))))::[]),([],([],([],([],([],((((1,(0,())),(5,()))::[]),((((1,(0,())),(((1,(0,(4,())))::[]),()))::[]),())))))))))))) 1) fun v1=>
 kE.join (fun (z2:Bool×List ((Int×Int×Unit)×Int×List (Int×Int×Int×Unit)×Unit)×Unit)=>
 kE.cnd z2.1 (some false)
  (kE.idx z2.2.1 0 fun x3=>kE.nth z2.2.1 (Int.toNat 0) fun x4=>kE.call (zuq ((1,(3,(0,())))::[]) (x4.1,(x4.2.1,(x4.2.2.1,())))) fun v5=>
  kE.cnd (v5.1==17) (some (v5.2.1==0))
  (some false)))
 fun k6=>
 kE.cnd (v1.2.2.1 != 0) ((k6 (true,(v1.2.1,()))))
  (
  kE.cnd ((v1.2.1.length:Int) != 1) ((k6 (true,(v1.2.1,()))))
  ((k6 (((IntKind.i64.wrap ((v1.1.2.2.2.2.2.2.2.2.2.2.1.length:Int)+(v1.1.2.2.2.2.2.2.2.2.2.2.2.1.length:Int))) != 0),(v1.2.1,())))))
theorem yfb:@zef=@yfc:=by
 unfold zef zmc; rw[stdW_e,yju,ygt]
 all_goals rfl
theorem yhf:zef=some true:=by rw[yfb]; decide +kernel
end Go.Proofs.YtbpbkmngbhgpfaaGreat

namespace Go.Proofs.YtbpbkmngbhgpfaaGreat
open Go Go.Vc Go.RowKit
def q1(k:Int)(x:ALot'):Int:=if x.1=k then x.2.2.1 else 0
theorem yjz(k:Int)(l:List ALot'):qtyL k l=sumBy (q1 k) l:=rfl
theorem q1_in{l:List ALot'}(h:∀x∈l,I64 x.2.2.1)(k:Int):∀x∈l,-9223372036854775808≤q1 k x∧q1 k x≤9223372036854775808:=fun x hx=>by
 have:=h x hx
 unfold q1 I64 at*
 split<;>omega
theorem yjy{l:List ALot'}(h:okT l)(k:Int) : -184467440737095516160≤qtyL k l∧qtyL k l≤184467440737095516160:=by
 have h1:=zha (f:=q1 k) (B:=9223372036854775808) (l:=l) (q1_in h.2 k)
 have h2:=h.1
 rw[yjz]; omega
theorem okT.take{l:List ALot'}(h:okT l)(i:Nat):okT (l.take i):=⟨by rw[List.length_take]; have:=h.1; omega,fun x hx=>h.2 x (List.mem_of_mem_take hx)⟩
theorem yek{l:List ALot'}(h:okT l)(k:Int):sml (qtyL k l):=by have:=yjy h k; unfold sml; omega
theorem r_sum18{l:List ALot'}(h:okT l)(k:Int):zcy l k=some (big (qtyL k l)):=by
 have hl:=h.1
 show znb stdW l k=_
 unfold znb
 refine zgo (N:=l.length) (by omega) (fun i=>((i:Int),((big (qtyL k (l.take i))).1,((big (qtyL k (l.take i))).2.1,())))) _ (by rw[List.take_zero,show qtyL k []=0 from rfl,big0]; rfl) ?_ ?_
 ·intro again
  show stdW.cnd (decide ((l.length:Int)<(l.length:Int))) _ (some (big (qtyL k (l.take l.length))))=_
  rw[zax,List.take_length]
 ·intro i hi again ha
  show stdW.cnd (decide ((i:Int)<(l.length:Int))) _ _=_
  rw[cnd_lt hi]
  refine join_g fun k4 hk=>?_
  have kk:k4 (big (qtyL k (l.take (i+1))))=some (big (qtyL k l)):=by
   subst hk
   show again (IntKind.i64.wrap ((i:Int)+1),((big (qtyL k (l.take (i+1)))).1,((big (qtyL k (l.take (i+1)))).2.1,())))=_
   rw[i64_s i (by omega)]; exact ha
  clear hk ha
  show stdW.idx l (i:Int) _=_
  rw[idx_w hi]
  have hx:=h.2 _ (List.getElem_mem hi)
  have es:qtyL k (l.take (i+1))=qtyL k (l.take i)+q1 k l[i]:=by
   rw[yjz,yjz,List.take_succ_eq_append_getElem hi,zff,zbb,zde]; omega
  by_cases hk:l[i].1=k
  ·have e1:zda l[i].2.2.1=some (big l[i].2.2.1):=r_of hx
   have e2:zaw ((big (qtyL k (l.take i))).1,((big (qtyL k (l.take i))).2.1,())) ((big l[i].2.2.1).1,((big l[i].2.2.1).2.1,()))=some (big (qtyL k (l.take (i+1)))):=by
    have:=r_addB (yek (h.take i) k) (ykp hx)
    rw[es,q1,if_pos hk]
    exact this
   rw[cnd_y (by simpa using hk),idx_w hi]
   show stdW.both (stdW.call (zda l[i].2.2.1) fun v7=>stdW.call (zaw ((big (qtyL k (l.take i))).1,((big (qtyL k (l.take i))).2.1,())) (v7.1,(v7.2.1,()))) fun v8=>k4 (v8.1,(v8.2.1,()))) (stdW.call (zda l[i].2.2.1) fun v9=>stdW.call (zaw ((big (qtyL k (l.take i))).1,((big (qtyL k (l.take i))).2.1,())) (v9.1,(v9.2.1,()))) fun v10=>k4 (v10.1,(v10.2.1,())))=_
   refine zfz ?_ ?_<;>(rw[zac e1,zac e2]; exact kk)
  ·rw[cnd_n (by simpa using hk)]
   rw[es,q1,if_neg hk,Int.add_zero]at kk
   exact kk
theorem yka{l:List AHold'}(h:∀x∈l,okT x.2.1)(k:Int) : -(184467440737095516160*(l.length:Int))≤qtyH k l∧qtyH k l≤184467440737095516160*(l.length:Int):=
 zha (f:=fun h:AHold'=>qtyL k h.2.1) fun x hx=>yjy (h x hx) k
theorem yhd{l:List AHold'}(h:okHs l)(k:Int):zdi l k=some (big (qtyH k l)):=by
 have hl:=h.2
 show zhc stdW l k=_
 unfold zhc
 refine zgo (N:=l.length) (by omega) (fun i=>((i:Int),((big (qtyH k (l.take i))).1,((big (qtyH k (l.take i))).2.1,())))) _ (by rw[List.take_zero,show qtyH k []=0 from rfl,big0]; rfl) ?_ ?_
 ·intro again
  show stdW.cnd (decide ((l.length:Int)<(l.length:Int))) _ (some (big (qtyH k (l.take l.length))))=_
  rw[zax,List.take_length]
 ·intro i hi again ha
  show stdW.cnd (decide ((i:Int)<(l.length:Int))) _ _=_
  rw[cnd_lt hi]
  refine join_g fun k4 hk=>?_
  have kk:k4 (big (qtyH k (l.take (i+1))))=some (big (qtyH k l)):=by
   subst hk
   show again (IntKind.i64.wrap ((i:Int)+1),((big (qtyH k (l.take (i+1)))).1,((big (qtyH k (l.take (i+1)))).2.1,())))=_
   rw[i64_s i (by omega)]; exact ha
  clear hk ha
  have hx:=h.1 _ (List.getElem_mem hi)
  have es:qtyH k (l.take (i+1))=qtyH k (l.take i)+qtyL k l[i].2.1:=by
   unfold qtyH
   rw[List.take_succ_eq_append_getElem hi,zff,zbb,zde]; omega
  have e1:zcy l[i].2.1 k=some (big (qtyL k l[i].2.1)):=r_sum18 hx k
  have hb:=yka (l:=l.take i) (fun x hx=>h.1 x (List.mem_of_mem_take hx)) k
  have hlt:(l.take i).length≤1000:=by rw[List.length_take]; omega
  have e2:zaw ((big (qtyH k (l.take i))).1,((big (qtyH k (l.take i))).2.1,())) ((big (qtyL k l[i].2.1)).1,((big (qtyL k l[i].2.1)).2.1,()))=some (big (qtyH k (l.take (i+1)))):=by
   have:=r_addB (a:=qtyH k (l.take i)) (b:=qtyL k l[i].2.1) (by unfold sml; omega) (yek hx k)
   rw[es]; exact this
  show stdW.idx l (i:Int) _=_
  rw[idx_w hi]
  show stdW.both (stdW.call (zcy l[i].2.1 k) fun v6=>stdW.call (zaw ((big (qtyH k (l.take i))).1,((big (qtyH k (l.take i))).2.1,())) (v6.1,(v6.2.1,()))) fun v7=>k4 (v7.1,(v7.2.1,()))) (stdW.call (zcy l[i].2.1 k) fun v8=>stdW.call (zaw ((big (qtyH k (l.take i))).1,((big (qtyH k (l.take i))).2.1,())) (v8.1,(v8.2.1,()))) fun v9=>k4 (v9.1,(v9.2.1,())))=_
  refine zfz ?_ ?_<;>(rw[zac e1,zac e2]; exact kk)
theorem r_same18{a:List ALot'}(hl:a.length≤1000000):zcj a a=some true:=by
 show zjl stdW a a=_
 unfold zjl
 rw[cnd_n (by simp)]
 refine zfp (l:=a) (by omega) (s0:=()) (fun _ _=>True) (fun _ _=>some true) trivial ?_ ?_
 ·rintro _ again _
  rw[zax]
 ·rintro i hi _ _ again ha
  rw[cnd_lt hi,idx_w hi,idx_w hi,nif_t,cnd_n (by simp)]
  show again (IntKind.i64.wrap ((i:Int)+1),())=_
  rw[i64_s i (by omega)]
  exact ha _ trivial
theorem inj_ids:∀{l:List zaa},(l.map (·.1)).Nodup→∀{a b:zaa},a∈l→b∈l→a.1=b.1→a=b
 |[],_,a,b,ha,_,_=>by cases ha
 |x::l,h,a,b,ha,hb,e=>by
  obtain⟨h1,h2⟩:=List.nodup_cons.1 h
  rcases List.mem_cons.1 ha with rfl|ha'
  ·rcases List.mem_cons.1 hb with rfl|hb
   ·rfl
   ·exact absurd (List.mem_map.2 ⟨b,hb,e.symm⟩) h1
  ·rcases List.mem_cons.1 hb with rfl|hb
   ·exact absurd (show b.1∈l.map (·.1) from List.mem_map.2 ⟨a,ha',e⟩) h1
   ·exact inj_ids h2 ha' hb e
theorem cmp0{a b:Int}(ha:sml a)(hb:sml b)(e:a=b):zif ((big a).1,((big a).2.1,())) ((big b).1,((big b).2.1,()))=some 0:=by
 have:=r_cmpB ha hb
 rw[if_pos (by omega)]at this
 exact this
theorem rest_all{s:zba}{id:Int}(h1:s.2.2.2.1.length≤9223372036854775807)(h2:s.2.2.2.2.1.length≤9223372036854775807)(h3:∀a∈s.2.2.2.2.1,a.2.2.2.1.length≤9223372036854775807)(h4:(pu s).length≤9223372036854775807)(h5:(ho s).length≤9223372036854775807)(h6:∀h∈ho s,h.2.1.length≤9223372036854775807)
  (h7:okF (pu s)) (h8:∀h∈ho s,∀x∈h.2.1,I64 x.2.2.1):zjx s id=some true:=by
 obtain⟨as_,ac,e0,hac,hacl,hacn⟩:=r_few31 h1 h2 h3 h4 h5 h6
 show zfd stdW s id=_
 unfold zfd
 have e0':zre (s.1,(s.2.1,(s.2.2.1,(s.2.2.2.1,(s.2.2.2.2.1,(s.2.2.2.2.2.1,(s.2.2.2.2.2.2.1,(s.2.2.2.2.2.2.2.1,(s.2.2.2.2.2.2.2.2.1,(s.2.2.2.2.2.2.2.2.2.1,(s.2.2.2.2.2.2.2.2.2.2.1,(s.2.2.2.2.2.2.2.2.2.2.2.1,()))))))))))))=_:=e0
 rw[zac e0']
 have hp0f:okF ((pu s).take 20):=h7.take 20
 have hp0l:((pu s).take 20).length≤20:=by rw[List.length_take]; omega
 have hh0:okHs (few26 (ho s)):=by
  refine⟨fun h hm=>?_,by unfold few26; rw[List.length_map,List.length_take]; omega⟩
  obtain⟨g,hg,rfl⟩:=List.mem_map.1 hm
  refine⟨by show (g.2.1.take 20).length≤20; rw[List.length_take]; omega,fun x hx=>h8 g (List.mem_of_mem_take hg) x (List.mem_of_mem_take hx)⟩
 generalize (pu s).take 20=p0 at*
 generalize few26 (ho s)=h0 at*
 let S:zba:=(0,([],([],(as_,(ac,([],([],([],([],([],(p0,(h0,()))))))))))))
 obtain⟨z,ez,hz⟩:=r_give (s:=S) (id:=id) hp0f (by show p0.length≤_; omega) hh0 hac hacl
 show stdW.call (zgk S id) _=_
 rw[zac ez]
 rcases hz with ⟨he,hl⟩|⟨he,us,p,h,hzs,hus,husl,G⟩
 ·rw[cnd_y (by simp[he]),hl,cnd_y (by rfl),zac yhf]
 ·rw[cnd_n (by simp[he])]
  obtain⟨zs,out,ee,uu⟩:=z
  simp only at he hzs G
  subst hzs
  have hpl:p.length≤1000000:=by have h1:p.length≤p0.length+us.length:=G.lp; omega
  have hol:out.length≤1000:=Nat.le_trans G.len husl
  have hhs:okHs h:=⟨G.h.2,Nat.le_trans G.lh hh0.2⟩
  have eT:zdj p=some (big (sumBy amt p)):=yhe G.f hpl
  have eT0:zdj p0=some (big (sumBy amt p0)):=yhe hp0f (by omega)
  have sA:=(ydu G.f hpl).1
  have sA0:=(ydu hp0f (by omega)).1
  have cash:sumBy amt p+sumBy (fun r:zam=>r.2.1) out=sumBy amt p0:=G.cash
  have hA:=zha (f:=amt) (B:=9223372036854775808) (l:=p) (fun x hx=>by have:=G.f x hx; unfold I64 at this; omega)
  show stdW.call (zdj p) _=_
  rw[zac eT]
  have cR:∀i,-9223372036854775808000≤sumBy (fun r:zam=>r.2.1) (out.take i)∧sumBy (fun r:zam=>r.2.1) (out.take i)≤9223372036854775808000:=fun i=>by
   have:=zha (f:=fun r:zam=>r.2.1) (B:=9223372036854775808) (l:=out.take i) (fun x hx=>by have:=G.ret x (List.mem_of_mem_take hx); omega)
   have h2:(out.take i).length≤1000:=by rw[List.length_take]; omega
   omega
  have hAl:(p.length:Int)≤1000000:=by omega
  refine zgo (N:=out.length) (by omega) (fun i=>((i:Int),((big (sumBy amt p+sumBy (fun r:zam=>r.2.1) (out.take i))).1,((big (sumBy amt p+sumBy (fun r:zam=>r.2.1) (out.take i))).2.1,(out,()))))) _ (by rw[List.take_zero,zde,Int.add_zero]; rfl) ?_ ?_
  ·intro again
   show stdW.cnd (decide ((out.length:Int)<(out.length:Int))) _ (stdW.call (zdj p0) _)=_
   rw[zax,zac eT0,List.take_length,zac (cmp0 (by have:=cR out.length; rw[List.take_length]at this; unfold sml; omega) sA0 cash),cnd_n (by rfl)]
   have outer:∀(f:Int×List zam×Unit→(Int×List zam×Unit→Option Bool)→Option Bool),(∀again,f ((5:Int),(out,())) again=some true)→(∀k:Nat,1≤k→k≤4→∀again,again (((k+1:Nat):Int),(out,()))=some true→f ((k:Int),(out,())) again=some true)→stdW.loop f ((1:Int),(out,()))=some true:=by
    intro f g1 g2
    refine zgo (N:=4) (by omega) (fun i=>(((i+1:Nat):Int),(out,()))) _ rfl g1 fun i hi again ha=>g2 (i+1) (by omega) (by omega) again ha
   refine outer _ ?_ ?_
   ·intro again2
    show stdW.cnd (decide ((5:Int)≤4)) _ (stdW.loop _ ((0:Int),()))=_
    rw[cnd_n (by decide)]
    refine zgo (N:=ac.length) (by omega) (fun i=>((i:Int),())) _ rfl ?_ ?_
    ·intro again3
     show stdW.cnd (decide ((ac.length:Int)<(ac.length:Int))) _ (stdW.call zef _)=_
     rw[zax,zac yhf]
    ·intro i hi again3 ha3
     show stdW.cnd (decide ((i:Int)<(ac.length:Int))) _ _=_
     rw[cnd_lt hi]
     refine join_g fun k41 hk41=>?_
     have kk41:k41 ()=some true:=by
      subst hk41
      show again3 (IntKind.i64.wrap ((i:Int)+1),())=_
      rw[i64_s i (by omega)]; exact ha3
     clear hk41 ha3
     have hai:=List.getElem_mem hi
     have hcl:=hac _ hai
     show stdW.idx ac (i:Int) _=_
     rw[idx_w hi,zac (r_units15 (by omega))]
     have hvl:=unitsA_len (a:=ac[i]) (by omega)
     have hno:isM id ac[i]=false→∀u∈unitsA ac[i],u∉us:=by
      intro hM u hu hin
      obtain⟨b,hb,hbM,hub⟩:=hus u hin
      have e:ac[i]=b:=inj_ids hacn hai hb (by rw[←ybp u hu,←ybp u hub])
      rw[e]at hM; rw[hbM]at hM; cases hM
     generalize unitsA ac[i]=v at*
     refine zgo (N:=v.length) (by omega) (fun k=>((k:Int),(v,()))) _ rfl ?_ ?_
     ·intro again4
      show stdW.cnd (decide ((v.length:Int)<(v.length:Int))) _ (k41 ())=_
      rw[zax]; exact kk41
     ·intro k hk again4 ha4
      show stdW.cnd (decide ((k:Int)<(v.length:Int))) (stdW.idx ac (i:Int) _) _=_
      rw[cnd_lt hk,idx_w hi]
      by_cases hM:ac[i].2.1=id
      ·rw[cnd_n (by simp[hM])]; exact kk41
      ·rw[cnd_y (by simpa using hM)]
       refine join_g fun k48 hk48=>?_
       have kk48:k48 (false,(v,()))=some true:=by
        subst hk48
        show stdW.cnd false (some false) (again4 (IntKind.i64.wrap ((k:Int)+1),(v,())))=_
        rw[cnd_n rfl,i64_s k (by omega)]; exact ha4
       clear hk48 ha4
       have hu:=hno (by unfold isM; exact decide_eq_false hM) _ (List.getElem_mem hk)
       have g1:getP p v[k]=getP p0 v[k]:=(G.get _ hu).1
       have g2:lotsH h v[k]=lotsH h0 v[k]:=(G.get _ hu).2
       have eg1:zdk p v[k]=some (getP p0 v[k]):=by rw[←g1]; exact r_get17 hpl
       have eg0:zdk p0 v[k]=some (getP p0 v[k]):=r_get17 (by omega)
       have el1:zav h v[k]=some (lotsH h0 v[k]):=by rw[←g2]; exact yma hhs.2
       have el0:zav h0 v[k]=some (lotsH h0 v[k]):=yma hh0.2
       have es:zcj (lotsH h0 v[k]) (lotsH h0 v[k])=some true:=r_same18 (by have:=(ymk hh0.1 v[k]).1; omega)
       have hne:(getP p0 v[k] != getP p0 v[k])=false:=by simp
       show stdW.idx v (k:Int) (fun _=>stdW.idx v (k:Int) fun _=>stdW.both (stdW.nth v (Int.toNat (k:Int)) fun x51=>stdW.both (stdW.call (zdk p x51) _) _) _)=_
       have kt:k48 (!true,(v,()))=some true:=kk48
       repeat' (first|exact kt|refine zfz ?_ ?_|rw[idx_w hk]|rw[nth_w hk]|rw[zac eg1]|rw[zac eg0]|rw[cnd_n hne]|rw[zac el1]|rw[zac el0]|rw[zac es]|refine(zac el1 _).trans ?_|refine(zac eg1 _).trans ?_|refine(zac eg0 _).trans ?_|refine(nth_w hk _).trans ?_|refine(zac el0 _).trans ?_)
   ·intro k hk1 hk4 again2 ha2
    have eq1:zdi h (k:Int)=some (big (qtyH k h)):=yhd hhs _
    have eq0:zdi h0 (k:Int)=some (big (qtyH k h0)):=yhd hh0 _
    have hq:=yka (l:=h) hhs.1 (k:Int)
    have hq0:=yka (l:=h0) hh0.1 (k:Int)
    have hhl:=hhs.2
    have hhl0:=hh0.2
    have hG:qtyH (k:Int) h+sumBy (fun r:zam=>qtyL (k:Int) r.2.2.1) out=qtyH (k:Int) h0:=G.qty (k:Int)
    have qR:∀i,-184467440737095516160000≤sumBy (fun r:zam=>qtyL k r.2.2.1) (out.take i)∧sumBy (fun r:zam=>qtyL k r.2.2.1) (out.take i)≤184467440737095516160000:=fun i=>by
     have:=zha (f:=fun r:zam=>qtyL k r.2.2.1) (B:=184467440737095516160) (l:=out.take i) (fun x hx=>yjy (G.ret x (List.mem_of_mem_take hx)).2.2 k)
     have h2:(out.take i).length≤1000:=by rw[List.length_take]; omega
     omega
    show stdW.cnd (decide ((k:Int)≤4)) (stdW.call (zdi h (k:Int)) _) _=_
    rw[cnd_y (decide_eq_true (by omega)),zac eq1]
    refine zgo (N:=out.length) (by omega) (fun i=>((i:Int),((big (qtyH k h+sumBy (fun r:zam=>qtyL k r.2.2.1) (out.take i))).1,((big (qtyH k h+sumBy (fun r:zam=>qtyL k r.2.2.1) (out.take i))).2.1,(out,()))))) _ (by rw[List.take_zero,zde,Int.add_zero]; rfl) ?_ ?_
    ·intro again3
     show stdW.cnd (decide ((out.length:Int)<(out.length:Int))) _ (stdW.call (zdi h0 (k:Int)) _)=_
     rw[zax,zac eq0,List.take_length,zac (cmp0 (by have:=qR out.length; rw[List.take_length]at this; unfold sml; omega) (by unfold sml; omega) hG),cnd_n (by rfl)]
     show again2 (IntKind.i64.wrap ((k:Int)+1),(out,()))=_
     rw[i64_s k (by omega)]; exact ha2
    ·intro i hi again3 ha3
     show stdW.cnd (decide ((i:Int)<(out.length:Int))) _ _=_
     rw[cnd_lt hi]
     refine join_g fun k26 hk26=>?_
     have kk:k26 ((big (qtyH k h+sumBy (fun r:zam=>qtyL k r.2.2.1) (out.take (i+1)))).1,((big (qtyH k h+sumBy (fun r:zam=>qtyL k r.2.2.1) (out.take (i+1)))).2.1,(out,())))=some true:=by
      subst hk26
      show again3 (IntKind.i64.wrap ((i:Int)+1),_)=_
      rw[i64_s i (by omega)]; exact ha3
     clear hk26 ha3
     have hr:=(G.ret _ (List.getElem_mem hi)).2.2
     have e1:zcy out[i].2.2.1 (k:Int)=some (big (qtyL k out[i].2.2.1)):=r_sum18 hr _
     have es:sumBy (fun r:zam=>qtyL k r.2.2.1) (out.take (i+1))=sumBy (fun r:zam=>qtyL k r.2.2.1) (out.take i)+qtyL k out[i].2.2.1:=by
      rw[List.take_succ_eq_append_getElem hi,zff,zbb,zde]; omega
     have e2:zaw ((big (qtyH k h+sumBy (fun r:zam=>qtyL k r.2.2.1) (out.take i))).1,((big (qtyH k h+sumBy (fun r:zam=>qtyL k r.2.2.1) (out.take i))).2.1,())) ((big (qtyL k out[i].2.2.1)).1,((big (qtyL k out[i].2.2.1)).2.1,()))=some (big (qtyH k h+sumBy (fun r:zam=>qtyL k r.2.2.1) (out.take (i+1)))):=by
      have:=r_addB (a:=qtyH k h+sumBy (fun r:zam=>qtyL k r.2.2.1) (out.take i)) (b:=qtyL k out[i].2.2.1) (by have:=qR i; unfold sml; omega) (yek hr _)
      rw[es,←Int.add_assoc]; exact this
     show stdW.idx out (i:Int) _=_
     rw[idx_w hi]
     show stdW.both (stdW.nth out (Int.toNat (i:Int)) fun x28=>stdW.call (zcy x28.2.2.1 (k:Int)) _) _=_
     repeat' (first|exact kk|refine zfz ?_ ?_|rw[nth_w hi]|rw[zac e1]|rw[zac e2])
  ·intro i hi again ha
   show stdW.cnd (decide ((i:Int)<(out.length:Int))) _ _=_
   rw[cnd_lt hi]
   refine join_g fun k8 hk8=>?_
   have kk:k8 ((big (sumBy amt p+sumBy (fun r:zam=>r.2.1) (out.take (i+1)))).1,((big (sumBy amt p+sumBy (fun r:zam=>r.2.1) (out.take (i+1)))).2.1,(out,())))=some true:=by
    subst hk8
    show again (IntKind.i64.wrap ((i:Int)+1),_)=_
    rw[i64_s i (by omega)]; exact ha
   clear hk8 ha
   have hr:=G.ret _ (List.getElem_mem hi)
   have hI:I64 out[i].2.1:=by unfold I64; omega
   have e1:zda out[i].2.1=some (big out[i].2.1):=r_of hI
   have es:sumBy (fun r:zam=>r.2.1) (out.take (i+1))=sumBy (fun r:zam=>r.2.1) (out.take i)+out[i].2.1:=by
    rw[List.take_succ_eq_append_getElem hi,zff,zbb,zde]; omega
   have e2:zaw ((big (sumBy amt p+sumBy (fun r:zam=>r.2.1) (out.take i))).1,((big (sumBy amt p+sumBy (fun r:zam=>r.2.1) (out.take i))).2.1,())) ((big out[i].2.1).1,((big out[i].2.1).2.1,()))=some (big (sumBy amt p+sumBy (fun r:zam=>r.2.1) (out.take (i+1)))):=by
    have:=r_addB (a:=sumBy amt p+sumBy (fun r:zam=>r.2.1) (out.take i)) (b:=out[i].2.1) (by have:=cR i; unfold sml; omega) (ykp hI)
    rw[es,←Int.add_assoc]; exact this
   show stdW.idx out (i:Int) _=_
   rw[idx_w hi]
   show stdW.both (stdW.nth out (Int.toNat (i:Int)) fun x10=>stdW.call (zda x10.2.1) _) _=_
   repeat' (first|exact kk|refine zfz ?_ ?_|rw[nth_w hi]|rw[zac e1]|rw[zac e2])
end Go.Proofs.YtbpbkmngbhgpfaaGreat

namespace Go.Proofs.YtbpbkmngbhgpfaaGreat
open Go Go.Vc Go.RowKit
theorem rest_true(x0:DT.den tAState)(x1:DT.den (.int .i64))(o0:DT.okD tAState x0)(_:DT.okD (.int .i64) x1):
  zjx x0 x1=some true:=by
 obtain⟨_,_,_,o3,o4,_,_,_,_,_,o10,o11,_⟩:=o0
 have hm:maxLen=9223372036854775807:=zbj
 refine rest_all (by have:=o3.2; rw[hm]at this; exact this) (by have:=o4.2; rw[hm]at this; exact this) (fun a ha=>by have:=(o4.1 a ha).2.2.2.1.2; rw[hm]at this; exact this)
  (by have:=o10.2; rw[hm]at this; exact this) (by have:=o11.2; rw[hm]at this; exact this) (fun a ha=>by have:=(o11.1 a ha).2.1.2; rw[hm]at this; exact this) ?_ ?_
 ·exact fun x hx=>wf_i64 (o10.1 x hx).2.1
 ·exact fun h hh x hx=>wf_i64 ((o11.1 h hh).2.1.1 x hx).2.2.1
end Go.Proofs.YtbpbkmngbhgpfaaGreat

namespace Go.Proofs.YtbpbkmngbhgpfaaGreat
open Go Go.Vc Go.RowKit Go.ChangeShapes Go.WideShapes Go.ChangeAt Go.Joins
theorem own:ownKnob Tryz.prog.godebug=none:=by kernel_rfl
theorem laidOut:laidOutB Tryz.prog=true:=by kernel_rfl
theorem zxd{H:Type}{enc:TypeId×Value→H}{w:World}{spare:Nat→Bool}{held:Bool}{t:TypeId}{v:Value}{d:DataW H}{p:List MemPlace}(h:DataW.Trod enc Tryz.prog w 0 spare held t v d p):∀x∈p,x.block<w.heap.size:=by
 obtain⟨m,hm⟩:=h; exact DataW.trod_lt m _ _ _ hm
end Go.Proofs.YtbpbkmngbhgpfaaGreat

namespace Go.Vc
open Go
def closT(T:List (List Nat)):Nat→List Nat→List Nat→List Nat
 |0,_,seen=>seen.reverse
 |_,[],seen=>seen.reverse
 |n+1,f::todo,seen=>if seen.contains f then closT T n todo seen else closT T n ((T[f]?).getD []++todo) (f::seen)
theorem lead_eq{P:Program}{T:List (List Nat)}(hT:P.funcs.toList.map P.leadsTo=T)(f:Nat):(P.funcs[f]?).elim [] P.leadsTo=(T[f]?).getD []:=by
 subst hT
 rw[List.getElem?_map,Array.getElem?_toList]
 cases P.funcs[f]?<;>rfl
theorem zki{P:Program}{T:List (List Nat)}(hT:P.funcs.toList.map P.leadsTo=T):∀n todo seen,P.closureVia n todo seen=closT T n todo seen
 |0,_,_=>by simp only[Program.closureVia,closT]
 |n+1,[],_=>by simp only[Program.closureVia,closT]
 |n+1,f::todo,seen=>by
  simp only[Program.closureVia,closT]
  rw[zki hT n,zki hT n,lead_eq hT f]
theorem ydb{P:Program}{T:List (List Nat)}(hT:P.funcs.toList.map P.leadsTo=T)(f:Nat):P.closure f=closT T (1+(T.map fun l=>l.length+1).sum) [f] []:=by
 unfold Program.closure
 rw[zki hT]
 subst hT
 rw[List.map_map]; rfl
end Go.Vc

namespace Go.Proofs.YtbpbkmngbhgpfaaGreat
open Go Go.Vc
def leadsT:List (List Nat):=[[],[],[1],[7,8,9,10,11,12,13,14,15,16,16,17],[7,9,17,18,20,19,18,21,22,23,19,22,21,24,25,25,27,27,26,17],[28,29,30,32,31,32,33,34,32,35,36,37,38,40,39,38],[41,43,44,42,45],[46,47,48,49,50],[],[51,52,53,54,13,55],[56,57,24,14,58,59],[60,61],[62,20,20,19,63,64],[65,66],[27,25],[67,68],[26],[9,11],[20,19],[70,69,71,72,69,72,69],[73,73,70],[74],[23,19],[20,19],[],[],[],[],[75,49],[],[34,76,77,78,79],[35,37,40,63,80,81,63,81,64,64,58],[],[82,67],[83,51],[84,56],[77],[85,85],[30,65,65,87,86],[63,20,21],[20,20,88,20,20,74,88],[89,75,75,49,50,46],[],[90,91,92,93,94,95,95,96,97],[98,99,100,99,100,100,99,100,99,100,99,99,100,99,100,99,100,101,101,99,100,99,100,100],[102,43,103,104,102,43,42],[],[105],[106],[],[8],[107],[108,107],[110,111,109],[],[112,113],[114],[115,114],[56,116,20,19,63,64,64],[114],[117,118,61],[119,121,120],[115,20,122,123,63,124,19,63,64],[125],[],[],[126],[],[26],[],[],[],[],[],[81,19],[127],[128],[128,129,129,131,130,132],[83,133,134,134],[135,51,112],[84,136,137,137],[69],[86],[138,107],[139,114],[],[],[140],[70,69],[],[],[141],[91,91,141,91,91,91,141,91,141,91,91,141],[91,91,91,91,142,143],[91,91,142,91,141,91,91,142,91,141,91],[91,142,91,91,141],[91,142,141,91,142,91,91,141],[144,145],[],[98],[146],[99,100,100],[],[147,148,149,150,151,152,152,154,153,158,157,161,162,43,163],[164,165,166,167,168,169,170,82,82,67,68],[171,122],[172,173],[],[174,175],[176],[177],[],[51,178,179,180,61],[108,181],[],[182,183],[114],[108,184],[185,186],[],[132],[187,188],[],[20,20,88],[123,20,88,189],[73,19],[],[],[129,129,190,191],[],[192,119,192,193,193,194,196,195,197],[119,119,192,192,193,196,196,195],[119],[198,135],[83,87,199,200,201,202,203],[119,119,204,120],[139,205,20,81,206],[84,208,207,114],[],[],[],[144,210,209],[91],[91],[],[],[98],[145],[211],[213,212,215,214,218,217],[220,219,223,222],[225,224,227,226],[230,229],[211,232],[155,156],[148,148],[211],[211,232],[155,160,159],[211,232],[148,148,156],[232],[233,234,235,236,237,238,238,239],[],[],[240],[],[241],[],[],[],[],[],[],[],[243,243,242],[],[244],[245],[246,247],[],[52,248],[],[],[],[249],[131,132],[194,194],[197],[69,73,74],[250],[],[196,251,251],[],[],[251,251],[],[],[138],[252,198,253,61],[107],[140],[],[254,255],[187,187,119,187,188],[],[63,64],[139,205,20,19,206],[],[],[],[256,257,258,259],[211,232],[148,156,148,148],[211,232],[148,156,156,156,156,216],[211,232],[211,232],[148,156,156],[211,232],[148,148,148,148,221],[211,232],[211,232],[155,155,211],[211,232],[148,155,148,156,156],[211,232],[148,155,155,228,156,148,148,148],[148,156],[211,232],[155,228,231],[211,232],[],[54],[260,128,185,261],[262,262,263],[262,264,265,266],[262,262,264,266,265],[262,264,83],[267,267,184,51,52],[268],[],[],[269,269],[],[],[271,270],[107,107],[126,107,126],[],[],[],[272],[],[],[273],[],[259,259],[],[],[],[274,275],[],[107],[276],[],[],[262],[],[],[277,278,279,280,281,282,283,284,270,270],[285,286],[],[287,287,287],[288],[289],[290,291],[],[292,292],[293,294],[295,295,295,296],[],[],[],[],[],[],[],[298,297],[],[300,299],[301],[],[271],[],[296],[302,302,302],[],[],[],[],[],[],[],[],[],[],[],[],[],[],[],[],[],[],[],[],[],[],[],[]]
set_option maxRecDepth 1000000 in
theorem ymp:Tryz.prog.funcs.toList.map Tryz.prog.leadsTo=leadsT:=by kernel_rfl
end Go.Proofs.YtbpbkmngbhgpfaaGreat
