import Derived.Test.YtllkmncnmlmefaaGreatB2
namespace Go.Vc
open Go Go.RowKit
theorem yia:∀{l l':List BK},tysE l l'=true→l.length≤l'.length
 |[],_,_=>Nat.zero_le _
 |_::_,[],h=>by simp[tysE]at h
 |_::l,_::l',h=>by simp only[tysE,Bool.and_eq_true]at h; have:=yia h.2; simp; exact this
theorem yhm:∀(l:List BK) (r:DT) (z:(bkT l r).den) (rw:List DR) (k:Nat),k<l.length→live (bkM l r z rw).1 k
 |[],_,_,_,k,h=>by simp at h
 |Bk::l,r,z,rw,k,h=>by
  cases k with
  |zero=>exact⟨_,rfl⟩
  |succ k=>exact yhm l r _ _ k (by simpa using h)
section
variable {P:Program} {T:List TI} {V:World} {U0 L:Nat→Prop} {al:Nat→Bool} {B:Nat→Nat} {A:Asg} {ts:List DV} {pb:DBs} {rw:List DR} {a:Act} {w:World} {β:Type} {q:β} {o:Oper} {K:DK β} {Q:Exit→Act→World→Prop} {C:ESs} {av:List (Nat×Nat)}
theorem ykt{g:FuncId}{s:LS}{am:List (Nat×Nat)}{vw:List Nat}{xs0 xs:List DV}{vs:List Value}(fr:Bool)(hs:LSok P g s)(h:callE stdW s al am vw xs ts pb rw (fun r ts pb rw=>retE o.dst r ts pb rw K)=some q)(m:Mem V U0 L B A pb rw w)(hts:hL (env U0 B A pb rw w) ts a.tmps.toList)
  (hxs:∀(bor:Nat→Prop),(fr=true→∀j,¬bor j)→(fr=false→∀j∈vw,bor j)→hL ⟨fun b=>Us U0 B A pb rw b∧¬ ∃j,bor j∧blk B A [] rw true j b,w,B,A,pb,rw⟩ xs vs) (hfree:fr=false→s.Q.free=true∧bkFree s.E=true)
  (hrun:(execOp a.eval o).run P w=(callFunc g vs.toArray).run P w):o.wp P a w (Nxt V U0 L al B A pb rw w a K q) Q:=by
 unfold callE at h
 split at h
 ·rename_i z ms hck hX
  simp only[Bool.and_eq_true]at hck
  obtain⟨⟨⟨hnd,hall⟩,hty⟩,hkl⟩:=hck
  split at h
  ·rename_i hdis
   simp only[zek,zjf]at h
   obtain⟨y,hy,h⟩:=call_s h
   let bor:Nat→Prop:=fun j=>fr=false∧∀n:Nat,ms.rs[n]?≠some (some j)
   have hb1:fr=true→∀j,¬bor j:=fun hf j ⟨h,_⟩=>by rw[hf]at h; cases h
   have hb2:fr=false→∀j∈vw,bor j:=fun hf j hj=>⟨hf,fun n hn=>disN_s hdis j hj (zpz.2 ⟨n,hn⟩)⟩
   have hxs:=hxs bor hb1 hb2
   let E:Env:=⟨fun b=>Us U0 B A pb rw b∧¬ ∃j,bor j∧blk B A [] rw true j b,w,B,A,pb,rw⟩
   have hlE:Later (Us U0 B A pb rw) E.U w w:=⟨fun _ _ _=>rfl,Nat.le_refl _,fun b _ hu=>hu.1⟩
   have hsE:Sub noF (env U0 B A pb rw w) E:=⟨hlE,fun i h=>⟨h,rfl⟩,fun j e t l _ h=>⟨l,h,rfl,rfl⟩,fun j d _ h=>⟨⟨d,h,rfl⟩,rfl⟩,fun j p e t l h=>(by cases h),fun j p d ad h=>(by cases h)⟩
   obtain⟨z0,m1,rw1,g1,g2,g3,⟨a1,g4⟩,⟨b1,g5⟩,g6,g7,g8⟩:=bkX_s (am:=am) (E:=E) s.B 0 (pkT s.P .unit) ⟨[],rw⟩ _ [] z ms hX (MI.nil E)
   obtain⟨u0,m2,rw2,k1,k2,k3,⟨a2,k4⟩,⟨b2,k5⟩,k6⟩:=pkX_s (am:=am) (E:=E) s.P .unit xs m1 _ rw1 z0 ms g1 g3
   simp only[Option.some.injEq,Prod.mk.injEq]at k1
   obtain⟨_,rfl⟩:=k1
   have e1:bkM s.B (pkT s.P .unit) z []=((bkM s.B (pkT s.P .unit) z []).1,z0,rw1):=by rw[←g2]
   have e2:pkM s.P .unit z0 rw1=((pkM s.P .unit z0 rw1).1,u0,rw2):=by rw[←k2]
   generalize hpb0:(bkM s.B (pkT s.P .unit) z []).1=pb0 at e1 g6 g7 g8
   generalize hargs0:(pkM s.P .unit z0 rw1).1=args0 at e2 k6
   have hctr:=hs z y hy
   rw[e1]at hctr
   simp only[e2]at hctr
   have hr:=k3.row
   have hlive:∀k,k<s.B.length→∃i,lkA am k=some i∧live pb i:=fun k hk=>by
    obtain⟨b0,hb0⟩:=g8 k hk
    obtain⟨i,b,h1,h2,_⟩:=g7 k b0 hb0
    exact⟨i,by simpa using h1,b,h2⟩
   have hpl0:∀k,live pb0 k→k<s.B.length:=fun k ⟨b,hb⟩=>by rw[←g6]; exact(List.getElem?_eq_some_iff.1 hb).1
   let σ0:Nat→Option Nat:=fun k=>match Nat.blt k s.B.length with|true=>lkA am k|false=>none
   have σ0s:∀k i,σ0 k=some i→k<s.B.length∧lkA am k=some i:=fun k i h=>by
    simp only[σ0]at h
    split at h
    ·rename_i hb; exact⟨Nat.le_of_ble_eq_true hb,h⟩
    ·cases h
   have σ0e:∀k,k<s.B.length→σ0 k=lkA am k:=fun k hk=>by
    simp only[σ0]
    rw[show Nat.blt k s.B.length=true from Nat.ble_eq_true_of_le hk]
   have tri:TrI am m2.rs E (env (lU (Us U0 B A pb rw) B A rw (Ow (lB B σ0) (lA A m2.rs) pb0 rw2) bor) (lB B σ0) (lA A m2.rs) pb0 rw2 w):=by
    refine⟨⟨fun _ _ _=>rfl,Nat.le_refl _,fun b _ hu=>?_⟩,fun k i hk hl=>?_,fun n j e t l hn hj=>?_,fun n hn=>?_⟩
    ·rcases hu with hu|⟨k,i,hu⟩
     ·exact⟨hu.1,hu.2.2⟩
     ·cases k with
      |true=>
       obtain⟨r,ad,h1,h2,h3,h4⟩:=hu
       rcases hr i r h1 with ⟨j,e,t,l,c1,c2,c3⟩|⟨c1,_⟩
       ·have hbl:blk B A pb rw true j b:=⟨r,ad,c2,h2,by simpa only[lA,c1]using h3,h4⟩
        refine⟨.inr ⟨_,_,hbl⟩,?_⟩
        rintro⟨j',hj',hb'⟩
        have:=(m.inj _ _ _ _ _ hbl (show blk B A pb rw true j' b from hb')).2
        subst this
        exact hj'.2 i c1
       ·simp only[lA,c1]at h3; cases h3
      |false=>
       obtain⟨⟨b0,h1⟩,h2⟩:=hu
       have hk:=hpl0 i ⟨b0,h1⟩
       obtain⟨i',b',c1,c2,_⟩:=g7 i b0 h1
       rw[Nat.zero_add]at c1
       have hbl:blk B A pb rw false i' b:=⟨⟨b',c2⟩,by simpa only[lB,σ0e i hk,c1,Option.getD_some]using h2⟩
       refine⟨.inr ⟨_,_,hbl⟩,?_⟩
       rintro⟨j',hj',hb'⟩
       have:=(m.inj _ _ _ _ _ hbl (show blk B A pb rw true j' b from hb')).1
       cases this
    ·have hkB:=ztv hkl hk
     obtain⟨b0,hb0⟩:=g8 k hkB
     refine⟨⟨b0,hb0⟩,?_⟩
     show lB B σ0 k=B i
     simp only[lB,σ0e k hkB,hk,Option.getD_some]
    ·obtain⟨n',hn'⟩:∃r,rw2[n]?=some r:=⟨_,List.getElem?_eq_getElem (by rw[←k3.len]; exact(List.getElem?_eq_some_iff.1 hn).1)⟩
     rcases hr n n' hn' with ⟨j',e',t',l',c1,c2,c3⟩|⟨c1,_⟩
     ·rw[hn]at c1; simp only[Option.some.injEq]at c1; subst c1
      have hj:E.rw[j]?=some (.own e t l):=hj
      rw[hj]at c2; simp only[Option.some.injEq]at c2
      refine⟨by rw[c2]; exact hn',?_⟩
      show lA A m2.rs n=A j
      simp only[lA,hn]
     ·rw[hn]at c1; cases c1
    ·obtain⟨n',hn'⟩:∃r,rw2[n]?=some r:=⟨_,List.getElem?_eq_getElem (by rw[←k3.len]; exact(List.getElem?_eq_some_iff.1 hn).1)⟩
     rcases hr n n' hn' with ⟨j',e',t',l',c1,c2,c3⟩|⟨_,e,t,c1⟩
     ·rw[hn]at c1; cases c1
     ·refine⟨⟨e,t,by rw[←c1]; exact hn'⟩,?_⟩
      show lA A m2.rs n=(none,0)
      simp only[lA,hn]
   have hbw:∀(k:Nat) (b0:DB),pb0[k]?=some (some b0)→∃i b,σ0 k=some i∧pb[i]?=some (some b)∧b0.ty=b.ty∧b0.w=true:=fun k b0 h=>by
    obtain⟨i,b,h1,h2,h3,h4,_⟩:=g7 k b0 h
    rw[Nat.zero_add]at h1
    exact⟨i,b,by rw[σ0e k (hpl0 k ⟨b0,h⟩)]; exact h1,h2,h3,h4⟩
   obtain⟨m0,hU,hr1,hbl1⟩:=m.lend (σ:=σ0) (rs:=m2.rs) (bor:=bor) (pb0:=pb0) (rw0:=rw2) hbw
    (fun k b0 i b h1 h2 h3 us hu=>by
     obtain⟨i',b',c1,c2,_,_,c5⟩:=g7 k b0 h1
     rw[Nat.zero_add]at c1
     rw[(σ0s k i h2).2]at c1; simp only[Option.some.injEq]at c1; subst c1
     have c2:pb[i]?=some (some b'):=c2
     rw[h3]at c2; simp only[Option.some.injEq]at c2; subst c2
     exact c5 _ ⟨a2,k4⟩ tri us (noSub hsE hu))
    (fun k k' i h h'=>yal hnd (σ0s k i h).2 (σ0s k' i h').2) (fun n r h=>hr n r h) k3.inj
   refine yhl hrun (hctr _ _ _ vs w m0 (k6 _ vs ⟨[],by simp⟩ tri hxs)) ?_
   rintro v w' ⟨B1,A1,r,pb1,rw1',m1',hrv,hlv,hpb1,hmk⟩
   have hm:=hty
   have hEl:=yia hty
   let σ:=sigA am s.B.length (subB' (someD (someN m2.rs)) pb).length
   have hσlt:∀k i,k<s.B.length→lkA am k=some i→i<pb.length:=fun k i hk hi=>by
    obtain⟨i',h1,⟨b,hb⟩⟩:=hlive k hk
    rw[hi]at h1; simp only[Option.some.injEq]at h1; subst h1
    exact(List.getElem?_eq_some_iff.1 hb).1
   have σlo:∀k,k<s.B.length→σ k=lkA am k:=fun k hk=>by
    simp only[σ,sigA]; rw[show Nat.blt k s.B.length=true from Nat.ble_eq_true_of_le hk]
   have σhi:∀k,s.B.length≤k→σ k=some (pb.length+(k - s.B.length)):=fun k hk=>by
    simp only[σ,sigA]
    rw[show Nat.blt k s.B.length=false from by
     cases hb:Nat.blt k s.B.length with
     |false=>rfl
     |true=>have:=Nat.le_of_ble_eq_true hb; omega]
    simp only[zkc]
   have hσ:∀(k k' i:Nat),σ k=some i→σ k'=some i→k=k':=fun k k' i h h'=>by
    rcases Nat.lt_or_ge k s.B.length with hk|hk
    ·rw[σlo k hk]at h
     have h3:=hσlt k i hk h
     rcases Nat.lt_or_ge k' s.B.length with hk'|hk'
     ·rw[σlo k' hk']at h'; exact yal hnd h h'
     ·rw[σhi k' hk']at h'; simp only[Option.some.injEq]at h'; omega
    ·rw[σhi k hk]at h; simp only[Option.some.injEq]at h
     rcases Nat.lt_or_ge k' s.B.length with hk'|hk'
     ·rw[σlo k' hk']at h'; have:=hσlt k' i hk' h'; omega
     ·rw[σhi k' hk']at h'; simp only[Option.some.injEq]at h'; omega
   have ro0:RO m2.rw [] m2.rs m2.rw []:=⟨rfl,fun n j r h=>(by simp at h),fun n n' j h=>(by simp at h),fun a j h=>⟨k3.gone a j h,k3.gone a j h,fun n h=>(by simp at h)⟩,fun a b j h h'=>k3.inj a b j h h',fun _ _=>rfl,fun n j h=>(by simp at h),fun n r h=>(by simp at h)⟩
   obtain⟨ρ1,pbF,rwF1,js1,f1,f2,f3,f4,f5,f6,f7,f8⟩:=bkO_s (σ:=σ) (base:=m2.rw) hσ s.E 0 .unit y.2 m2.rs _ m2.rw _ [] [] h ro0 (fun k i hk hi=>by rw[zkc]; exact hσlt k i hk (by rw[←σlo k hk]; exact hi)) (fun k hk _=>by rw[σhi k hk,zkc,Nat.zero_max])
   obtain⟨d,ρ2,rwF,js,q1,q2,q3,q4⟩:=QT.o_s s.Q y.1 ρ1 rwF1 _ _ js1 f1 f2
   rw[←hmk]at q2 q4
   have hokE:fr=false→(∀(k:Nat) b,(bkM s.E .unit y.2 []).1[k]?=some (some b)→okfL false b.cells=true)∧rwFree (bkM s.E .unit y.2 []).2.2:=fun hf=>bkM_okf s.E .unit y.2 [] (hfree hf).2 (fun n e t l h=>(by simp at h))
   have hokQ:fr=false→(s.Q.mk y.1 (bkM s.E .unit y.2 []).2.2).1.okf false=true∧rwFree (s.Q.mk y.1 (bkM s.E .unit y.2 []).2.2).2:=fun hf=>QT.mk_okf s.Q y.1 _ (hfree hf).1 (hokE hf).2
   have pbl:∀i,live (subB' (someD (someN m2.rs)) pb) i↔live pb i:=fun i=>zdq
   have ltl:∀{pb:DBs} {i:Nat},live pb i→i<pb.length:=fun ⟨b,hb⟩=>(List.getElem?_eq_some_iff.1 hb).1
   obtain⟨M,S,X,tr⟩:=Mem.back (al:=al) (σ:=σ) (pbF:=pbF) (base:=m2.rw) (someD (someN m2.rs)) fr m hr1 hbl1 (fun k i h=>allN_s hall (σ0s k i h).2) m1' hlv hσ (fun k i _ h=>by rw[σlo k (σ0s k i h).1]; exact(σ0s k i h).2)
    (fun k i h=>g8 k (σ0s k i h).1)
    (fun k i hl hk=>by
     rcases Nat.lt_or_ge k s.B.length with hk'|hk'
     ·exact .inl (by rw[σ0e k hk',←σlo k hk']; exact hk)
     ·refine .inr fun hl'=>?_
      rw[σhi k hk']at hk; simp only[Option.some.injEq]at hk
      have:=ltl hl'; omega)
    (fun i b' hi=>by
     have hcase:(∃k b1,σ k=some i∧pb1[k]?=some (some b1))∨¬ ∃k b1,σ k=some i∧pb1[k]?=some (some b1):=Classical.em _
     rcases hcase with ⟨k,b1,c1,c2⟩|hno
     ·rw[hpb1]at c2
      have:=f5 k b1 i c2 (by rw[Nat.zero_add]; exact c1) js q3
      rw[hi]at this; simp only[Option.some.injEq]at this; subst this
      exact .inl ⟨k,b1,c1,by rw[hpb1]; exact c2,rfl,rfl,rfl⟩
     ·have hno':∀k,σ k=some i→¬live pb1 k:=fun k hk ⟨b1,hb1⟩=>hno ⟨k,b1,hk,hb1⟩
      have hBno:∀k,k<s.B.length→σ k≠some i:=fun k hk hki=>by
       refine hno' k hki ?_
       rw[hpb1]
       exact yhm s.E .unit y.2 [] k (by omega)
      refine .inr ⟨hno',fun k hk=>hBno k (σ0s k i hk).1 (by rw[σlo k (σ0s k i hk).1]; exact(σ0s k i hk).2),?_⟩
      have hil:=(List.getElem?_eq_some_iff.1 hi).1
      rcases f6 i hil with h'|⟨k,c1,c2,c3⟩
      ·rw[f4 i h' fun k _ hk=>hBno k hk]at hi
       exact zgp.1 hi
      ·rw[Nat.zero_add]at c3
       exact absurd (by rw[hpb1]; exact yhm s.E .unit y.2 [] k c1) (hno' k c3))
    (fun i hl=>f7 i (by rw[zkc]; exact ltl hl) ((pbl i).2 hl))
    (fun k i hk hl=>by
     obtain⟨b1,hb1⟩:=hl
     rw[hpb1]at hb1
     exact⟨_,f5 k b1 i hb1 (by rw[Nat.zero_add]; exact hk) js q3⟩)
    q2 (fun j hn=>k3.left j hn) (fun n j hn=>k3.gone n j hn)
    (fun j hj n hn=>(someD_s.1.1 hj) (zpz.2 ⟨n,hn⟩)) (fun j p hp=>someD_s.2 p hp) hb1
    (fun k b hb=>by
     cases hf:fr with
     |true=>exact zmv _
     |false=>rw[hpb1]at hb; exact(hokE hf).1 k b hb)
    (fun hf=>by have:=(hokQ hf).2; rw[←hmk]at this; exact this)
   refine Nxt.ret q1 M (zdr S _ hts) ?_ X
   rw[q4 js (Pre.refl _)]
   refine DV.ren_h tr r ?_ hrv
   cases hf:fr with
   |true=>exact DV.okf_true r
   |false=>have:=(hokQ hf).1; rw[←hmk]at this; exact this
  ·cases h
 ·cases h
end
end Go.Vc

namespace Go.Vc
open Go Go.RowKit
mutual
theorem PK.view_ex(rw:List DR):(p:PK)→(u:DV)→∃u',∀{β:Type} (K:DV→Option β),p.view rw u K=K u'
 | .v t,u=>⟨u.sub (viewD rw),fun K=>by simp only[PK.view,DV.subE_eq]⟩
 | .row e t,u=>⟨u,fun K=>by cases u<;>rfl⟩
 | .ptr k,u=>⟨u,fun K=>by cases u<;>rfl⟩
 | .fn g l,u=>by
  cases u with
  |fn g' cs=>obtain⟨us,h⟩:=zti rw l cs; exact⟨.fn g' us,fun K=>by simp only[PK.view]; rw[h]⟩
  |_=>exact⟨_,fun K=>rfl⟩
 | .agg l,u=>by
  cases u with
  |agg cs=>obtain⟨us,h⟩:=zti rw l cs; exact⟨.agg us,fun K=>by simp only[PK.view]; rw[h]⟩
  |_=>exact⟨_,fun K=>rfl⟩
theorem zti(rw:List DR):(l:List PK)→(us:List DV)→∃us',∀{β:Type} (K:List DV→Option β),viewL rw l us K=K us'
 |[],us=>⟨us,fun K=>rfl⟩
 |_::_,[]=>⟨[],fun K=>rfl⟩
 |p::l,u::us=>by
  obtain⟨u',h1⟩:=PK.view_ex rw p u
  obtain⟨us',h2⟩:=zti rw l us
  exact⟨u'::us',fun K=>by simp only[viewL]; rw[h1,h2]⟩
end
section
variable {P:Program} {T:List TI} {V:World} {U0 L:Nat→Prop} {al:Nat→Bool} {B:Nat→Nat} {A:Asg} {ts:List DV} {pb:DBs} {rw:List DR} {a:Act} {w:World} {β:Type} {q:β} {o:Oper} {K:DK β} {Q:Exit→Act→World→Prop} {C:ESs} {av:List (Nat×Nat)}
def OD.obj?:OD→Option (List KU)
 | .set ks=>some ks
 |_=>none
theorem Mem.viewE(m:Mem V U0 L B A pb rw w){U':Nat→Prop}{h:Nat→Prop}(hU:∀b,U' b→Us U0 B A pb rw b)(hn:∀j,¬h j→∀b,U' b→¬blk B A pb rw true j b)(f:Nat→Option DV)(hf:∀j,(h j∧f j=(viewD rw j).map fun _=>.junk)∨(¬h j∧f j=viewD rw j)):
  Sub f (env U0 B A pb rw w) ⟨U',w,B,A,pb,rw⟩:=by
 have hnone:∀j,f j=none→viewD rw j=none:=fun j hj=>by
  rcases hf j with ⟨_,h⟩|⟨_,h⟩
  ·rw[hj]at h; simpa using h.symm
  ·rw[←h]; exact hj
 refine⟨⟨fun _ _ _=>rfl,Nat.le_refl _,fun b _ h=>hU b h⟩,fun i h=>⟨h,rfl⟩,fun j e t l hj hr=>?_,fun j d _ h=>⟨⟨d,h,rfl⟩,rfl⟩,fun j p e t l hj hr=>?_,fun j p d ad hj hr ha=>?_⟩
 ·have:=hnone j hj
  have hr:rw[j]?=some (.own e t l):=hr
  rw[yeo hr]at this; cases this
 ·have hr:rw[j]?=some (.own e t l):=hr
  rcases hf j with ⟨_,h⟩|⟨h0,h⟩
  ·rw[hj,yeo hr]at h; simp only[Option.map_some,Option.some.injEq]at h; subst h; simp only[DV.h]
  ·rw[hj,yeo hr]at h; simp only[Option.some.injEq]at h; subst h
   simp only[DV.h]
   exact m.viewRow hr hU (hn j h0)
 ·have hr:rw[j]?=some (.obj d):=hr
  have hv:viewD rw j=match (OD.obj? d) with|some ks=>some (.set ks)|none=>none:=by
   unfold viewD; rw[zbm,hr]; cases d<;>rfl
  cases d with
  |set ks=>
   rcases hf j with ⟨_,h⟩|⟨h0,h⟩
   ·rw[hj,hv]at h; simp only[OD.obj?,Option.map_some,Option.some.injEq]at h; subst h; simp only[DV.h]
   ·rw[hj,hv]at h; simp only[OD.obj?,Option.some.injEq]at h; subst h
    simp only[DV.h]
    exact m.viewSet hr ha (hn j h0)
  |_=>rcases hf j with ⟨_,h⟩|⟨h0,h⟩<;>(rw[hj,hv]at h; simp[OD.obj?]at h)
theorem callM_ok{g:FuncId}{s:MU}{xs:List DV}{vs:List Value}(hs:MUok P g s)(h:callM stdW s xs ts pb rw (fun r ts pb rw=>retE o.dst r ts pb rw K)=some q)(m:Mem V U0 L B A pb rw w)(hts:hL (env U0 B A pb rw w) ts a.tmps.toList)(hxs:hL (env U0 B A pb rw w) xs vs)
  (hrun:(execOp a.eval o).run P w=(callFunc g vs.toArray).run P w):o.wp P a w (Nxt V U0 L al B A pb rw w a K q) Q:=by
 unfold callM at h
 split at h
 ·rename_i j ys
  split at h
  ·rename_i e t l hj
   rw[zbm]at hj
   split at h
   ·rename_i hh z ms hck hsame hX
    split at h
    ·rename_i hrs
     subst hh
     obtain⟨l',hl',h⟩:=call_s h
     rw[zdg]at h
     simp only[Bool.and_eq_true]at hck
     obtain⟨hck,hfree⟩:=hck
     have he:=Nat.eq_of_beq_eq_true hck
     subst he
     have hl':s.fn l z=some l':=hl'
     obtain⟨hlen,hc⟩:=hs l z l' hl'
     simp only[hL,DV.h]at hxs
     obtain⟨v0,vs',rfl,⟨e1,t1,l1,hj1,rfl⟩,hys⟩:=hxs
     have hj1:rw[j]?=some (.own e1 t1 l1):=hj1
     rw[hj]at hj1; simp only[Option.some.injEq,DR.own.injEq]at hj1
     obtain⟨rfl,rfl,hl1⟩:=hj1
     cases hl1
     obtain⟨m0,hU,hr1,_⟩:=m.lend (σ:=fun _=>none) (rs:=[some j]) (bor:=fun _=>False) (pb0:=[]) (rw0:=[.own s.e s.t l]) (by simp) (by simp) (by simp)
      (fun n r hr=>by
       cases n with
       |zero=>simp at hr; subst hr; exact .inl ⟨j,_,_,_,rfl,hj,rfl⟩
       |succ n=>simp at hr)
      (fun n n' k h1 h2=>by
       cases n with
       |zero=>cases n' with
        |zero=>rfl
        |succ n'=>simp at h2
       |succ n=>simp at h1)
     obtain⟨z0,m1,rw1,k1,_,_,_,_,k6⟩:=pkX_s (am:=[]) (E:=env U0 B A pb rw w) s.P .unit ys ⟨[],rw⟩ _ [] z ms hX (MI.nil (env U0 B A pb rw w))
     have hA0:lA A [some j] 0=A j:=rfl
     have hLb:∀b,Ow (lB B fun _=>none) (lA A [some j]) [] [.own s.e s.t l] b→blk B A pb rw true j b:=by
      rintro b ⟨k,i,hb⟩
      cases k with
      |false=>obtain⟨⟨_,hb⟩,_⟩:=hb; simp at hb
      |true=>
       obtain⟨j',h1,h2⟩:=hr1 i b hb
       cases i with
       |zero=>simp at h1; subst h1; exact h2
       |succ i=>simp at h1
     refine yhl hrun (hc _ _ _ _ w m0 ?_) ?_
     ·simp only[hL,DV.h]
      refine⟨_,_,rfl,⟨_,_,_,rfl,by show _=Value.slice (lA A [some j] 0).1 _ (lA A [some j] 0).2; rw[hA0]; rfl⟩,k6 _ _ ?_ ?_ hys⟩
      ·simp only[Option.some.injEq,Prod.mk.injEq]at k1
       exact⟨[],by rw[k1.2,List.append_nil]⟩
      ·refine⟨⟨fun _ _ _=>rfl,Nat.le_refl _,fun b _ hu=>hU b hu⟩,fun k i hk=>(by simp[lkA]at hk),fun n j' e t l hn=>(by rw[hrs]at hn; simp at hn),fun n hn=>(by rw[hrs]at hn; simp at hn)⟩
     ·rintro v w' ⟨rfl,m'⟩
      have hlt:=(List.getElem?_eq_some_iff.1 hj).1
      obtain⟨m2,s2,e2⟩:=m.putRow (al:=al) (j:=j) (f:=noF) (rw':=rw.set j (.own s.e s.t l')) (e:=s.e) (t:=s.t) (l:=l') (a:=(A j).1) (c:=(A j).2) (w':=w')
       (by rw[List.getElem?_set,if_pos rfl,if_pos hlt]) (fun k hk=>by rw[List.getElem?_set,if_neg (Ne.symm hk)]) (fun _ _ h=>by cases h)
       (fun _ e4 t4 l4 h4=>by
        rw[hj]at h4; simp only[Option.some.injEq,DR.own.injEq]at h4
        obtain⟨rfl,rfl,h4⟩:=h4
        cases h4
        exact⟨_,by rw[List.getElem?_set,if_pos rfl,if_pos hlt],hlen,rfl⟩)
       (fun _ d h4=>by rw[hj]at h4; cases h4) ⟨m'.os,m'.tape,m'.output,m'.size⟩
       (fun b hb hnb=>m'.same b hb fun h=>hnb (hLb b h))
       (fun x hx=>.inl ⟨_,x,hj,by simp,hx,rfl⟩)
       (fun U' lt=>by
        obtain⟨xs,h1,h2⟩:=m'.row 0 s.e s.t l' rfl
        rw[hA0]at h1
        exact⟨xs,h1,h2.1,fun i x hi=>s.t.h_free hfree (h2.2 i x hi)⟩)
      rw[show upd A j ((A j).1,(A j).2)=A from zuf A j]at m2 s2 e2
      rw[ztk]at m2 s2 e2
      exact Nxt.ret h m2 (noSub s2 hts) (by simp only[DV.h,hL]; exact⟨#[],rfl,rfl⟩) e2
    ·cases h
   ·cases h
  ·cases h
 ·cases h
theorem yks{g:FuncId}{xs:List DV}{vs:List Value}(hC:CsOk P C)(h:callV stdW C al g xs ts pb rw (fun r ts pb rw=>retE o.dst r ts pb rw K)=some q)(m:Mem V U0 L B A pb rw w)(hts:hL (env U0 B A pb rw w) ts a.tmps.toList)(hxs:hL (env U0 B A pb rw w) xs vs)
  (hrun:(execOp a.eval o).run P w=(callFunc g vs.toArray).run P w):o.wp P a w (Nxt V U0 L al B A pb rw w a K q) Q:=by
 unfold callV at h
 split at h
 ·rename_i s hs
  exact callM_ok (esV_s hC hs:MUok P g s) h m hts hxs hrun
 ·rename_i s hs
  have hs:ESok P g s:=esV_s hC hs
  split at h
  ·rename_i hfree
   rw[zek]at h
   have sv:=m.viewE (U':=lU (Us U0 B A pb rw) B A rw (fun _=>False) (fun _=>True)) (h:=fun _=>False) (fun b h=>h.1) (fun j _ b h hb=>h.2.2 ⟨j,trivial,hb⟩) (viewD rw) (fun j=>.inr ⟨id,rfl⟩)
   exact esF_ok false (fun _=>True) hs h m hts (zdr sv xs hxs) (fun h=>by cases h) (fun _=>hfree) hrun
  ·obtain⟨ts1,pb1,rw1,ps,h,m1,hts1,hps,e1,_⟩:=frzE_s (al:=al) _ h m hts hxs
   have s1:Sub noF (env U0 B A pb1 rw1 w) ⟨lU (Us U0 B A pb1 rw1) B A rw1 (fun _=>False) (fun _=>False),w,B,A,pb1,rw1⟩:=
    ⟨⟨fun _ _ _=>rfl,Nat.le_refl _,fun b _ h=>h.1⟩,fun i h=>⟨h,rfl⟩,fun j e t l _ h=>⟨l,h,rfl,rfl⟩,fun j d _ h=>⟨⟨d,h,rfl⟩,rfl⟩,fun j p e t l h=>(by cases h),fun j p d ad h=>(by cases h)⟩
   have:=esF_ok (al:=al) (Q:=Q) true (fun _=>False) hs h m1 hts1 (noSub s1 hps) (fun _ j h=>h) (fun h=>by cases h) hrun
   exact zno this fun a' w' hn=>Nxt.more e1 rfl hn
 ·rename_i s hs
  have hs:LSok P g s:=esV_s hC hs
  dsimp only at h
  split at h
  ·rename_i hfree
   simp only[Bool.and_eq_true]at hfree
   obtain⟨ts1,pb1,rw1,xs1,h,m1,hts1,hxs1,e1,_⟩:=frzE_s (al:=al) _ h m hts hxs
   obtain⟨ys,hys⟩:=zti rw1 s.P xs1
   rw[hys]at h
   have:=ykt (xs0:=[]) (al:=al) (Q:=Q) false hs h m1 hts1 (fun bor _ hb=>by
    classical
    let f:Nat→Option DV:=fun j=>if bor j then viewD rw1 j else (viewD rw1 j).map fun _=>.junk
    have sv:=m1.viewE (U':=fun b=>Us U0 B A pb1 rw1 b∧¬ ∃j,bor j∧blk B A [] rw1 true j b) (h:=fun j=>¬bor j) (fun b h=>h.1) (fun j hj b h hbl=>h.2 ⟨j,Classical.not_not.1 hj,hbl⟩) f (fun j=>by
     by_cases hbj:bor j
     ·exact .inr ⟨Classical.not_not.2 hbj,if_pos hbj⟩
     ·exact .inl ⟨hbj,if_neg hbj⟩)
    have s0:Sub noF (env U0 B A pb1 rw1 w) ⟨fun b=>Us U0 B A pb1 rw1 b∧¬ ∃j,bor j∧blk B A [] rw1 true j b,w,B,A,pb1,rw1⟩:=
     ⟨⟨fun _ _ _=>rfl,Nat.le_refl _,fun b _ h=>h.1⟩,fun i h=>⟨h,rfl⟩,fun j e t l _ h=>⟨l,h,rfl,rfl⟩,fun j d _ h=>⟨⟨d,h,rfl⟩,rfl⟩,fun j p e t l h=>(by cases h),fun j p d ad h=>(by cases h)⟩
    obtain⟨⟨us,h1,h2⟩,_⟩:=zyr (q:=ys) sv s0 (fun j=>by
     show (if bor j then viewD rw1 j else (viewD rw1 j).map fun _=>DV.junk).isSome=_
     split
     ·rfl
     ·simp) s.P xs1 [] (fun l=>some l) (fun j hj=>if_pos (hb rfl j hj)) (hys some)
    simp only[Option.some.injEq]at h1; subst h1
    exact h2 vs hxs1) (fun _=>hfree) hrun
   exact zno this fun a' w' hn=>Nxt.more e1 rfl hn
  ·obtain⟨ts1,pb1,rw1,xs1,h,m1,hts1,hxs1,e1,_⟩:=frzE_s (al:=al) _ h m hts hxs
   have:=ykt (xs0:=[]) (al:=al) (Q:=Q) true hs h m1 hts1 (fun bor hb _=>by
    have s1:Sub noF (env U0 B A pb1 rw1 w) ⟨fun b=>Us U0 B A pb1 rw1 b∧¬ ∃j,bor j∧blk B A [] rw1 true j b,w,B,A,pb1,rw1⟩:=
     ⟨⟨fun _ _ _=>rfl,Nat.le_refl _,fun b _ h=>h.1⟩,fun i h=>⟨h,rfl⟩,fun j e t l _ h=>⟨l,h,rfl,rfl⟩,fun j d _ h=>⟨⟨d,h,rfl⟩,rfl⟩,fun j p e t l h=>(by cases h),fun j p d ad h=>(by cases h)⟩
    exact noSub s1 hxs1) (fun h=>by cases h) hrun
   exact zno this fun a' w' hn=>Nxt.more e1 rfl hn
 ·cases h
theorem op_call{c:Call}(hT:zas P T)(hC:CsOk P C)(ho:o.op=.call c)(h:evOp stdW T C al av o ts pb rw K=some q)(m:Mem V U0 L B A pb rw w)(hts:hL (env U0 B A pb rw w) ts a.tmps.toList):o.wp P a w (Nxt V U0 L al B A pb rw w a K q) Q:=by
 cases hcal:c.callee with
 |value f=>
  have h0:=h
  simp only[evOp,ho,hcal]at h
  split at h
  ·rename_i g caps xs hf hx
   have hf:=opV_h hf hts
   have hx:=opsV_h hx hts
   simp only[DV.h]at hf
   obtain⟨cv,hfv,hcv⟩:=hf
   split at h
   ·rename_i hb
    refine yks hC h m hts (hL_app hcv hx) ?_
    rw[call_first ho hcal (hfv.trans (fnV_t hb cv))]
    congr 2
    apply Array.ext'
    simp
   ·rename_i hb
    refine yks hC h m hts (hL_app hx hcv) ?_
    rw[yeh ho hcal (hfv.trans (fnV_f hb cv))]
    congr 2
    apply Array.ext'
    simp
  ·cases h
 |invoke r s=>simp only[evOp,ho,hcal]at h; cases h
 |builtin b=>
  have h0:=h
  simp only[evOp,ho,hcal]at h
  split at h
  ·rename_i xs hops
   have hxs:=opsV_h hops hts
   cases b with
   |append=>exact op_append hT ho hcal hxs h0 hops m hts
   |clear=>exact op_clear hT ho hcal hxs h0 hops m hts
   |_=>exact zts (zye hT ho hcal rfl hxs h) m hts Ext.refl
  ·cases h
theorem evOp_ok(hT:zas P T)(hC:CsOk P C)(h:evOp stdW T C al av o ts pb rw K=some q)(m:Mem V U0 L B A pb rw w)(hts:hL (env U0 B A pb rw w) ts a.tmps.toList):o.wp P a w (Nxt V U0 L al B A pb rw w a K q) Q:=by
 have h0:=h
 unfold evOp at h
 cases ho:o.op with
 |alloc t=>exact op_alloc hT ho h0 m hts
 |box t x=>exact op_box ho h0 m hts
 |load t x=>exact op_load hT ho h0 m hts
 |store t x y=>exact op_store hT ho h0 m hts
 |call c=>exact op_call hT hC ho h0 m hts
 |buildSlice t l p=>exact yae hT ho h0 m hts
 |slice t x lo hi mx=>exact op_slice hT ho h0 m hts
 |makeSlice t l c=>exact ydl hT ho h0 m hts
 |index t x i=>exact op_index hT ho h0 m hts
 |range t x=>exact op_range hT ho h0 m hts
 |next x b=>exact op_next ho h0 m hts
 |makeMap t r=>exact op_makeMap hT ho h0 m hts
 |mapUpdate t x y z=>exact ydk hT ho h0 m hts
 |entry x=>exact op_entry ho h0 m hts
 |lookup t x y c=>exact op_lookup hT ho h0 m hts
 |convert s d x=>exact op_convert hT ho h0 m hts
 |_=>rw[ho]at h; exact zts (zzw hT ho hts rfl m.rowsA h) m hts Ext.refl
end
end Go.Vc

namespace Go.Vc
open Go Go.RowKit
def zbb(wr:List Nat)(a a':Act):Prop:=a'.tmps.size=a.tmps.size∧∀i,i∉wr→a'.tmps[i]?=a.tmps[i]?
theorem zbb.refl(wr:List Nat)(a:Act):zbb wr a a:=⟨rfl,fun _ _=>rfl⟩
theorem zbb.trans{wr:List Nat}{a b c:Act}(h:zbb wr a b)(k:zbb wr b c):zbb wr a c:=⟨k.1.trans h.1,fun i hi=>(k.2 i hi).trans (h.2 i hi)⟩
theorem zbb.mono{wr wr':List Nat}{a b:Act}(h:zbb wr a b)(hs:∀i∈wr,i∈wr'):zbb wr' a b:=⟨h.1,fun i hi=>h.2 i fun hm=>hi (hs i hm)⟩
theorem zbb.put(a:Act)(o:Oper)(v:Value):zbb (dstL o) a (a.put o.dst v):=by
 unfold dstL
 cases o.dst with
 |none=>exact zbb.refl _ _
 |some d=>exact⟨by simp[Act.put],fun i hi=>by simp only[List.mem_singleton]at hi; simp[Act.put,Array.getElem?_setIfInBounds_ne (Ne.symm hi)]⟩
theorem wp_out{P:Program}{o:Oper}{a:Act}{w:World}{N:Act→World→Prop}{Q:Exit→Act→World→Prop}(hd:o.wp P a w N Q):o.wp P a w (fun a' w'=>N a' w'∧zbb (dstL o) a a') Q:=by
 unfold Oper.wp at*
 generalize (execOp a.eval o).run P w=r at*
 cases r with
 |ok n w'=>
  cases n<;>simp only[Oper.upon]at hd ⊢
  case value v=>exact⟨hd,zbb.put a o v⟩
  case skip=>exact⟨hd,zbb.put a o _⟩
  case defer d=>exact⟨hd,zbb.put { a with defers:=d::a.defers } o undef⟩
  case enter f args=>
   refine hd.mono fun e w'' he=>?_
   cases e with
   |returned v=>exact⟨he,zbb.put a o v⟩
   |panicked c=>exact he
   |outgrown=>exact he
  case row row args=>exact Rows.mono hd fun v w'' he=>⟨he,zbb.put a o v⟩
 |halt x w'=>
  cases x<;>simp only[Oper.upon]at hd ⊢
  case panic u=>exact hd
theorem nthDst_eq(ops:List Oper)(j:Nat):nthDst ops j=(ops[j]?).bind (·.dst):=by
 induction ops generalizing j with
 |nil=>rfl
 |cons o ops ih=>cases j<;>simp[nthDst,ih]
section
variable {P:Program} {T:List TI} {V:World} {U0 L:Nat→Prop} {al:Nat→Bool} {B:Nat→Nat} {A:Asg} {ts:List DV} {pb:DBs} {rw:List DR} {a:Act} {w:World} {β:Type} [EqB β] {q:β} {o:Oper} {K:DK β} {Q:Exit→Act→World→Prop} {C:ESs} {av:List (Nat×Nat)}
theorem yax(hT:zas P T)(hC:CsOk P C)(h:evOpN stdW T C al av o ts pb rw K=some q)(m:Mem V U0 L B A pb rw w)(hts:hL (env U0 B A pb rw w) ts a.tmps.toList):o.wp P a w (Nxt V U0 L al B A pb rw w a K q) Q:=by
 unfold evOpN at h
 split at h
 ·rename_i e neg hn
  unfold nilQ at hn
  split at hn
  ·rename_i op t x y ty ho
   split at hn
   ·rename_i d l ht hx hy
    split at hn
    ·rename_i hd0
     obtain⟨ti,hf,htd⟩:=tdV_f hT ht
     have hx:=opV_h hx hts
     have hy:=opV_h hy hts
     simp only[DV.h]at hx hy
     obtain⟨aa,c,ev,_,_,hel⟩:=hx
     simp only[List.cons.injEq,and_true]at ev
     have key:∀neg,op=(if neg then BinOp.neq else BinOp.eql)→(stdW.nilq l.isEmpty fun g=>retE o.dst (.bool (notIf neg g)) ts pb rw K)=some q→o.wp P a w (Nxt V U0 L al B A pb rw w a K q) Q:=by
      intro neg hop h
      have hrun:=zxv (P:=P) neg x y aa l.length c w (zhj hf htd)
      have hg:retE o.dst (.bool (notIf neg aa.isNone)) ts pb rw K=some q:=by
       change nilF l.isEmpty (fun g=>retE o.dst (.bool (notIf neg g)) ts pb rw K)=some q at h
       unfold nilF at h
       rcases bif_s h with ⟨_,h⟩|⟨he,h⟩
       ·have:=both_s h
        cases aa.isNone
        ·exact this.2
        ·exact this.1
       ·have:aa.isNone=false:=by
         cases l with
         |nil=>simp at he
         |cons z l=>
          obtain⟨us,h1,h2⟩:=hel 0 z rfl
          have hd:0<d.size:=Nat.le_of_ble_eq_true hd0
          have hul:=d.h_len h1
          obtain⟨ad,rfl,_⟩:=h2 0 _ (List.getElem?_eq_getElem (by omega))
          rfl
        rw[this]; exact h
      refine zat (v:=.bool (notIf neg aa.isNone)) ?_ (Nxt.ret hg m hts (by simp only[DV.h]) Ext.refl)
      simp only[execOp,ho,ev,hy,hop]
      rw[Sem.run_bind,hrun]; simp
     split at hn
     ·simp only[Option.some.injEq,Prod.mk.injEq]at hn; obtain⟨rfl,rfl⟩:=hn; exact key false rfl h
     ·simp only[Option.some.injEq,Prod.mk.injEq]at hn; obtain⟨rfl,rfl⟩:=hn; exact key true rfl h
     ·cases hn
    ·cases hn
   ·cases hn
  ·cases hn
 ·split at h
  ·rename_i j ks dn hp; exact op_pick hp h m hts
  ·exact evOp_ok hT hC h m hts
theorem evOpT_ok{rest:List Oper}(hT:zas P T)(hC:CsOk P C)(h:evOpT stdW T C al av o rest ts pb rw K=some q)(m:Mem V U0 L B A pb rw w)(hts:hL (env U0 B A pb rw w) ts a.tmps.toList):o.wp P a w (Nxt V U0 L al B A pb rw w a K q) Q:=by
 unfold evOpT at h
 split at h
 ·rename_i j i n htq
  unfold tailQ at htq
  split at htq
  ·split at htq
   ·rename_i t x lo ho
    split at htq
    ·rename_i e jj k ii ht hx hlo
     split at htq
     ·rename_i te e2 t' l hte hj
      rw[zbm]at hj
      split at htq
      ·rename_i hsz
       simp only[Option.some.injEq,Prod.mk.injEq]at htq
       obtain⟨rfl,rfl,rfl⟩:=htq
       have hsz:=Nat.eq_of_beq_eq_true hsz
       obtain⟨b1,b2,h⟩:=bnd_s h
       obtain⟨ti,hf,htd⟩:=tdV_f hT ht
       have hun:=zhj hf htd
       have hfe:=tiV_f hT hte
       have hx:=opV_h hx hts
       have hlo:=opV_h hlo hts
       simp only[DV.h]at hx hlo
       obtain⟨e3,t3,l3,hj3,ev⟩:=hx
       have hj3':rw[jj]?=some (.own e3 t3 l3):=hj3
       rw[hj]at hj3'; simp only[Option.some.injEq,DR.own.injEq]at hj3'
       obtain⟨rfl,rfl,hl3⟩:=hj3'
       cases hl3
       change a.eval x=Value.slice (A jj).1 l.length (A jj).2 at ev
       refine zat (v:=.slice (if (A jj).2=ii.toNat then (A jj).1 else (A jj).1.map (·.add (ii.toNat*t'.size))) (l.length - ii.toNat) ((A jj).2 - ii.toNat)) ?_ (Nxt.ret h m hts ?_ Ext.refl)
       ·have hr:(execOp a.eval o).run P w=((Instr.sliceAt t (a.eval x) (some (a.eval lo)) none none).run P w).andThen fun v w'=>.ok (.value v) w':=by
         simp only[execOp,ho,Sem.run_bind,Sem.run_pure,Option.map_some,Option.map_none]
        rw[hr,ev,hlo]
        simp only[Instr.sliceAt,Instr.slice,Sem.run_bind,run_underlying hun,Result.andThen_ok,Instr.sliceBounds,Sem.run_pure,Option.isSome_none,Bool.false_eq_true,if_false,run_sliceBound w k ii _ .sliceB b1 b2,zlj hfe,hsz]
       ·simp only[DV.h]
        exact⟨_,_,_,hj3,by omega,rfl⟩
      ·cases htq
     ·cases htq
    ·cases htq
   ·cases htq
  ·cases htq
 ·exact yax hT hC h m hts
omit [EqB β] in
theorem zwb{ops:Array Oper}{E:Env}{j:Nat}{want:Bool}{yes no:List DV→Option β}(h:guardD stdW ops.toList ts j want yes no=some q)(hts:hL E ts a.tmps.toList):
  ∃ts',hL E ts' a.tmps.toList∧((yielded ops a.tmps j=some want∧yes ts'=some q)∨(yielded ops a.tmps j≠some want∧no ts'=some q)):=by
 unfold guardD at h
 rw[nthDst_eq]at h
 have hy:∀d,(ops[j]?).bind (·.dst)=some d→yielded ops a.tmps j=match a.tmps[d]? with|some (.bool b)=>some b|_=>none:=by
  intro d hd; unfold yielded; rw[hd]; rfl
 split at h
 ·cases h
 ·rename_i d hd
  have hy:=hy d (by simpa using hd)
  have get:∀(c:Bool),((a.tmps.toList[d]?).getD undef)=.bool c→yielded ops a.tmps j=some c∧a.tmps.toList.set d (.bool c)=a.tmps.toList:=by
   intro c hc
   cases hq:a.tmps[d]? with
   |none=>simp only[Array.getElem?_toList,hq]at hc; simp[undef]at hc
   |some v=>
    simp only[Array.getElem?_toList,hq,Option.getD_some]at hc; subst hc
    refine⟨by rw[hy,hq],?_⟩
    apply List.ext_getElem?
    intro i
    rw[List.getElem?_set]
    split
    ·rename_i hdi; subst hdi
     have:=(Array.getElem?_eq_some_iff.1 hq).1
     simp[this]
     exact(Array.getElem?_eq_some_iff.1 hq).2.symm
    ·rfl
  have keep:∀(c:Bool),((a.tmps.toList[d]?).getD undef)=.bool c→hL E (ts.set d (.lit c)) a.tmps.toList:=by
   intro c hc
   have:=hL_set hts d (p:=.lit c) (v:=.bool c) (by simp only[DV.h])
   rwa [(get c hc).2]at this
  split at h
  ·rename_i hg
   have hv:=gtV_h hg hts
   simp only[DV.h]at hv
   have hg:=(get true hv).1
   cases want
   ·exact⟨ts,hts,.inr ⟨by rw[hg]; simp,h⟩⟩
   ·exact⟨ts,hts,.inl ⟨hg,h⟩⟩
  ·rename_i hg
   have hv:=gtV_h hg hts
   simp only[DV.h]at hv
   have hg:=(get false hv).1
   cases want
   ·exact⟨ts,hts,.inl ⟨hg,h⟩⟩
   ·exact⟨ts,hts,.inr ⟨by rw[hg]; simp,h⟩⟩
  ·rename_i b hg
   have hv:=gtV_h hg hts
   simp only[DV.h]at hv
   have hgb:=(get b hv).1
   simp only[zdg]at h
   rcases cnd_s h with ⟨rfl,h⟩|⟨rfl,h⟩
   ·cases want
    ·exact⟨_,keep true hv,.inr ⟨by rw[hgb]; simp,h⟩⟩
    ·exact⟨_,keep true hv,.inl ⟨hgb,h⟩⟩
   ·cases want
    ·exact⟨_,keep false hv,.inl ⟨hgb,h⟩⟩
    ·exact⟨_,keep false hv,.inr ⟨by rw[hgb]; simp,h⟩⟩
  ·rename_i hg
   have hv:=gtV_h hg hts
   simp only[DV.h]at hv
   refine⟨ts,hts,.inr ⟨?_,h⟩⟩
   rw[hy]
   cases hq:a.tmps[d]? with
   |none=>simp
   |some v=>
    simp only[Array.getElem?_toList,hq,Option.getD_some]at hv; subst hv; simp[undef]
  ·cases h
omit [EqB β] in
theorem Nxt.mono{K':DK β}{a':Act}{w':World}{q':β}(h:Nxt V U0 L al B A pb rw w a K q a' w')(k:∀B' A' ts' pb' rw',Mem V U0 L B' A' pb' rw' w'→hL (env U0 B' A' pb' rw' w') ts' a'.tmps.toList→K ts' pb' rw'=some q→K' ts' pb' rw'=some q'):Nxt V U0 L al B A pb rw w a K' q' a' w':=
 let ⟨B',A',ts',pb',rw',m,h1,h2,h3,h4⟩:=h
 ⟨B',A',ts',pb',rw',m,h1,k B' A' ts' pb' rw' m h1 h2,h3,h4⟩
theorem zwp(hT:zas P T)(hC:CsOk P C){ops:Array Oper}:∀(l:List Oper) {B:Nat→Nat} {A:Asg} {ts:List DV} {pb:DBs} {rw:List DR} {a:Act} {w:World},evList stdW T C al av ops.toList l ts pb rw K=some q→Mem V U0 L B A pb rw w→hL (env U0 B A pb rw w) ts a.tmps.toList→
  (∀a' w',Nxt V U0 L al B A pb rw w a K q a' w'→zbb (dsts l) a a'→Q .normal a' w')→wpList P ops Q l a w
 |[],B,A,ts,pb,rw,a,w,h,m,hts,hQ=>wpList_nil (hQ a w ⟨B,A,ts,pb,rw,m,hts,h,rfl,Ext.refl⟩ (zbb.refl _ _))
 |o::rest,B,A,ts,pb,rw,a,w,h,m,hts,hQ=>by
  have go:∀{K1:DK β},(∀ts pb rw,K1 ts pb rw=some q→evList stdW T C al av ops.toList rest ts pb rw K=some q)→o.wp P a w (Nxt V U0 L al B A pb rw w a K1 q) Q→o.wp P a w (wpList P ops Q rest) Q:=by
   intro K1 hK1 h1
   refine Oper.wp_mono (fun a' w' hn=>?_) (wp_out h1)
   obtain⟨⟨B',A',ts',pb',rw',m',h2,h3,h4,e⟩,hso⟩:=hn
   refine zwp hT hC rest (hK1 _ _ _ h3) m' h2 fun a'' w'' hn' hso'=>hQ a'' w'' (Nxt.more e h4 hn') ?_
   exact(hso.mono (by intro i hi; simp[dsts,hi])).trans (hso'.mono (by intro i hi; simp[dsts,hi]))
  unfold evList at h
  split at h
  ·rename_i hg
   unfold wpList
   rw[if_pos (by simp[Region.wanted,hg])]
   exact .inl (go (fun _ _ _ h=>h) (evOpT_ok hT hC h m hts))
  ·rename_i j want hg
   obtain⟨ts',hr,hc⟩:=zwb h hts
   unfold wpList
   have hw:Region.wanted o (yielded ops a.tmps)=(yielded ops a.tmps j==some want):=by simp[Region.wanted,hg]
   rcases hc with ⟨hy,hc⟩|⟨hy,hc⟩
   ·rw[if_pos (by rw[hw,hy]; simp)]
    exact .inl (go (fun _ _ _ h=>h) (yax hT hC hc m hr))
   ·rw[if_neg (by rw[hw]; simpa using hy)]
    obtain⟨ts'',h1,h2,h3⟩:=retE_s hc hr (x:=.und) (v:=undef) (by simp only[DV.h])
    refine zwp hT hC rest h1 m h2 fun a'' w'' hn' hso'=>hQ a'' w'' (Nxt.more Ext.refl h3 hn') ?_
    exact((zbb.put a o undef).mono (by intro i hi; simp[dsts,hi])).trans (hso'.mono (by intro i hi; simp[dsts,hi]))
end
end Go.Vc

namespace Go.Vc
open Go Go.RowKit
section
variable {P:Program} {T:List TI} {V:World} {U0 L:Nat→Prop} {al:Nat→Bool} {B:Nat→Nat} {A:Asg} {ts:List DV} {pb:DBs} {rw:List DR} {a:Act} {w:World} {β:Type} [EqB β] {q:β} {o:Oper} {K:DK β} {Q:Exit→Act→World→Prop} {C:ESs} {av:List (Nat×Nat)}
def Nx(V:World)(U0 L:Nat→Prop)(B:Nat→Nat)(pb:DBs)(a:Act)(K:DK β)(q:β):Act→World→Prop:=fun a' w'=>
 ∃B' A' ts' pb' rw',Mem V U0 L B' A' pb' rw' w'∧hL (env U0 B' A' pb' rw' w') ts' a'.tmps.toList∧K ts' pb' rw'=some q∧a'.defers=a.defers∧∀i,live pb i→live pb' i∧B' i=B i
omit [EqB β] in
theorem Nxt.nx{a':Act}{w':World}(h:Nxt V U0 L al B A pb rw w a K q a' w'):Nx V U0 L B pb a K q a' w':=
 let ⟨B',A',ts',pb',rw',m,h1,h2,h3,h4⟩:=h
 ⟨B',A',ts',pb',rw',m,h1,h2,h3,h4.bx⟩
theorem Mem.places(m:Mem V U0 L B A pb rw w){pb':DBs}(h:∀(i:Nat) (b:DB),pb'[i]?=some (some b)↔pb[i]?=some (some b)):Mem V U0 L B A pb' rw w∧Sub noF (env U0 B A pb rw w) (env U0 B A pb' rw w)∧∀i,live pb' i↔live pb i:=by
 have hl:∀i,live pb' i↔live pb i:=fun i=>⟨fun ⟨b,hb⟩=>⟨b,(h i b).1 hb⟩,fun ⟨b,hb⟩=>⟨b,(h i b).2 hb⟩⟩
 have hb:∀k i b,blk B A pb' rw k i b→blk B A pb rw k i b:=fun k i b hh=>by
  cases k with
  |true=>exact hh
  |false=>exact⟨(hl i).1 hh.1,hh.2⟩
 obtain⟨m',s,_⟩:=m.step (al:=fun _=>true) noF (w':=w) (B':=B) (A':=A) (pb':=pb') (rw':=rw) ⟨rfl,rfl,rfl,Nat.le_refl _⟩ (fun _ _ _=>rfl) (fun k i b hh=>.inl (hb k i b hh)) (fun k i k' i' b h1 h2=>m.inj _ _ _ _ _ (hb _ _ _ h1) (hb _ _ _ h2))
  (fun i hh=>⟨(hl i).2 hh,rfl⟩) (fun j e t l _ hh=>⟨l,hh,rfl,rfl⟩) (fun j d _ h=>⟨⟨d,h,rfl⟩,rfl⟩) (fun _ j p e t l hh=>(by cases hh)) (fun _ j p d ad hh=>(by cases hh)) (fun _ i b' hh=>.inl ⟨b',(h i b').1 hh,rfl,by rw[zfi],id,rfl⟩) (fun _ j e t l hh=>.inl ⟨hh,rfl,fun _ _=>rfl⟩) fun _ j d hh=>.inl ⟨hh,rfl,fun _ _=>rfl⟩
 exact⟨m',s,hl⟩
omit [EqB β] in
theorem zvh:∀(os:List Oper) (pb:DBs) (n:Nat) {K:List (Nat×Nat)→DBs→Option β},zpe os pb n K=some q→∃av pb',K av pb'=some q∧∃l:DBs,pb'=pb++l∧∀x∈l,x=none
 |[],pb,n,K,h=>⟨[],pb,h,[],by simp,by simp⟩
 |o::os,pb,n,K,h=>by
  have push:∀(K':List (Nat×Nat)→DBs→Option β),zpe os (pb++[none]) (n+1) K'=some q→(∃av pb',K' av pb'=some q∧∃l:DBs,pb'=pb++l∧∀x∈l,x=none):=fun K' h'=>by
   obtain⟨av,pb',h1,l,h2,h3⟩:=zvh os _ _ h'
   exact⟨av,pb',h1,none::l,by rw[h2]; simp,fun x hx=>(List.mem_cons.1 hx).elim id (h3 x)⟩
  simp only[zpe]at h
  split at h
  ·rw[zfl]at h
   obtain⟨av,pb',h1,h2⟩:=push _ h
   rw[zju]at h1
   exact⟨_,pb',h1,h2⟩
  ·rw[zfl]at h
   obtain⟨av,pb',h1,h2⟩:=push _ h
   rw[zju]at h1
   exact⟨_,pb',h1,h2⟩
  ·exact zvh os pb n h
theorem nthO_s:∀{ops:List Oper} {i:Nat},nthO ops i=ops[i]?
 |[],i=>by simp[nthO]
 |o::os,0=>rfl
 |o::os,i+1=>by simp only[nthO,List.getElem?_cons_succ]; exact nthO_s
theorem yba:∀{ops:List Oper} {i:Nat} {o:Oper},ops[i]?=some o→∀d∈dstL o,d∈dsts ops
 |[],i,o,h=>by simp at h
 |p::ops,i,o,h=>by
  intro d hd
  simp only[dsts,List.mem_append]
  cases i with
  |zero=>simp at h; subst h; exact .inl hd
  |succ i=>exact .inr (yba (by simpa using h) d hd)
end
section
variable {P:Program} {T:List TI} {V:World} {U0 L:Nat→Prop} {al:Nat→Bool} {β:Type} [EqB β] {q:β} {K:DK β} {C:ESs} {av:List (Nat×Nat)} {ops:Array Oper} {Ia:List Nat} {sn:Nat→Bool}
 {B0:Nat→Nat} {A0:Asg} {pb0:DBs} {rw0:List DR} {a0:Act} {w0:World}
def QD(V:World)(U0 L:Nat→Prop)(al:Nat→Bool)(B0:Nat→Nat)(A0:Asg)(pb0:DBs)(rw0:List DR)(w0:World)(a0:Act)(K:DK β)(q:β)(ops:Array Oper):Exit→Act→World→Prop:=fun e a' w'=>match e with
 | .normal=>Nxt V U0 L al B0 A0 pb0 rw0 w0 a0 K q a' w'∧zbb (dsts ops.toList) a0 a'
 |_=>False
def SD(al:Nat→Bool)(B0:Nat→Nat)(A0:Asg)(pb0:DBs)(rw0:List DR)(w0:World):World→Prop:=fun w'=>∀b,b<w0.heap.size→¬Wr al B0 A0 pb0 rw0 b→w'.heap[b]?=w0.heap[b]?
structure At0(al:Nat→Bool)(ops:Array Oper)(B0:Nat→Nat)(A0:Asg)(pb0:DBs)(rw0:List DR)(w0:World)(a0:Act)(ph:Bool)(B:Nat→Nat)(A:Asg)(pb:DBs)(rw:List DR)(w:World)(a:Act):Prop where
 ext:Ext al B0 A0 pb0 rw0 w0 B A pb rw w
 out:zbb (dsts ops.toList) a0 a
 df:a.defers=a0.defers
 ph0:ph=false→B=B0∧A=A0∧pb=pb0∧rw=rw0∧w=w0
omit [EqB β] in
theorem rdE_ok(hT:zas P T)(hal:∀i,live pb0 i→memN i Ia=false→al i=false)(hsn:∀i,sn i=true→live pb0 i∧al i=false){ph:Bool}{B:Nat→Nat}{A:Asg}{ts:List DV}{pb:DBs}{rw:List DR}{a:Act}{w:World}{o:Oper}{ret:DV→Option β}
  (h:rdE stdW T Ia sn ph o ts pb rw ret=some q) (m0:Mem V U0 L B0 A0 pb0 rw0 w0) (m:Mem V U0 L B A pb rw w) (hts:hL (env U0 B A pb rw w) ts a.tmps.toList) (s:At0 al ops B0 A0 pb0 rw0 w0 a0 ph B A pb rw w a):
  ∃r v,ret r=some q∧r.h (env U0 B A pb rw w) v∧∀w',SD al B0 A0 pb0 rw0 w0 w'→(execOp a.eval o).run P w'=.ok (.value v) w':=by
 have still:∀b,b<w0.heap.size→¬Wr al B0 A0 pb0 rw0 b→∀w',SD al B0 A0 pb0 rw0 w0 w'→w'.heap[b]?=w.heap[b]?:=fun b hb hn w' hs=>by rw[hs b hb hn,s.ext.fr b hb hn]
 have own:∀i,live pb0 i→al i=false→B i<w0.heap.size∧¬Wr al B0 A0 pb0 rw0 (B i):=fun i hl ha=>by
  have hb:=(s.ext.bx i hl).2
  have hbl:blk B0 A0 pb0 rw0 false i (B i):=⟨hl,hb.symm⟩
  refine⟨(m0.low _ _ _ hbl).1,?_⟩
  rintro(⟨i',h1,h2⟩|⟨j,h2⟩)
  ·have:=(m0.inj _ _ _ _ _ hbl h2).2; subst this; rw[ha]at h1; cases h1
  ·have:=(m0.inj _ _ _ _ _ hbl h2).1; cases this
 unfold rdE at h
 split at h
 ·rename_i t x ho
  have fin:∀(p:DV),opV ts x=some p→loadE stdW T t p pb rw ret=some q→(∀ad:Addr,a.eval x=.pointer (some ad)→((∃i off,p=.own i off∧blk B A pb rw false i ad.block)∨(∃t x off,p=.el t x off∧¬Us U0 B A pb rw ad.block∧ad.block<w.heap.size)∨∃j i off,p=.re j i off)→ad.block<w0.heap.size∧¬Wr al B0 A0 pb0 rw0 ad.block)→
    ∃r v,ret r=some q∧r.h (env U0 B A pb rw w) v∧∀w',SD al B0 A0 pb0 rw0 w0 w'→(execOp a.eval o).run P w'=.ok (.value v) w':=by
   intro p hp hl hbk
   obtain⟨r,u,ad,hv,h1,h2,h3,h4⟩:=yaj hT m hl (opV_h hp hts)
   obtain⟨g1,g2⟩:=hbk ad hv h4
   exact⟨r,u,h1,h2,fun w' hs=>by rw[yju ho,h3 w' (still _ g1 g2 w' hs)]; rfl⟩
  split at h
  ·obtain⟨p,hp,h⟩:=o1_s h
   split at h
   ·rename_i haw
    obtain⟨rfl,rfl,rfl,rfl,rfl⟩:=s.ph0 rfl
    refine fin p hp h fun ad hv hc=>?_
    rcases hc with ⟨i,off,rfl,hbl⟩|⟨t',x',off,rfl,hn,hlt⟩|⟨j,i,off,rfl⟩
    ·have hi:memN i Ia=false:=by
      simp only[awayV]at haw
      split at haw
      ·assumption
      ·cases haw
     have:=own i hbl.1 (hal i hbl.1 hi)
     rw[hbl.2]at this; exact this
    ·refine⟨hlt,?_⟩
     rintro(⟨i,_,hb⟩|⟨j,hb⟩)
     ·exact hn (.inr ⟨_,i,hb⟩)
     ·exact hn (.inr ⟨_,j,hb⟩)
    ·simp[awayV]at haw
   ·cases h
  ·obtain⟨p,hp,h⟩:=o1_s h
   split at h
   ·rename_i hse
    refine fin p hp h fun ad hv hc=>?_
    rcases hc with ⟨i,off,rfl,hbl⟩|⟨t',x',off,rfl,hn,_⟩|⟨j,i,off,rfl⟩
    ·obtain⟨g1,g2⟩:=hsn i hse
     have:=own i g1 g2
     rw[hbl.2]at this; exact this
    ·simp[seenV]at hse
    ·simp[seenV]at hse
   ·cases h
 ·obtain⟨r,v,h1,h2,h3⟩:=zzw hT rfl hts rfl m.rowsA h
  exact⟨r,v,h1,h2,fun w' _=>h3 w'⟩
theorem znt(hT:zas P T)(hC:CsOk P C){i n:Nat}{ph:Bool}{Lk:Array Bool}{B:Nat→Nat}{A:Asg}{ts:List DV}{pb:DBs}{rw:List DR}{a:Act}{w:World}{o:Oper}{k:DK β}(hi:ops[i]?=some o)
  (h:stepD stdW T C al av ops.toList o ts pb rw k=some q) (m:Mem V U0 L B A pb rw w) (hts:hL (env U0 B A pb rw w) ts a.tmps.toList) (s:At0 al ops B0 A0 pb0 rw0 w0 a0 ph B A pb rw w a)
  (hk:∀B A ts pb rw a w,k ts pb rw=some q→Mem V U0 L B A pb rw w→hL (env U0 B A pb rw w) ts a.tmps.toList→At0 al ops B0 A0 pb0 rw0 w0 a0 true B A pb rw w a→wpAnyH P .any ops (QD V U0 L al B0 A0 pb0 rw0 w0 a0 K q ops) (SD al B0 A0 pb0 rw0 w0) n (Lk.setIfInBounds i true) a w):
  wpOp P ops (QD V U0 L al B0 A0 pb0 rw0 w0 a0 K q ops) i (fun a' w'=>SD al B0 A0 pb0 rw0 w0 w'∧wpAnyH P .any ops (QD V U0 L al B0 A0 pb0 rw0 w0 a0 K q ops) (SD al B0 A0 pb0 rw0 w0) n (Lk.setIfInBounds i true) a' w') a w:=by
 have hmem:=yba (ops:=ops.toList) (i:=i) (o:=o) (by simpa using hi)
 have go:∀ts,hL (env U0 B A pb rw w) ts a.tmps.toList→Region.wanted o (yielded ops a.tmps)=true→evOpN stdW T C al av o ts pb rw k=some q→
   wpOp P ops (QD V U0 L al B0 A0 pb0 rw0 w0 a0 K q ops) i (fun a' w'=>SD al B0 A0 pb0 rw0 w0 w'∧wpAnyH P .any ops (QD V U0 L al B0 A0 pb0 rw0 w0 a0 K q ops) (SD al B0 A0 pb0 rw0 w0) n (Lk.setIfInBounds i true) a' w') a w:=by
  intro ts hts hwt h
  unfold Go.wpOp
  simp only[hi,hwt,if_true]
  refine .inl (Oper.wp_mono (fun a' w' hn=>?_) (wp_out (yax (al:=al) hT hC h m hts)))
  obtain⟨⟨B',A',ts',pb',rw',m',h1,h2,h3,e⟩,hso⟩:=hn
  have e':=s.ext.trans e
  exact⟨fun b hb hnb=>e'.fr b hb hnb,hk B' A' ts' pb' rw' a' w' h2 m' h1 ⟨e',s.out.trans (hso.mono hmem),h3.trans s.df,fun h=>by cases h⟩⟩
 have skip:∀ts,hL (env U0 B A pb rw w) ts a.tmps.toList→Region.wanted o (yielded ops a.tmps)=false→retE o.dst .und ts pb rw k=some q→
   wpOp P ops (QD V U0 L al B0 A0 pb0 rw0 w0 a0 K q ops) i (fun a' w'=>SD al B0 A0 pb0 rw0 w0 w'∧wpAnyH P .any ops (QD V U0 L al B0 A0 pb0 rw0 w0 a0 K q ops) (SD al B0 A0 pb0 rw0 w0) n (Lk.setIfInBounds i true) a' w') a w:=by
  intro ts hts hwt h
  obtain⟨ts',h1,h2,h3⟩:=retE_s h hts (x:=.und) (v:=undef) (by simp only[DV.h])
  unfold Go.wpOp
  simp only[hi,hwt,Bool.false_eq_true,if_false]
  exact⟨fun b hb hnb=>s.ext.fr b hb hnb,hk B A ts' pb rw _ w h1 m h2 ⟨s.ext,s.out.trans ((zbb.put a o undef).mono hmem),h3.trans s.df,fun h=>by cases h⟩⟩
 unfold stepD at h
 split at h
 ·rename_i hg
  exact go ts hts (by simp[Region.wanted,hg]) h
 ·rename_i j want hg
  obtain⟨ts',hr,hc⟩:=zwb h hts
  have hw:Region.wanted o (yielded ops a.tmps)=(yielded ops a.tmps j==some want):=by simp[Region.wanted,hg]
  rcases hc with ⟨hy,hc⟩|⟨hy,hc⟩
  ·exact go ts' hr (by rw[hw,hy]; simp) hc
  ·exact skip ts' hr (by rw[hw]; simpa using hy) hc
theorem evT_ok(hT:zas P T)(hC:CsOk P C)(hns:Region.noSelect ops=true)(hal:∀i,live pb0 i→memN i Ia=false→al i=false)(hsn:∀i,sn i=true→live pb0 i∧al i=false)(m0:Mem V U0 L B0 A0 pb0 rw0 w0):
  ∀(t:OT) (n:Nat) (Lk:Array Bool) (ph:Bool) (B:Nat→Nat) (A:Asg) (ts:List DV) (pb:DBs) (rw:List DR) (a:Act) (w:World),okT ops n t Lk=true→evT stdW T C al av Ia sn ops.toList ph t ts pb rw K=some q→Mem V U0 L B A pb rw w→hL (env U0 B A pb rw w) ts a.tmps.toList→
   At0 al ops B0 A0 pb0 rw0 w0 a0 ph B A pb rw w a→wpAnyH P .any ops (QD V U0 L al B0 A0 pb0 rw0 w0 a0 K q ops) (SD al B0 A0 pb0 rw0 w0) n Lk a w
 | .nil,n,Lk,ph,B,A,ts,pb,rw,a,w,hok,h,m,hts,s=>by
  have hok:(Region.ready .any ops Lk).isEmpty=true:=by cases n<;>simpa[okT]using hok
  simp only[List.isEmpty_iff]at hok
  simp only[evT]at h
  exact wpAnyH_done hok ⟨⟨B,A,ts,pb,rw,m,hts,h,s.df,s.ext⟩,s.out⟩ _
 | .rd i t,0,Lk,ph,B,A,ts,pb,rw,a,w,hok,h,m,hts,s=>by simp[okT]at hok
 | .op i t,0,Lk,ph,B,A,ts,pb,rw,a,w,hok,h,m,hts,s=>by simp[okT]at hok
 | .two i j ti tj,0,Lk,ph,B,A,ts,pb,rw,a,w,hok,h,m,hts,s=>by simp[okT]at hok
 | .three i j k ti tj tk,0,Lk,ph,B,A,ts,pb,rw,a,w,hok,h,m,hts,s=>by simp[okT]at hok
 | .rd i t,n+1,Lk,ph,B,A,ts,pb,rw,a,w,hok,h,m,hts,s=>by
  simp only[okT,Bool.and_eq_true]at hok
  simp only[evT]at h
  split at h
  ·rename_i o hi
   rw[nthO_s]at hi
   have hi:ops[i]?=some o:=by simpa using hi
   have hmem:=yba (ops:=ops.toList) (i:=i) (o:=o) (by simpa using hi)
   have hS:SD al B0 A0 pb0 rw0 w0 w:=fun b hb hnb=>s.ext.fr b hb hnb
   have go:∀ts,hL (env U0 B A pb rw w) ts a.tmps.toList→Region.wanted o (yielded ops a.tmps)=true→(rdE stdW T Ia sn ph o ts pb rw fun x=>retE o.dst x ts pb rw fun ts pb rw=>evT stdW T C al av Ia sn ops.toList ph t ts pb rw K)=some q→wpAnyH P .any ops (QD V U0 L al B0 A0 pb0 rw0 w0 a0 K q ops) (SD al B0 A0 pb0 rw0 w0) (n+1) Lk a w:=by
    intro ts hts hwt h
    obtain⟨r,v,h1,h2,h3⟩:=rdE_ok hT hal hsn h m0 m hts s
    obtain⟨ts',g1,g2,g3⟩:=retE_s h1 hts h2
    refine wpAnyH_take hi hns hok.1.1 hok.1.2 (fun c a w hq=>hq) (.inl ⟨hwt,fun w' hs=>h3 w' hs⟩) hS ?_
    exact evT_ok hT hC hns hal hsn m0 t n _ ph B A ts' pb rw _ w hok.2 g1 m g2 ⟨s.ext,s.out.trans ((zbb.put a o v).mono hmem),g3.trans s.df,s.ph0⟩
   have skip:∀ts,hL (env U0 B A pb rw w) ts a.tmps.toList→Region.wanted o (yielded ops a.tmps)=false→(retE o.dst .und ts pb rw fun ts pb rw=>evT stdW T C al av Ia sn ops.toList ph t ts pb rw K)=some q→wpAnyH P .any ops (QD V U0 L al B0 A0 pb0 rw0 w0 a0 K q ops) (SD al B0 A0 pb0 rw0 w0) (n+1) Lk a w:=by
    intro ts hts hwt h
    obtain⟨ts',g1,g2,g3⟩:=retE_s h hts (x:=.und) (v:=undef) (by simp only[DV.h])
    exact wpAnyH_take hi hns hok.1.1 hok.1.2 (fun c a w hq=>hq) (.inr ⟨hwt,rfl⟩) hS (evT_ok hT hC hns hal hsn m0 t n _ ph B A ts' pb rw _ w hok.2 g1 m g2 ⟨s.ext,s.out.trans ((zbb.put a o undef).mono hmem),g3.trans s.df,s.ph0⟩)
   split at h
   ·rename_i hg
    exact go ts hts (by simp[Region.wanted,hg]) h
   ·rename_i j want hg
    obtain⟨ts',hr,hc⟩:=zwb h hts
    have hw:Region.wanted o (yielded ops a.tmps)=(yielded ops a.tmps j==some want):=by simp[Region.wanted,hg]
    rcases hc with ⟨hy,hc⟩|⟨hy,hc⟩
    ·exact go ts' hr (by rw[hw,hy]; simp) hc
    ·exact skip ts' hr (by rw[hw]; simpa using hy) hc
  ·cases h
 | .op i t,n+1,Lk,ph,B,A,ts,pb,rw,a,w,hok,h,m,hts,s=>by
  simp only[okT,Bool.and_eq_true,beq_iff_eq]at hok
  simp only[evT]at h
  split at h
  ·rename_i o hi
   rw[nthO_s]at hi
   have hi:ops[i]?=some o:=by simpa using hi
   refine wpAnyH_all hok.1 (by simp) fun j hj=>?_
   rw[List.mem_singleton.1 hj]
   exact znt hT hC hi h m hts s fun B A ts pb rw a w hk m hts s=>evT_ok hT hC hns hal hsn m0 t n _ true B A ts pb rw a w hok.2 hk m hts s
  ·cases h
 | .two i j ti tj,n+1,Lk,ph,B,A,ts,pb,rw,a,w,hok,h,m,hts,s=>by
  simp only[okT,Bool.and_eq_true,beq_iff_eq]at hok
  simp only[evT]at h
  split at h
  ·rename_i o o' hi hj
   rw[nthO_s]at hi hj
   have hi:ops[i]?=some o:=by simpa using hi
   have hj:ops[j]?=some o':=by simpa using hj
   obtain⟨ha,hb⟩:=both_s h
   refine wpAnyH_all hok.1.1 (by simp) fun k hk=>?_
   simp only[List.mem_cons,List.not_mem_nil,or_false]at hk
   rcases hk with rfl|rfl
   ·exact znt hT hC hi ha m hts s fun B A ts pb rw a w hk m hts s=>evT_ok hT hC hns hal hsn m0 ti n _ true B A ts pb rw a w hok.1.2 hk m hts s
   ·exact znt hT hC hj hb m hts s fun B A ts pb rw a w hk m hts s=>evT_ok hT hC hns hal hsn m0 tj n _ true B A ts pb rw a w hok.2 hk m hts s
  ·cases h
 | .three i j k ti tj tk,n+1,Lk,ph,B,A,ts,pb,rw,a,w,hok,h,m,hts,s=>by
  simp only[okT,Bool.and_eq_true,beq_iff_eq]at hok
  simp only[evT]at h
  split at h
  ·rename_i o o' o2 hi hj hk
   rw[nthO_s]at hi hj hk
   have hi:ops[i]?=some o:=by simpa using hi
   have hj:ops[j]?=some o':=by simpa using hj
   have hk:ops[k]?=some o2:=by simpa using hk
   obtain⟨ha,hb⟩:=both_s h
   obtain⟨hb,hc⟩:=both_s hb
   refine wpAnyH_all hok.1.1.1 (by simp) fun l hl=>?_
   simp only[List.mem_cons,List.not_mem_nil,or_false]at hl
   rcases hl with rfl|rfl|rfl
   ·exact znt hT hC hi ha m hts s fun B A ts pb rw a w hk m hts s=>evT_ok hT hC hns hal hsn m0 ti n _ true B A ts pb rw a w hok.1.1.2 hk m hts s
   ·exact znt hT hC hj hb m hts s fun B A ts pb rw a w hk m hts s=>evT_ok hT hC hns hal hsn m0 tj n _ true B A ts pb rw a w hok.1.2 hk m hts s
   ·exact znt hT hC hk hc m hts s fun B A ts pb rw a w hk m hts s=>evT_ok hT hC hns hal hsn m0 tk n _ true B A ts pb rw a w hok.2 hk m hts s
  ·cases h
end
end Go.Vc

namespace Go.Vc
open Go Go.RowKit
section
variable {P:Program} {T:List TI} {V:World} {U0 L:Nat→Prop} {B:Nat→Nat} {A:Asg} {ts:List DV} {pb:DBs} {rw:List DR} {a:Act} {w:World} {β:Type} [EqB β] {q:β} {K:DK β} {Q:Exit→Act→World→Prop} {C:ESs}
theorem hasE_s:∀{pb:DBs} {i:Nat},hasE pb i=true→live pb i
 |[],i,h=>by simp[hasE]at h
 |o::pb,0,h=>by
  cases o with
  |none=>simp[hasE]at h
  |some b=>exact⟨b,rfl⟩
 |o::pb,i+1,h=>by
  obtain⟨b,hb⟩:=hasE_s (pb:=pb) (i:=i) (by simpa[hasE]using h)
  exact⟨b,by simpa using hb⟩
theorem alOf_s{Ia:List Nat}{n i:Nat}(hi:i<n)(hm:memN i Ia=false):alOf Ia n i=false:=by
 unfold alOf
 rw[hm]
 cases h:Nat.ble n i with
 |false=>rfl
 |true=>have:=Nat.le_of_ble_eq_true h; omega
theorem live_lt{pb:DBs}{i:Nat}(h:live pb i):i<pb.length:=let ⟨_,h⟩:=h; (List.getElem?_eq_some_iff.1 h).1
theorem drawD_ok(hT:zas P T)(hC:CsOk P C)(hm:P.follows .mixedOrders=true){O:DTs}{id:Nat}{ops:Array Oper}(h:drawD stdW T C O id ops ts pb rw K=some q)(m:Mem V U0 L B A pb rw w)(hts:hL (env U0 B A pb rw w) ts a.tmps.toList)
  (hQ:∀a' w',Nx V U0 L B pb a K q a' w'→zbb (dsts ops.toList) a a'→Q .normal a' w'):(Code.region id ops true).wp P Q a w:=by
 unfold drawD at h
 split at h
 ·rename_i Ia t htr
  split at h
  ·rename_i hok
   simp only[Bool.and_eq_true]at hok
   rw[zju]at h
   obtain⟨av,pb',h,l,hl,hnone⟩:=zvh _ _ _ h
   have hp:∀(i:Nat) (b:DB),pb'[i]?=some (some b)↔pb[i]?=some (some b):=by
    intro i b
    subst hl
    rcases Nat.lt_or_ge i pb.length with hi|hi
    ·rw[List.getElem?_append_left hi]
    ·rw[List.getElem?_append_right hi]
     constructor
     ·intro hx
      have:=hnone _ (List.mem_of_getElem? hx)
      cases this
     ·intro hx
      have:=(List.getElem?_eq_some_iff.1 hx).1
      omega
   obtain⟨m1,s1,_⟩:=m.world (al:=fun _=>true) (w':={ w with drawn:=w.drawn+1 }) ⟨rfl,rfl,rfl,Nat.le_refl _⟩ (fun _ _=>rfl)
   obtain⟨m2,s2,hlive⟩:=m1.places hp
   have hts2:=noSub s2 (noSub s1 hts)
   have hlt:∀i,live pb' i→i<pb.length:=fun i hi=>live_lt ((hlive i).1 hi)
   have:=evT_ok (al:=alOf Ia pb.length) (Ia:=Ia) (sn:=snOf Ia (hasE pb)) (K:=K) (q:=q) hT hC hok.1 (fun i hi hmi=>alOf_s (hlt i hi) hmi) (fun i hi=>by
    unfold snOf at hi
    split at hi
    ·cases hi
    ·rename_i hmi
     have hli:=(hlive i).2 (hasE_s hi)
     exact⟨hli,alOf_s (hlt i hli) hmi⟩) m2 t _ _ false B A ts pb' rw a _ hok.2 h m2 hts2 ⟨Ext.refl,zbb.refl _ _,rfl,fun _=>⟨rfl,rfl,rfl,rfl,rfl⟩⟩
   refine wp_mono (wp_region_held hm this) fun e a' w' hq=>?_
   cases e with
   |normal=>
    obtain⟨hn,hso⟩:=hq
    obtain⟨B',A',ts',pb1,rw',m',h1,h2,h3,h4⟩:=hn.nx
    exact hQ _ _ ⟨B',A',ts',pb1,rw',m',h1,h2,h3,fun i hi=>h4 i ((hlive i).2 hi)⟩ hso
   |_=>exact hq.elim
  ·cases h
 ·cases h
end
end Go.Vc

namespace Go.Vc
open Go Go.RowKit
theorem zqu:∀{pb:DBs} {i:Nat} {b:DB},(clrB pb)[i]?=some (some b)↔∃b0,pb[i]?=some (some b0)∧b=⟨b0.ty,b0.cells,false⟩
 |[],i,b=>by simp[clrB]
 |some b0::pb,0,b=>by
  simp only[clrB,List.getElem?_cons_zero,Option.some.injEq]
  exact⟨fun h=>⟨b0,rfl,h.symm⟩,fun ⟨b1,h1,h2⟩=>by subst h1; exact h2.symm⟩
 |none::pb,0,b=>by simp[clrB]
 |some b0::pb,i+1,b=>by simp only[clrB,List.getElem?_cons_succ]; exact zqu
 |none::pb,i+1,b=>by simp only[clrB,List.getElem?_cons_succ]; exact zqu
theorem znl{pb:DBs}{i:Nat}:live (clrB pb) i↔live pb i:=by
 constructor
 ·rintro⟨b,h⟩; obtain⟨b0,h0,_⟩:=zqu.1 h; exact⟨b0,h0⟩
 ·rintro⟨b,h⟩; exact⟨_,zqu.2 ⟨b,h,rfl⟩⟩
def flW(ps:DBs)(i:Nat):Bool:=match ps[i]? with|some (some a)=>a.w|_=>true
theorem zvk:∀{pb ps:DBs} {i:Nat} {b:DB},(orW ps pb)[i]?=some (some b)↔∃b0,pb[i]?=some (some b0)∧b=⟨b0.ty,b0.cells,b0.w||flW ps i⟩
 |[],ps,i,b=>by simp[orW]
 |none::pb,ps,0,b=>by simp[orW]
 |some b0::pb,ps,0,b=>by
  simp only[orW,List.getElem?_cons_zero,Option.some.injEq]
  cases ps with
  |nil=>exact⟨fun h=>⟨b0,rfl,h.symm⟩,fun ⟨b1,h1,h2⟩=>by subst h1; exact h2.symm⟩
  |cons p ps=>cases p<;>exact⟨fun h=>⟨b0,rfl,h.symm⟩,fun ⟨b1,h1,h2⟩=>by subst h1; exact h2.symm⟩
 |none::pb,ps,i+1,b=>by
  simp only[orW,List.getElem?_cons_succ]
  rw[zvk]
  have:flW ps.tail i=flW ps (i+1):=by cases ps<;>simp[flW]
  rw[this]
 |some b0::pb,ps,i+1,b=>by
  simp only[orW,List.getElem?_cons_succ]
  rw[zvk]
  have:flW ps.tail i=flW ps (i+1):=by cases ps<;>simp[flW]
  rw[this]
theorem yad{pb ps:DBs}{i:Nat}:live (orW ps pb) i↔live pb i:=by
 constructor
 ·rintro⟨b,h⟩; obtain⟨b0,h0,_⟩:=zvk.1 h; exact⟨b0,h0⟩
 ·rintro⟨b,h⟩; exact⟨_,zvk.2 ⟨b,h,rfl⟩⟩
section
variable {V:World} {U0 L Lx:Nat→Prop} {B B':Nat→Nat} {A A':Asg} {pb pb':DBs} {rw rw':List DR} {w w':World}
theorem yjv{E:Env}{pb':DBs}(hl:∀i,live pb' i↔live E.pb i)(hU:∀b,Us U0 E.B E.A pb' E.rw b→E.U b):Sub noF E (env U0 E.B E.A pb' E.rw E.w):=
 ⟨⟨fun _ _ _=>rfl,Nat.le_refl _,fun b _ h=>hU b h⟩,fun i h=>⟨(hl i).2 h,rfl⟩,fun j e t l _ h=>⟨l,h,rfl,rfl⟩,fun j d _ h=>⟨⟨d,h,rfl⟩,rfl⟩,fun j q e t l h=>(by cases h),fun j q d ad h=>(by cases h)⟩
theorem zgl(hl:∀i,live pb' i↔live pb i){k:Bool}{i b:Nat}:blk B A pb' rw k i b↔blk B A pb rw k i b:=by
 cases k with
 |true=>exact Iff.rfl
 |false=>exact⟨fun h=>⟨(hl i).1 h.1,h.2⟩,fun h=>⟨(hl i).2 h.1,h.2⟩⟩
theorem Us_live(hl:∀i,live pb' i↔live pb i){b:Nat}:Us U0 B A pb' rw b↔Us U0 B A pb rw b:=
 ⟨fun h=>h.imp id fun ⟨k,i,h⟩=>⟨k,i,(zgl hl).1 h⟩,fun h=>h.imp id fun ⟨k,i,h⟩=>⟨k,i,(zgl hl).2 h⟩⟩
theorem Mem.anchor(m:Mem V U0 L B A pb rw w):Mem w U0 (Ow B A pb rw) B A (clrB pb) rw w∧Sub noF (env U0 B A pb rw w) (env U0 B A (clrB pb) rw w):=by
 have hl:∀i,live (clrB pb) i↔live pb i:=fun i=>znl
 have s:Sub noF (env U0 B A pb rw w) (env U0 B A (clrB pb) rw w):=yjv (U0:=U0) (E:=env U0 B A pb rw w) hl fun b h=>(Us_live hl).1 h
 refine⟨⟨rfl,rfl,rfl,Nat.le_refl _,fun _ _ _=>rfl,fun b hb=>⟨Nat.lt_of_lt_of_le (m.u0 b hb).1 m.size,fun ⟨k,i,h⟩=>?_⟩,fun k i b h=>?_,fun k i k' i' b h h'=>m.inj _ _ _ _ _ ((zgl hl).1 h) ((zgl hl).1 h'),fun i b h=>?_,fun j e t l h=>?_,fun j d h=>let ⟨b,o,g1,g2,g3⟩:=m.itr j d h; ⟨b,o,g1,g2,OD.mono s.later g3⟩⟩,s⟩
 ·rcases (m.low k i b h).2 with g|g
  ·have:=(m.u0 b hb).1; omega
  ·exact(m.u0 b hb).2 g
 ·have h:=(zgl hl).1 h
  exact⟨(m.low k i b h).1,.inr ⟨k,i,h⟩⟩
 ·obtain⟨b0,h0,rfl⟩:=zqu.1 h
  obtain⟨cs,h1,h2,_⟩:=m.box i b0 h0
  exact⟨cs,h1,noSub s h2,fun _=>⟨(Array.getElem?_eq_some_iff.1 h1).1,rfl⟩⟩
 ·obtain⟨xs,h1,h2⟩:=m.row j e t l h
  exact⟨xs,h1,DT.hs_mono s.later h2⟩
theorem Mem.low2(m:Mem V U0 L B A pb rw w)(hL:∀b,Lx b↔Ow B A pb rw b)(mx:Mem w U0 Lx B' A' pb' rw' w'):∀k i b,blk B' A' pb' rw' k i b→b<w'.heap.size∧(V.heap.size≤b∨L b):=fun k i b h=>
 ⟨(mx.low k i b h).1,(mx.low k i b h).2.elim (fun h=>.inl (Nat.le_trans m.size h)) fun h=>let ⟨k,i,h⟩:=(hL b).1 h; (m.low k i b h).2⟩
theorem Mem.same2(m:Mem V U0 L B A pb rw w)(hL:∀b,Lx b↔Ow B A pb rw b)(mx:Mem w U0 Lx B' A' pb' rw' w'):∀b,b<V.heap.size→¬L b→w'.heap[b]?=V.heap[b]?:=fun b hb hn=>by
 rw[mx.same b (Nat.lt_of_lt_of_le hb m.size) fun h=>?_,m.same b hb hn]
 obtain⟨k,i,h⟩:=(hL b).1 h
 rcases (m.low k i b h).2 with h|h
 ·omega
 ·exact hn h
theorem Mem.out2(m:Mem V U0 L B A pb rw w)(hL:∀b,Lx b↔Ow B A pb rw b)(mx:Mem w U0 Lx B' A' pb' rw' w')(hb:∀i,live pb i→B' i=B i):Mem V U0 L B' A' (orW pb pb') rw' w'∧Sub noF (env U0 B' A' pb' rw' w') (env U0 B' A' (orW pb pb') rw' w'):=by
 have hl:∀i,live (orW pb pb') i↔live pb' i:=fun i=>yad
 have s:Sub noF (env U0 B' A' pb' rw' w') (env U0 B' A' (orW pb pb') rw' w'):=yjv (U0:=U0) (E:=env U0 B' A' pb' rw' w') hl fun b h=>(Us_live hl).1 h
 refine⟨⟨mx.os.trans m.os,mx.tape.trans m.tape,mx.output.trans m.output,Nat.le_trans m.size mx.size,m.same2 hL mx,m.u0,fun k i b h=>m.low2 hL mx k i b ((zgl hl).1 h),fun k i k' i' b h h'=>mx.inj _ _ _ _ _ ((zgl hl).1 h) ((zgl hl).1 h'),fun i b h=>?_,fun j e t l h=>?_,fun j d h=>let ⟨b,o,g1,g2,g3⟩:=mx.itr j d h; ⟨b,o,g1,g2,OD.mono s.later g3⟩⟩,s⟩
 ·obtain⟨b0,h0,rfl⟩:=zvk.1 h
  obtain⟨cs,h1,h2,h3⟩:=mx.box i b0 h0
  refine⟨cs,h1,noSub s h2,fun hw=>?_⟩
  simp only[Bool.or_eq_false_iff]at hw
  obtain⟨hw1,hw2⟩:=hw
  obtain⟨g1,g2⟩:=h3 hw1
  unfold flW at hw2
  split at hw2
  ·rename_i b1 hb1
   obtain⟨cs1,_,_,h6⟩:=m.box i b1 hb1
   obtain⟨g3,g4⟩:=h6 hw2
   rw[hb i ⟨_,hb1⟩]at g2 ⊢
   exact⟨g3,g2.trans g4⟩
  ·cases hw2
 ·obtain⟨xs,h1,h2⟩:=mx.row j e t l h
  exact⟨xs,h1,DT.hs_mono s.later h2⟩
end
section
variable {β:Type} {q:β}
theorem ybe{l:List Nat}:∀{n:Nat} {pb pb':DBs},cleanB l n pb pb'=true→∀i b,pb[i]?=some (some b)→∃b',pb'[i]?=some (some b')∧b.ty=b'.ty∧(memN (n+i) l=true∨b'.w=false)
 |_,[],_,_,i,b,hi=>by simp at hi
 |n,none::pb,[],h,i,b,hi=>by simp[cleanB]at h
 |n,none::pb,p'::pb',h,i,b,hi=>by
  cases i with
  |zero=>simp at hi
  |succ i=>
   simp only[cleanB]at h
   obtain⟨b',h1,h2,h3⟩:=ybe h i b (by simpa using hi)
   exact⟨b',by simpa using h1,h2,by rwa [show n+(i+1)=n+1+i by omega]⟩
 |n,some c::pb,[],h,i,b,hi=>by simp[cleanB]at h
 |n,some c::pb,none::pb',h,i,b,hi=>by simp[cleanB]at h
 |n,some c::pb,some c'::pb',h,i,b,hi=>by
  simp only[cleanB,Bool.and_eq_true,Bool.or_eq_true,Bool.not_eq_true']at h
  obtain⟨⟨h1,h2⟩,h3⟩:=h
  cases i with
  |zero=>simp at hi; subst hi; exact⟨c',rfl,Nat.eq_of_beq_eq_true h1,h2⟩
  |succ i=>
   obtain⟨b',g1,g2,g3⟩:=ybe h3 i b (by simpa using hi)
   exact⟨b',by simpa using g1,g2,by rwa [show n+(i+1)=n+1+i by omega]⟩
theorem zsm{l:List Nat}:∀{n:Nat} {pb pb':DBs},cleanB l n (clrB pb) pb'=cleanB l n pb pb'
 |_,[],_=>rfl
 |n,none::pb,[]=>by simp only[clrB,cleanB]
 |n,none::pb,p'::pb'=>by simp only[clrB,cleanB]; exact zsm
 |n,some c::pb,[]=>by simp only[clrB,cleanB]
 |n,some c::pb,none::pb'=>by simp only[clrB,cleanB]
 |n,some c::pb,some c'::pb'=>by simp only[clrB,cleanB]; rw[zsm]
theorem yjl{j:DJ}{pb pb':DBs}{ts:List DV}{rw:List DR}{k:j.T.den→Option β}:outD j (clrB pb) ts pb' rw k=outD j pb ts pb' rw k:=by unfold outD; rw[zsm]
theorem gtVs_h{E:Env}{ts:List DV}{us:List Value}(hts:hL E ts us):∀{ns:List Nat} {vs:List DV},gtVs ts ns=some vs→hL E vs (ns.map fun n=>(us[n]?).getD undef)
 |[],vs,h=>by simp only[gtVs,Option.some.injEq]at h; subst h; simp[hL]
 |n::ns,vs,h=>by
  simp only[gtVs]at h
  split at h
  ·rename_i v vs' h1 h2
   simp only[Option.some.injEq]at h; subst h
   simp only[List.map_cons,hL]
   exact⟨_,_,rfl,gtV_h h1 hts,gtVs_h hts h2⟩
  ·cases h
structure RoS(ro:List RKd)(rs rw:List DR):Prop where
 own:∀(n:Nat) (e:TypeId) (t:DT) (l:List t.den),rs[n]?=some (DR.own e t l)→rw[n]?=some (DR.own e t l)∨(l=[]∧(rw[n]?=none∨rw[n]?=some DR.dead))
 itr:∀(n:Nat) (d:OD),rs[n]?=some (DR.obj d)→∃d',rw[n]?=some (DR.obj d')∧d.isM=d'.isM∧∀U w o,d'.h U w o→d.h U w o
 isO:∀n:Nat,roN ro n=true→∃(e:TypeId) (t:DT) (l:List t.den),rs[n]?=some (DR.own e t l)
 isI:∀n:Nat,roI ro n=true→∃d:OD,rs[n]?=some (DR.obj d)
theorem roX_s:∀{ro:List RKd} {rw:List DR} {y:(roT ro).den},roX ro rw=some y→RoS ro (roV ro y) rw
 |[],rw,y,h=>⟨fun n e t l h=>by simp[roV]at h,fun n d h=>by simp[roV]at h,fun n h=>by simp[roN]at h,fun n h=>by simp[roI]at h⟩
 |k::ro,rw,y,h=>by
  have up:∀{r:DR} {y':(roT ro).den},roX ro rw.tail=some y'→roV (k::ro) y=r::roV ro y'→
    (∀(e:TypeId) (t:DT) (l:List t.den),r=DR.own e t l→rw[0]?=some (DR.own e t l)∨(l=[]∧(rw[0]?=none∨rw[0]?=some DR.dead)))→(∀d:OD,r=DR.obj d→∃d',rw[0]?=some (DR.obj d')∧d.isM=d'.isM∧∀U w o,d'.h U w o→d.h U w o)→(roN (k::ro) 0=true→∃(e:TypeId) (t:DT) (l:List t.den),r=DR.own e t l)→(roI (k::ro) 0=true→∃d:OD,r=DR.obj d)→
    RoS (k::ro) (roV (k::ro) y) rw:=by
   intro r y' hy he h1 h2 h3 h4
   obtain⟨g1,g2,g3,g4⟩:=roX_s hy
   have ht:∀n,rw.tail[n]?=rw[n+1]?:=fun n=>by cases rw<;>simp
   rw[he]
   refine⟨fun n e t l hn=>?_,fun n d hn=>?_,fun n hn=>?_,fun n hn=>?_⟩
   ·cases n with
    |zero=>simp at hn; exact h1 e t l hn
    |succ n=>have:=g1 n e t l (by simpa using hn); rwa [ht]at this
   ·cases n with
    |zero=>simp at hn; exact h2 d hn
    |succ n=>have:=g2 n d (by simpa using hn); rwa [ht]at this
   ·cases n with
    |zero=>obtain⟨e,t,l,rfl⟩:=h3 hn; exact⟨e,t,l,rfl⟩
    |succ n=>obtain⟨e,t,l,h⟩:=g3 n (by simpa[roN]using hn); exact⟨e,t,l,by simpa using h⟩
   ·cases n with
    |zero=>obtain⟨d,rfl⟩:=h4 hn; exact⟨d,rfl⟩
    |succ n=>obtain⟨d,h⟩:=g4 n (by simpa[roI]using hn); exact⟨d,by simpa using h⟩
  cases k with
  |own e t=>
   unfold roX at h
   split at h
   ·rename_i e' t' xs rw'
    split at h
    ·rename_i ht y1 he hq hy
     have h:=Option.some.inj h; subst h
     subst ht
     have he:=Nat.eq_of_beq_eq_true he; subst he
     exact up hy rfl (fun e2 t2 l2 h=>.inl (by rw[←h]; rfl)) (fun _ h=>by cases h) (fun _=>⟨_,_,_,rfl⟩) (fun h=>by simp[roI]at h)
    ·cases h
   ·cases h
   ·split at h
    ·rename_i hy
     have h:=Option.some.inj h; subst h
     exact up hy rfl (fun e2 t2 l2 h=>.inr ⟨by cases h; rfl,.inr rfl⟩) (fun _ h=>by cases h) (fun _=>⟨_,_,_,rfl⟩) (fun h=>by simp[roI]at h)
    ·cases h
   ·split at h
    ·rename_i hy
     have h:=Option.some.inj h; subst h
     exact up hy rfl (fun e2 t2 l2 h=>.inr ⟨by cases h; rfl,.inl rfl⟩) (fun _ h=>by cases h) (fun _=>⟨_,_,_,rfl⟩) (fun h=>by simp[roI]at h)
    ·cases h
  |obj k=>
   unfold roX at h
   split at h
   ·split at h
    ·rename_i hk hy
     have h:=Option.some.inj h; subst h
     exact up hy rfl (fun _ _ _ h=>by cases h) (fun d h=>by cases h; exact⟨_,rfl,OKd.of_s hk⟩) (fun h=>by simp[roN]at h) (fun _=>⟨_,rfl⟩)
    ·cases h
   ·cases h
  |dead=>
   unfold roX at h
   exact up h rfl (fun _ _ _ h=>by cases h) (fun _ h=>by cases h) (fun h=>by simp[roN]at h) (fun h=>by simp[roI]at h)
theorem ygo:∀{xs:List DV} {bs:List Bool} {K:List DV→Option β},junkE xs bs K=some q→∃l,K l=some q∧∀(E:Env) (vs:List Value),vs.length=xs.length→(∀(i:Nat) (p:DV) (v:Value),bs[i]?=some false→xs[i]?=some p→vs[i]?=some v→p.h E v)→hL E l vs
 |[],[],K,h=>⟨[],h,fun E vs hl _=>by simp only[hL]; exact List.length_eq_zero_iff.1 (by simpa using hl)⟩
 |[],b::bs,K,h=>by simp[junkE]at h
 |x::xs,[],K,h=>by simp[junkE]at h
 |x::xs,b::bs,K,h=>by
  simp only[junkE]at h
  split at h
  ·obtain⟨l,h1,h2⟩:=ygo h
   refine⟨_,h1,fun E vs hl hh=>?_⟩
   cases vs with
   |nil=>simp at hl
   |cons v vs=>simp only[hL]; exact⟨v,vs,rfl,by simp only[DV.h],h2 E vs (by simpa using hl) fun i p u g1 g2 g3=>hh (i+1) p u (by simpa using g1) (by simpa using g2) (by simpa using g3)⟩
  ·obtain⟨l,h1,h2⟩:=ygo h
   refine⟨_,h1,fun E vs hl hh=>?_⟩
   cases vs with
   |nil=>simp at hl
   |cons v vs=>simp only[hL]; exact⟨v,vs,rfl,hh 0 x v rfl rfl rfl,h2 E vs (by simpa using hl) fun i p u g1 g2 g3=>hh (i+1) p u (by simpa using g1) (by simpa using g2) (by simpa using g3)⟩
theorem yjr{ws:List Nat}:∀{n i k:Nat} {b:Bool},(maskOf ws n i)[k]?=some b→b=memN (i+k) ws
 |0,i,k,b,h=>by simp[maskOf]at h
 |n+1,i,0,b,h=>by simp[maskOf]at h; exact h.symm
 |n+1,i,k+1,b,h=>by
  have:=yjr (n:=n) (i:=i+1) (k:=k) (b:=b) (by simpa[maskOf]using h)
  rwa [show i+(k+1)=i+1+k by omega]
theorem set_get{us:List Value}{n:Nat}:us.set n ((us[n]?).getD undef)=us:=by
 apply List.ext_getElem?
 intro i
 rw[List.getElem?_set]
 split
 ·rename_i h; subst h
  split
  ·rename_i h; simp[h]
  ·rename_i h; rw[List.getElem?_eq_none (by omega)]
 ·rfl
def setsL:List DV→List Nat→List DV→List DV
 |ts,n::ns,v::vs=>setsL (ts.set n v) ns vs
 |ts,_,_=>ts
theorem yij:∀{ns:List Nat} {ts vs:List DV} {K:List DV→Option β},setsE ts ns vs K=some q→K (setsL ts ns vs)=some q
 |[],ts,[],K,h=>h
 |[],ts,v::vs,K,h=>by simp[setsE]at h
 |n::ns,ts,[],K,h=>by simp[setsE]at h
 |n::ns,ts,v::vs,K,h=>by
  simp only[setsE,zdg]at h
  have h2:=yij h
  simpa only[setsL]using h2
theorem setsE_h{E:Env}{us:List Value}:∀{ns:List Nat} {ts vs:List DV},hL E ts us→hL E vs (ns.map fun n=>(us[n]?).getD undef)→hL E (setsL ts ns vs) us
 |[],ts,[],hts,hvs=>hts
 |[],ts,v::vs,hts,hvs=>hts
 |n::ns,ts,[],hts,hvs=>hts
 |n::ns,ts,v::vs,hts,hvs=>by
  simp only[List.map_cons,hL]at hvs
  obtain⟨u,us',e,h1,h2⟩:=hvs
  simp only[List.cons.injEq]at e
  obtain⟨rfl,rfl⟩:=e
  have:=hL_set hts n h1
  rw[set_get]at this
  simp only[setsL]
  exact setsE_h this h2
theorem setBs_s:∀{is:List Nat} {pb:DBs} {cs:List (List DV)} {K:DBs→Option β},setBs pb is cs K=some q→∃pb',K pb'=some q∧(∀i,live pb' i↔live pb i)∧
  ∀i b,pb'[i]?=some (some b)→∃b0,pb[i]?=some (some b0)∧b.ty=b0.ty∧((i∉is∧b=b0)∨∃(k:Nat) (c:List DV),is[k]?=some i∧cs[k]?=some c∧b.cells=c∧b.w=true)
 |[],pb,[],K,h=>⟨pb,h,fun _=>Iff.rfl,fun i b hb=>⟨b,hb,rfl,.inl ⟨by simp,rfl⟩⟩⟩
 |[],pb,c::cs,K,h=>by simp[setBs]at h
 |i0::is,pb,[],K,h=>by simp[setBs]at h
 |i0::is,pb,c::cs,K,h=>by
  simp only[setBs]at h
  split at h
  ·rename_i b0 hb0
   rw[zly]at hb0
   rw[zdg]at h
   obtain⟨pb',h1,h2,h3⟩:=setBs_s h
   have hlt:=(List.getElem?_eq_some_iff.1 hb0).1
   have hl:∀i,live (pb.set i0 (some ⟨b0.ty,c,true⟩)) i↔live pb i:=fun i=>by
    simp only[live,List.getElem?_set]
    split
    ·rename_i h; subst h; exact⟨fun _=>⟨_,hb0⟩,fun _=>⟨⟨b0.ty,c,true⟩,by simp[hlt]⟩⟩
    ·rfl
   refine⟨pb',h1,fun i=>(h2 i).trans (hl i),fun i b hb=>?_⟩
   obtain⟨b1,g1,g2,g3⟩:=h3 i b hb
   rw[List.getElem?_set]at g1
   split at g1
   ·rename_i hi; subst hi
    simp only[hlt,if_true,Option.some.injEq]at g1; subst g1
    refine⟨b0,hb0,g2,.inr ?_⟩
    rcases g3 with ⟨_,rfl⟩|⟨k,c',k1,k2,k3⟩
    ·exact⟨0,c,rfl,rfl,rfl,rfl⟩
    ·exact⟨k+1,c',by simpa using k1,by simpa using k2,k3⟩
   ·rename_i hi
    refine⟨b1,g1,g2,?_⟩
    rcases g3 with ⟨k1,k2⟩|⟨k,c',k1,k2,k3⟩
    ·exact .inl ⟨by simp[Ne.symm hi,k1],k2⟩
    ·exact .inr ⟨k+1,c',by simpa using k1,by simpa using k2,k3⟩
  ·cases h
end
section
variable {E E2:Env} {pb:DBs} {ro:List RKd} {rw:List DR}
structure Over(pb:DBs)(ro:List RKd)(rw:List DR)(E E2:Env):Prop where
 data:Later E.U E2.U E.w E2.w
 row:∀j v u,okRowV ro rw j v=true→v.h E u→(DV.row j).h E2 u
 ob:∀j v u,okObV ro rw j v=true→v.h E u→(DV.ob j).h E2 u
 own:∀i,live pb i→live E2.pb i∧E2.B i=E.B i
theorem vsX_s(O:Over pb ro rw E E2):∀(cs:List DS) (r:DT) {vs:List DV} {us:List Value} {y:r.den} {z:(vsT cs r).den},vsX ro rw cs r vs y=some z→hL E vs us→ownDS pb cs=true→(vsV cs r z).2=y∧hL E2 (vsV cs r z).1 us
 |[],r,vs,us,y,z,h,hv,ho=>by
  cases vs with
  |nil=>simp only[vsX]at h; have h:y=z:=Option.some.inj h; subst h; exact⟨rfl,hv⟩
  |cons v vs=>simp[vsX]at h
 |c::cs,r,[],us,y,z,h,hv,ho=>by cases c<;>simp[vsX]at h
 |c::cs,r,v::vs,us,y,z,h,hv,ho=>by
  simp only[hL]at hv
  obtain⟨u,us',rfl,hv1,hv2⟩:=hv
  simp only[ownDS,Bool.and_eq_true]at ho
  cases c with
  |t t=>
   simp only[vsX]at h
   split at h
   ·rename_i x z' hx hz
    have h:=Option.some.inj h; subst h
    obtain⟨h1,h2⟩:=vsX_s O cs r hz hv2 ho.2
    refine⟨h1,?_⟩
    simp only[vsV,hL]
    exact⟨u,us',rfl,t.val_h (DT.hv_mono O.data (DT.ofV_h hx hv1)),h2⟩
   ·cases h
  |row j=>
   simp only[vsX]at h
   split at h
   ·rename_i hx
    obtain⟨h1,h2⟩:=vsX_s O cs r h hv2 ho.2
    refine⟨h1,?_⟩
    simp only[vsV,hL]
    exact⟨u,us',rfl,O.row _ _ _ hx hv1,h2⟩
   ·cases h
  |ob j=>
   simp only[vsX]at h
   split at h
   ·rename_i hx
    obtain⟨h1,h2⟩:=vsX_s O cs r h hv2 ho.2
    refine⟨h1,?_⟩
    simp only[vsV,hL]
    exact⟨u,us',rfl,O.ob _ _ _ hx hv1,h2⟩
   ·cases h
  |own i o=>
   simp only[vsX]at h
   split at h
   ·rename_i hx
    obtain⟨h1,h2⟩:=vsX_s O cs r h hv2 ho.2
    refine⟨h1,?_⟩
    simp only[vsV,hL]
    refine⟨u,us',rfl,?_,h2⟩
    unfold okOwnV at hx
    split at hx
    ·rename_i i' o'
     simp only[Bool.and_eq_true]at hx
     have e1:=Nat.eq_of_beq_eq_true hx.1
     have e2:=Nat.eq_of_beq_eq_true hx.2
     subst e1; subst e2
     simp only[DV.h]at hv1 ⊢
     have hli:live pb i:=by
      cases hd:dbV pb i with
      |none=>have h3:=ho.1; simp only[hd]at h3; cases h3
      |some b=>exact⟨b,zly.1 hd⟩
     obtain⟨g1,g2⟩:=O.own i hli
     exact⟨g1,by rw[g2]; exact hv1.2⟩
    ·cases hx
   ·cases h
  |nil=>
   simp only[vsX]at h
   split at h
   ·rename_i hx
    obtain⟨h1,h2⟩:=vsX_s O cs r h hv2 ho.2
    refine⟨h1,?_⟩
    simp only[vsV,hL]
    refine⟨u,us',rfl,?_,h2⟩
    unfold okNilV at hx
    split at hx
    ·simp only[DV.h]at hv1 ⊢; exact hv1
    ·cases hx
   ·cases h
theorem boX_s(O:Over pb ro rw E E2){pb':DBs}{cs:Nat→List Value→TypeId→Prop}(hb:∀i b,pb'[i]?=some (some b)→∃us,cs i us b.ty∧hL E b.cells us):∀(l:List (Nat×List DS)) (r:DT) {y:r.den} {z:(boT l r).den},boX ro pb' rw l r y=some z→ownBo pb l=true→
  (boV l r z).2=y∧∀(k i:Nat) (c:List DV),(boN l)[k]?=some i→(boV l r z).1[k]?=some c→∃us t,cs i us t∧hL E2 c us
 |[],r,y,z,h,ho=>by
  simp only[boX]at h
  have h:y=z:=Option.some.inj h
  subst h
  exact⟨rfl,fun k i c h=>by simp[boN]at h⟩
 |(i0,ds)::l,r,y,z,h,ho=>by
  simp only[ownBo,Bool.and_eq_true]at ho
  unfold boX at h
  cases hb1:dbV pb' i0 with
  |none=>simp[hb1]at h
  |some b=>
  cases hz:boX ro pb' rw l r y with
  |none=>simp[hb1,hz]at h
  |some z1=>
   rw[hb1,hz]at h
   rw[zly]at hb1
   obtain⟨us,h1,h2⟩:=hb i0 b hb1
   obtain⟨g1,g2⟩:=boX_s O hb l r hz ho.2
   obtain⟨g3,g4⟩:=vsX_s O ds _ h h2 ho.1.2
   have e:(boV ((i0,ds)::l) r z)=((vsV ds (boT l r) z).1::(boV l r z1).1,(boV l r z1).2):=by
    simp only[boV,g3]
   rw[e]
   refine⟨g1,fun k i c hk hc=>?_⟩
   cases k with
   |zero=>simp[boN]at hk hc; subst hk; subst hc; exact⟨us,_,h1,g4⟩
   |succ k=>exact g2 k i c (by simpa[boN]using hk) (by simpa using hc)
end
end Go.Vc

namespace Go.Vc
open Go Go.RowKit
section
variable {V:World} {U0 L Lx:Nat→Prop} {B B':Nat→Nat} {A A':Asg} {pb pb':DBs} {rw rw':List DR} {w w':World} {ts ts':List DV} {a a':Act} {β:Type}
def rowA(A:Asg)(rw:List DR):Asg:=fun n=>match rw[n]? with
 |some (.own _ _ _)=>A n
 |some (.obj _)=>A n
 |_=>(none,0)
theorem owns_nil{e:TypeId}{k:Nat}:w.ownsRow 0 e k (.slice none 0 0) 0 []:=⟨by simp,.inl ⟨rfl,rfl⟩⟩
theorem ygp{j:DJ}{x:Code}(m:Mem V U0 L B A pb rw w)(hts:hL (env U0 B A pb rw w) ts a.tmps.toList)(hok:okJ j x ts pb=true)(hLx:∀b,Lx b↔Ow B A pb rw b)(mx:Mem w U0 Lx B' A' pb' rw' w')(hx:hL (env U0 B' A' pb' rw' w') ts' a'.tmps.toList)(hso:zbb (writes x) a a')
  (hbx:∀i,live pb i→live pb' i∧B' i=B i) {k:j.T.den→Option β} {q:β} (h:outD j pb ts' pb' rw' k=some q):
  ∃z,k z=some q∧∀{γ:Type} {K:DK γ} {q:γ},headD j x ts pb z K=some q→∃A2 ts1 pb1 rw1,Mem V U0 L B' A2 pb1 rw1 w'∧hL (env U0 B' A2 pb1 rw1 w') ts1 a'.tmps.toList∧K ts1 pb1 rw1=some q∧(∀i,live pb1 i↔live pb i)∧∀i,live pb i→B' i=B i:=by
 unfold outD at h
 split at h
 ·rename_i hcl
  obtain⟨ts2,pb2,rw2,ps,h,m2,hts2,_,e2,_⟩:=frzE_s (al:=fun _=>true) (ps:=[]) (us:=[]) _ h mx hx (by simp[hL])
  split at h
  ·rename_i vs y hvs hy
   split at h
   ·rename_i y2 hy2
    split at h
    ·rename_i z hz
     refine⟨z,h,fun {γ K q} hd=>?_⟩
     simp only[okJ,Bool.and_eq_true]at hok
     obtain⟨⟨⟨⟨_,ho1⟩,ho2⟩,_⟩,_⟩:=hok
     have R:=roX_s hy
     have hU:∀(pb3:DBs),(∀i,live pb3 i↔live pb i)→∀kd i b,blk B' (rowA A' rw2) pb3 (roV j.ro y) kd i b→blk B' A' pb2 rw2 kd i b∧(kd=true→(rowA A' rw2) i=A' i):=by
      intro pb3 hl kd i b hb
      cases kd with
      |false=>exact⟨⟨(e2.bx i (hbx i ((hl i).1 hb.1)).1).1,hb.2⟩,fun h=>by cases h⟩
      |true=>
       obtain⟨r,ad,h1,h2,h3,h4⟩:=hb
       cases r with
       |dead=>exact absurd rfl h2
       |own e t l=>
        rcases R.own i e t l h1 with g|⟨_,g⟩
        ·have e3:rowA A' rw2 i=A' i:=by unfold rowA; rw[g]
         exact⟨⟨_,ad,g,by simp,by rw[←e3]; exact h3,h4⟩,fun _=>e3⟩
        ·have e3:rowA A' rw2 i=(none,0):=by unfold rowA; rcases g with g|g<;>rw[g]
         rw[e3]at h3; cases h3
       |obj d=>
        obtain⟨d',g,_⟩:=R.itr i d h1
        have e3:rowA A' rw2 i=A' i:=by unfold rowA; rw[g]
        exact⟨⟨_,ad,g,by simp,by rw[←e3]; exact h3,h4⟩,fun _=>e3⟩
     have hUs:∀(pb3:DBs),(∀i,live pb3 i↔live pb i)→∀b,Us U0 B' (rowA A' rw2) pb3 (roV j.ro y) b→Us U0 B' A' pb2 rw2 b:=fun pb3 hl b hb=>hb.imp id fun ⟨kd,i,hb⟩=>⟨kd,i,(hU pb3 hl kd i b hb).1⟩
     have over:∀(pb3:DBs),(∀i,live pb3 i↔live pb i)→Over pb j.ro rw2 (env U0 B' A' pb2 rw2 w') (env U0 B' (rowA A' rw2) pb3 (roV j.ro y) w'):=by
      intro pb3 hl
      refine⟨⟨fun _ _ _=>rfl,Nat.le_refl _,fun b _ hb=>hUs pb3 hl b hb⟩,fun n v u hr hv=>?_,fun n v u hr hv=>?_,fun i hi=>⟨(hl i).2 hi,rfl⟩⟩
      ·unfold okRowV at hr
       simp only[Bool.and_eq_true]at hr
       obtain⟨hr1,hr2⟩:=hr
       obtain⟨e,t,l,hn⟩:=R.isO n hr1
       simp only[DV.h]
       refine⟨e,t,l,hn,?_⟩
       split at hr2
       ·rename_i j'
        split at hr2
        ·rename_i e3 t3 l3 hj hd
         rw[zbm]at hd
         have hj:=Nat.eq_of_beq_eq_true hj
         subst hj
         simp only[DV.h]at hv
         obtain⟨e4,t4,l4,h4,rfl⟩:=hv
         have h4:rw2[n]?=some (.own e4 t4 l4):=h4
         rcases R.own n e t l hn with g|⟨_,g⟩
         ·rw[h4]at g
          simp only[Option.some.injEq,DR.own.injEq]at g
          obtain⟨rfl,rfl,g⟩:=g
          cases g
          change Value.slice (A' n).1 _ (A' n).2=Value.slice (rowA A' rw2 n).1 _ (rowA A' rw2 n).2
          rw[show rowA A' rw2 n=A' n by unfold rowA; rw[h4]]
         ·rw[h4]at g; simp at g
        ·cases hr2
       ·simp only[DV.h]at hv
        split at hr2
        ·cases hr2
        ·rename_i hno
         rw[zbm]at hno
         rcases R.own n e t l hn with g|⟨rfl,g⟩
         ·exact absurd g (hno e t l)
         ·change u=Value.slice (rowA A' rw2 n).1 0 (rowA A' rw2 n).2
          rw[show rowA A' rw2 n=(none,0) by unfold rowA; rcases g with g|g<;>rw[g]]
          exact hv
       ·cases hr2
      ·unfold okObV at hr
       simp only[Bool.and_eq_true]at hr
       obtain⟨hr1,hr2⟩:=hr
       obtain⟨d,hn⟩:=R.isI n hr1
       split at hr2
       ·rename_i j'
        split at hr2
        ·rename_i d3 hj hd
         have hj:=Nat.eq_of_beq_eq_true hj
         subst hj
         simp only[DV.h]at hv ⊢
         obtain⟨d4,ad,h4,h5,rfl⟩:=hv
         obtain⟨d',g,gm,_⟩:=R.itr n d hn
         have h4:rw2[n]?=some (.obj d4):=h4
         rw[g]at h4; simp only[Option.some.injEq,DR.obj.injEq]at h4; subst h4
         refine⟨d,ad,hn,?_,by simp only[OD.at,gm]⟩
         change (rowA A' rw2 n).1=some ad
         rw[show rowA A' rw2 n=A' n by unfold rowA; rw[g]]
         exact h5
        ·cases hr2
       ·cases hr2
     unfold headD at hd
     generalize hzz:vsV (dsS j.sl) (boT j.bo (roT j.ro)) z=zz at hd
     obtain⟨vs3,y3⟩:=zz
     dsimp only at hd
     generalize hyy:boV j.bo (roT j.ro) y3=yy at hd
     obtain⟨vss,y4⟩:=yy
     dsimp only at hd
     rw[zek]at hd
     obtain⟨ts3,hd,hj3⟩:=ygo hd
     have hy3:y3=y2:=by
      have:=(vsX_s (over pb fun _=>Iff.rfl) _ _ hz (gtVs_h hts2 hvs) ho1).1
      rw[hzz]at this; exact this
     subst hy3
     have hy4:y4=y:=by
      have:=(boX_s (over pb fun _=>Iff.rfl) (pb':=pb2) (cs:=fun _ _ _=>True) (fun i b hb=>let ⟨cs,_,h2,_⟩:=m2.box i b hb; ⟨cs,trivial,h2⟩) _ _ hy2 ho2).1
      rw[hyy]at this; exact this
     subst hy4
     have hset:∀(ts4:List DV),subBE norowD pb (fun pb=>setBs pb (boN j.bo) vss fun pb=>K ts4 pb (roV j.ro y4))=some q→
       ∃pb1,K ts4 pb1 (roV j.ro y4)=some q∧(∀i,live pb1 i↔live pb i)∧Mem V U0 L B' (rowA A' rw2) pb1 (roV j.ro y4) w':=by
      intro ts4 h4
      rw[zjf]at h4
      obtain⟨pb1,h4,hl,hbs⟩:=setBs_s h4
      have hl:∀i,live pb1 i↔live pb i:=fun i=>(hl i).trans zdq
      have O:=over pb1 hl
      refine⟨pb1,h4,hl,?_⟩
      have hlat:Later (Us U0 B A pb rw) (Us U0 B' (rowA A' rw2) pb1 (roV j.ro y4)) w w':=by
       refine⟨fun b hb hn=>mx.same b hb fun h=>hn (.inr ((hLx b).1 h)),mx.size,fun b hb hu=>?_⟩
       rcases hUs pb1 hl b hu with g|⟨kd,i,g⟩
       ·exact .inl g
       ·rcases (m2.low _ _ _ g).2 with g|g
        ·omega
        ·exact .inr ((hLx b).1 g)
      have hsub:Sub norowD (env U0 B A pb rw w) (env U0 B' (rowA A' rw2) pb1 (roV j.ro y4) w'):=
       ⟨hlat,fun i hi=>⟨(hl i).2 hi,(hbx i hi).2⟩,fun n e t l hn=>(by cases hn),fun n d hn=>(by cases hn),fun n p e t l hn _=>(by cases hn; simp only[DV.h]),fun n p d ad hn _ _=>(by cases hn; simp only[DV.h])⟩
      refine⟨mx.os.trans m.os,mx.tape.trans m.tape,mx.output.trans m.output,Nat.le_trans m.size mx.size,m.same2 hLx mx,m.u0,fun kd i b hb=>m.low2 hLx m2 kd i b (hU pb1 hl kd i b hb).1,fun kd i kd' i' b h1 h2=>m2.inj _ _ _ _ _ (hU pb1 hl kd i b h1).1 (hU pb1 hl kd' i' b h2).1,fun i b hb=>?_,fun n e t l hn=>?_,fun n d hn=>?_⟩
      ·obtain⟨b0,g1,g2,g3⟩:=hbs i b hb
       obtain⟨b00,g4,rfl⟩:=zgp.1 g1
       obtain⟨b',g5,g6,g7⟩:=ybe hcl i b00 g4
       have hBi:=(hbx i ⟨b00,g4⟩).2
       rcases g3 with ⟨g8,rfl⟩|⟨kk,c,g8,g9,rfl,g10⟩
       ·-- as it was
        obtain⟨cs,k1,k2,k3⟩:=m.box i b00 g4
        have hw:b'.w=false:=by
         rcases g7 with g7|g7
         ·rw[Nat.zero_add]at g7; exact absurd ((zof _ _).1 g7) g8
         ·exact g7
        obtain⟨_,_,_,k6⟩:=mx.box i b' g5
        obtain⟨k7,k8⟩:=k6 hw
        refine⟨cs,by rw[k8,hBi]; exact k1,zdr hsub _ k2,fun hw2=>?_⟩
        obtain⟨k9,k10⟩:=k3 hw2
        exact⟨by rw[hBi]; exact k9,by rw[k8,hBi]; exact k10⟩
       ·obtain⟨us,t,k1,k2⟩:=(boX_s O (pb':=pb2) (cs:=fun i us t=>w'.heap[B' i]?=some (.cells us.toArray t (0,0))) (fun i b hb=>let ⟨cs,h1,h2,_⟩:=m2.box i b hb; ⟨cs,h1,h2⟩) _ _ hy2 ho2).2 kk i b.cells g8 (by rw[hyy]; exact g9)
        obtain⟨us',k3,k4,_⟩:=mx.box i b' g5
        rw[k1]at k3
        simp only[Option.some.injEq,Obj.cells.injEq]at k3
        refine⟨us,by rw[k1,k3.2.1,←g6,←g2],k2,fun hf=>by rw[g10]at hf; cases hf⟩
      ·rcases R.own n e t l hn with g|⟨rfl,g⟩
       ·obtain⟨xs,k1,k2⟩:=m2.row n e t l g
        refine⟨xs,?_,DT.hs_mono O.data k2⟩
        rw[show rowA A' rw2 n=A' n by unfold rowA; rw[g]]; exact k1
       ·refine⟨[],?_,DT.hs_nil⟩
        rw[show rowA A' rw2 n=(none,0) by unfold rowA; rcases g with g|g<;>rw[g]]
        exact owns_nil
      ·obtain⟨d',g,_,gh⟩:=R.itr n d hn
       obtain⟨b,o,k1,k2,k3⟩:=m2.itr n d' g
       exact⟨b,o,by rw[show rowA A' rw2 n=A' n by unfold rowA; rw[g]]; exact k1,k2,OD.mono O.data (gh _ _ _ k3)⟩
     have hslots:∃ts4,subBE norowD pb (fun pb=>setBs pb (boN j.bo) vss fun pb=>K ts4 pb (roV j.ro y4))=some q∧∀pb1,(∀i,live pb1 i↔live pb i)→hL (env U0 B' (rowA A' rw2) pb1 (roV j.ro y4) w') ts4 a'.tmps.toList:=by
      have hsl:∀pb1,(∀i,live pb1 i↔live pb i)→hL (env U0 B' (rowA A' rw2) pb1 (roV j.ro y4) w') ts3 a'.tmps.toList:=by
       intro pb1 hl
       have O:=over pb1 hl
       have hlat:Later (Us U0 B A pb rw) (Us U0 B' (rowA A' rw2) pb1 (roV j.ro y4)) w w':=by
        refine⟨fun b hb hn=>mx.same b hb fun h=>hn (.inr ((hLx b).1 h)),mx.size,fun b hb hu=>?_⟩
        rcases hUs pb1 hl b hu with g|⟨kd,i,g⟩
        ·exact .inl g
        ·rcases (m2.low _ _ _ g).2 with g|g
         ·omega
         ·exact .inr ((hLx b).1 g)
       have hsub:Sub norowD (env U0 B A pb rw w) (env U0 B' (rowA A' rw2) pb1 (roV j.ro y4) w'):=
        ⟨hlat,fun i hi=>⟨(hl i).2 hi,(hbx i hi).2⟩,fun n e t l hn=>(by cases hn),fun n d hn=>(by cases hn),fun n p e t l hn _=>(by cases hn; simp only[DV.h]),fun n p d ad hn _ _=>(by cases hn; simp only[DV.h])⟩
       have hold:=zdr hsub ts hts
       refine hj3 _ _ ?_ fun i p v hi hp hv=>?_
       ·rw[←hL_len hold]; simp[hso.1]
       ·have hm:=yjr hi
        rw[Nat.zero_add]at hm
        have hn:i∉writes x:=fun h=>by rw[(zof _ _).2 h]at hm; cases hm
        have hs:=hso.2 i hn
        obtain⟨v',g1,g2⟩:=hL_get hold i p hp
        simp only[Array.getElem?_toList]at g1 hv
        rw[hs,g1]at hv
        cases hv
        exact g2
      exact⟨_,yij hd,fun pb1 hl=>setsE_h (hsl pb1 hl) (by
       have:=(vsX_s (over pb1 hl) _ _ hz (gtVs_h hts2 hvs) ho1).2
       rw[hzz]at this; exact this)⟩
     obtain⟨ts4,h4,hts4⟩:=hslots
     obtain⟨pb1,h5,hl,m5⟩:=hset ts4 h4
     exact⟨_,ts4,pb1,_,m5,hts4 pb1 hl,h5,hl,fun i hi=>(hbx i hi).2⟩
    ·cases h
   ·cases h
  ·cases h
 ·cases h
end
end Go.Vc

namespace Go.Vc
open Go Go.RowKit
theorem ybb:∀{pb:DBs} {i:Nat},(dbV (clrB pb) i).isSome=(dbV pb i).isSome
 |[],_=>rfl
 |some b::pb,0=>rfl
 |none::pb,0=>rfl
 |some b::pb,i+1=>by simp only[clrB,dbV]; exact ybb
 |none::pb,i+1=>by simp only[clrB,dbV]; exact ybb
theorem zvj{pb:DBs}:∀{l:List DS},ownDS (clrB pb) l=ownDS pb l
 |[]=>rfl
 |d::l=>by
  simp only[ownDS]
  rw[zvj]
  cases d<;>simp only[ybb]
theorem ydj{pb:DBs}:∀{l:List (Nat×List DS)},ownBo (clrB pb) l=ownBo pb l
 |[]=>rfl
 |(i,cs)::l=>by
  simp only[ownBo]
  rw[ydj,zvj,ybb]
theorem okJ_clr{j:DJ}{x:Code}{ts:List DV}{pb:DBs}:okJ j x ts (clrB pb)=okJ j x ts pb:=by
 unfold okJ; rw[zvj,ydj]
def endX:Exit→Prop
 | .normal=>True
 | .exit _=>True
 | .ret=>True
 |_=>False
section
variable {P:Program} {T:List TI} {C:ESs} {O:DTs} {JC JL:List (Nat×DJ)} {β:Type} [EqB β] {q:β}
omit [EqB β] in
theorem Nx.more{V:World}{U0 L:Nat→Prop}{B B1:Nat→Nat}{pb pb1:DBs}{a a1 a':Act}{w':World}{K:DK β}(hl:∀i,live pb i→live pb1 i∧B1 i=B i)(hd:a1.defers=a.defers)(h:Nx V U0 L B1 pb1 a1 K q a' w'):Nx V U0 L B pb a K q a' w':=
 let ⟨B',A',ts',pb',rw',m,h1,h2,h3,h4⟩:=h
 ⟨B',A',ts',pb',rw',m,h1,h2,h3.trans hd,fun i hi=>let ⟨g1,g2⟩:=hl i hi; let ⟨g3,g4⟩:=h4 i g1; ⟨g3,g4.trans g2⟩⟩
theorem ev_ok(hT:zas P T)(hC:CsOk P C)(hm:P.follows .mixedOrders=true):∀(c:Code) {Q:Exit→DK β} {V:World} {U0 L:Nat→Prop} {B:Nat→Nat} {A:Asg} {ts:List DV} {pb:DBs} {rw:List DR} {a:Act} {w:World},
  ev stdW T C O JC JL c Q ts pb rw=some q→Mem V U0 L B A pb rw w→hL (env U0 B A pb rw w) ts a.tmps.toList→c.wp P (fun e a' w'=>endX e∧Nx V U0 L B pb a (Q e) q a' w'∧zbb (writes c) a a') a w
 | .skip,Q,V,U0,L,B,A,ts,pb,rw,a,w,h,m,hts=>by
  simp only[ev]at h
  exact wp_skip ⟨trivial,⟨B,A,ts,pb,rw,m,hts,h,rfl,fun i hi=>⟨hi,rfl⟩⟩,zbb.refl _ _⟩
 | .label _,Q,V,U0,L,B,A,ts,pb,rw,a,w,h,m,hts=>by
  simp only[ev]at h
  exact wp_label ⟨trivial,⟨B,A,ts,pb,rw,m,hts,h,rfl,fun i hi=>⟨hi,rfl⟩⟩,zbb.refl _ _⟩
 | .exit id,Q,V,U0,L,B,A,ts,pb,rw,a,w,h,m,hts=>by
  simp only[ev]at h
  exact wp_exit ⟨trivial,⟨B,A,ts,pb,rw,m,hts,h,rfl,fun i hi=>⟨hi,rfl⟩⟩,zbb.refl _ _⟩
 | .ret,Q,V,U0,L,B,A,ts,pb,rw,a,w,h,m,hts=>by
  simp only[ev]at h
  exact wp_ret ⟨trivial,⟨B,A,ts,pb,rw,m,hts,h,rfl,fun i hi=>⟨hi,rfl⟩⟩,zbb.refl _ _⟩
 | .seq x y,Q,V,U0,L,B,A,ts,pb,rw,a,w,h,m,hts=>by
  have hwx:∀i∈writes x,i∈writes (.seq x y):=fun i hi=>by simp[writes,hi]
  have hwy:∀i∈writes y,i∈writes (.seq x y):=fun i hi=>by simp[writes,hi]
  unfold ev at h
  split at h
  ·refine wp_seq (wp_mono (ev_ok hT hC hm x h m hts) fun e a1 w1 hq=>?_)
   obtain⟨he,hn,hso⟩:=hq
   cases e with
   |normal=>
    obtain⟨B1,A1,ts1,pb1,rw1,m1,hts1,h1,hd,hl⟩:=hn
    refine wp_mono (ev_ok hT hC hm y h1 m1 hts1) fun e a2 w2 hq=>?_
    exact⟨hq.1,hq.2.1.more hl hd,(hso.mono hwx).trans (hq.2.2.mono hwy)⟩
   |exit i=>exact⟨he,hn,hso.mono hwx⟩
   |ret=>exact⟨he,hn,hso.mono hwx⟩
   |_=>exact he.elim
  ·rename_i j hj
   split at h
   ·rename_i hok
    obtain⟨ma,sa⟩:=m.anchor
    have h:ev stdW T C O JC JL x (fun e ts' pb' rw'=>match e with
     | .normal=>outD j pb ts' pb' rw' fun z=>headD j x ts pb z fun ts1 pb1 rw1=>ev stdW T C O JC JL y Q ts1 pb1 rw1
     | .exit i=>Q (.exit i) ts' (orW pb pb') rw'
     | .ret=>Q .ret ts' (orW pb pb') rw'
     |_=>none) ts (clrB pb) rw=some q:=h
    refine wp_seq (wp_mono (ev_ok hT hC hm x h ma (noSub sa hts)) fun e a1 w1 hq=>?_)
    obtain⟨he,⟨B1,A1,ts1,pb1,rw1,mx,hx,h1,hd,hl⟩,hso⟩:=hq
    have hl:∀i,live pb i→live pb1 i∧B1 i=B i:=fun i hi=>hl i (znl.2 hi)
    have out:∀{K:DK β},K ts1 (orW pb pb1) rw1=some q→Nx V U0 L B pb a K q a1 w1:=by
     intro K hK
     obtain⟨mo,so⟩:=m.out2 (fun _=>Iff.rfl) mx fun i hi=>(hl i hi).2
     exact⟨B1,A1,ts1,_,rw1,mo,noSub so hx,hK,hd,fun i hi=>⟨yad.2 (hl i hi).1,(hl i hi).2⟩⟩
    cases e with
    |normal=>
     obtain⟨z,hk,hh⟩:=ygp m hts hok (fun _=>Iff.rfl) mx hx hso hl h1
     obtain⟨A2,ts2,pb2,rw2,m2,hts2,h2,g1,g2⟩:=hh hk
     refine wp_mono (ev_ok hT hC hm y h2 m2 hts2) fun e a2 w2 hq=>?_
     exact⟨hq.1,hq.2.1.more (fun i hi=>⟨(g1 i).2 hi,g2 i hi⟩) hd,(hso.mono hwx).trans (hq.2.2.mono hwy)⟩
    |exit i=>exact⟨he,out h1,hso.mono hwx⟩
    |ret=>exact⟨he,out h1,hso.mono hwx⟩
    |_=>exact he.elim
   ·cases h
 | .cond c x y,Q,V,U0,L,B,A,ts,pb,rw,a,w,h,m,hts=>by
  have hwx:∀i∈writes x,i∈writes (.cond c x y):=fun i hi=>by simp[writes,hi]
  have hwy:∀i∈writes y,i∈writes (.cond c x y):=fun i hi=>by simp[writes,hi]
  unfold ev at h
  split at h
  ·rename_i hc
   have hc:=opV_h hc hts
   simp only[DV.h]at hc
   exact wp_cond_true hc (wp_mono (ev_ok hT hC hm x h m hts) fun e a1 w1 hq=>⟨hq.1,hq.2.1,hq.2.2.mono hwx⟩)
  ·rename_i hc
   have hc:=opV_h hc hts
   simp only[DV.h]at hc
   exact wp_cond_false hc (wp_mono (ev_ok hT hC hm y h m hts) fun e a1 w1 hq=>⟨hq.1,hq.2.1,hq.2.2.mono hwy⟩)
  ·rename_i b hc
   have hc:=opV_h hc hts
   simp only[DV.h]at hc
   rcases cnd_s h with ⟨rfl,h⟩|⟨rfl,h⟩
   ·exact wp_cond_true hc (wp_mono (ev_ok hT hC hm x h m hts) fun e a1 w1 hq=>⟨hq.1,hq.2.1,hq.2.2.mono hwx⟩)
   ·exact wp_cond_false hc (wp_mono (ev_ok hT hC hm y h m hts) fun e a1 w1 hq=>⟨hq.1,hq.2.1,hq.2.2.mono hwy⟩)
  ·cases h
 | .block id x,Q,V,U0,L,B,A,ts,pb,rw,a,w,h,m,hts=>by
  simp only[ev]at h
  refine wp_block (wp_mono (ev_ok hT hC hm x h m hts) fun e a1 w1 hq=>?_)
  obtain⟨he,hn,hso⟩:=hq
  cases e with
  |normal=>exact⟨he,hn,hso⟩
  |ret=>exact⟨he,hn,hso⟩
  |exit i=>
   unfold Exit.inBlock
   obtain⟨B1,A1,ts1,pb1,rw1,m1,hts1,h1,hd,hl⟩:=hn
   by_cases hi:i=id
   ·subst hi
    simp only[if_true]
    simp only[show Nat.beq i i=true from Nat.beq_refl i]at h1
    exact⟨trivial,⟨B1,A1,ts1,pb1,rw1,m1,hts1,h1,hd,hl⟩,hso⟩
   ·simp only[hi,if_false]
    simp only[show Nat.beq i id=false from by cases hb:Nat.beq i id with|false=>rfl|true=>exact absurd (Nat.eq_of_beq_eq_true hb) hi]at h1
    exact⟨trivial,⟨B1,A1,ts1,pb1,rw1,m1,hts1,h1,hd,hl⟩,hso⟩
  |_=>exact he.elim
 | .scope x,Q,V,U0,L,B,A,ts,pb,rw,a,w,h,m,hts=>by
  simp only[ev]at h
  refine wp_scope_straight (wp_mono (ev_ok hT hC hm x h m hts) fun e a1 w1 hq=>?_)
  cases e with
  |normal=>exact hq
  |ret=>exact hq
  |exit i=>exact hq
  |_=>exact hq.1.elim
 | .region id ops draw,Q,V,U0,L,B,A,ts,pb,rw,a,w,h,m,hts=>by
  unfold ev at h
  cases draw with
  |false=>exact wp_region_list (zwp (al:=fun _=>true) hT hC ops.toList h m hts fun a' w' hn hso=>⟨trivial,hn.nx,hso⟩)
  |true=>exact drawD_ok hT hC hm h m hts fun a' w' hn hso=>⟨trivial,hn,hso⟩
 | .loop x,Q,V,U0,L,B,A,ts,pb,rw,a,w,h,m,hts=>by
  unfold ev at h
  split at h
  ·cases h
  ·rename_i j hj
   split at h
   ·rename_i hok
    obtain⟨ma,sa⟩:=m.anchor
    have hok1:okJ j x ts (clrB pb)=true:=by rw[okJ_clr]; exact hok
    have hLx:∀b,Ow B A pb rw b↔Ow B A (clrB pb) rw b:=fun b=>⟨fun ⟨k,i,h⟩=>⟨k,i,(zgl fun i=>znl).2 h⟩,fun ⟨k,i,h⟩=>⟨k,i,(zgl fun i=>znl).1 h⟩⟩
    have htsa:=noSub sa hts
    rw[←yjl]at h
    obtain⟨z0,h,hh0⟩:=ygp ma htsa hok1 hLx ma htsa (zbb.refl _ _) (fun i hi=>⟨hi,rfl⟩) h
    have h:loopF FU (fun z again=>headD j x ts (clrB pb) z fun ts1 pb1 rw1=>
     ev stdW T C O JC JL x (fun e ts' pb' rw'=>match e with
      | .normal=>outD j pb ts' pb' rw' again
      | .exit i=>Q (.exit i) ts' (orW pb pb') rw'
      | .ret=>Q .ret ts' (orW pb pb') rw'
      |_=>none) ts1 pb1 rw1) z0=some q:=h
    generalize FU=N at h
    refine wp_loop_ghost (fun n a1 w1=>∃z B1,loopF n (fun z again=>headD j x ts (clrB pb) z fun ts1 pb1 rw1=>
     ev stdW T C O JC JL x (fun e ts' pb' rw'=>match e with
      | .normal=>outD j pb ts' pb' rw' again
      | .exit i=>Q (.exit i) ts' (orW pb pb') rw'
      | .ret=>Q .ret ts' (orW pb pb') rw'
      |_=>none) ts1 pb1 rw1) z=some q∧zbb (writes x) a a1∧a1.defers=a.defers∧
     ∀{K:DK β},headD j x ts (clrB pb) z K=some q→∃A2 ts1 pb1 rw1,Mem w U0 (Ow B A pb rw) B1 A2 pb1 rw1 w1∧hL (env U0 B1 A2 pb1 rw1 w1) ts1 a1.tmps.toList∧K ts1 pb1 rw1=some q∧(∀i,live pb1 i↔live (clrB pb) i)∧∀i,live (clrB pb) i→B1 i=B i) N ⟨z0,B,h,zbb.refl _ _,rfl,fun h=>hh0 h⟩ ?_
    rintro n a1 w1 ⟨z,B1,hn,hso,hd,hh⟩
    cases n with
    |zero=>cases hn
    |succ n=>
     simp only[loopF]at hn
     obtain⟨A2,ts1,pb1,rw1,m1,hts1,h1,hl1,hB1⟩:=hh hn
     refine wp_mono (ev_ok hT hC hm x h1 m1 hts1) fun e a2 w2 hq=>?_
     obtain⟨he,⟨B2,A3,ts2,pb2,rw2,mx,hx,h2,hd2,hl2⟩,hso2⟩:=hq
     have hl:∀i,live (clrB pb) i→live pb2 i∧B2 i=B i:=fun i hi=>let ⟨g1,g2⟩:=hl2 i ((hl1 i).2 hi); ⟨g1,g2.trans (hB1 i hi)⟩
     have hl':∀i,live pb i→live pb2 i∧B2 i=B i:=fun i hi=>hl i (znl.2 hi)
     have out:∀{K:DK β},K ts2 (orW pb pb2) rw2=some q→Nx V U0 L B pb a K q a2 w2:=by
      intro K hK
      obtain⟨mo,so⟩:=m.out2 (fun _=>Iff.rfl) mx fun i hi=>(hl' i hi).2
      exact⟨B2,A3,ts2,_,rw2,mo,noSub so hx,hK,hd2.trans hd,fun i hi=>⟨yad.2 (hl' i hi).1,(hl' i hi).2⟩⟩
     cases e with
     |normal=>
      have h2:outD j pb ts2 pb2 rw2 _=some q:=h2
      rw[←yjl]at h2
      obtain⟨z2,hk,hh2⟩:=ygp ma htsa hok1 hLx mx hx (hso.trans hso2) hl h2
      exact⟨n,Nat.lt_succ_self n,z2,B2,hk,hso.trans hso2,hd2.trans hd,fun h=>hh2 h⟩
     |exit i=>exact⟨he,out h2,hso.trans hso2⟩
     |ret=>exact⟨he,out h2,hso.trans hso2⟩
     |_=>exact he.elim
   ·cases h
 | .goto _,Q,V,U0,L,B,A,ts,pb,rw,a,w,h,m,hts=>by simp only[ev]at h; cases h
end
end Go.Vc

namespace Go.Vc
open Go Go.RowKit
section
variable {β:Type} {q:β}
mutual
theorem QT.x_s{am:List (Nat×Nat)}{E:Env}:(Q:QT)→(p:DV)→(m:MS)→(rw0:List DR)→(y:Q.den)→(mF:MS)→Q.x am p m=some (y,mF)→MI E m rw0→
  MI E mF (Q.mk y rw0).2∧(∃a,mF.rs=m.rs++a)∧∀E0 v rsF,(∃a,rsF=mF.rs++a)→TrI am rsF E E0→p.h E v→(Q.mk y rw0).1.h E0 v
 | .v t,p,m,rw0,y,mF,h,hm=>by
  simp only[QT.x]at h
  split at h
  ·rename_i x hx
   simp only[Option.some.injEq,Prod.mk.injEq]at h
   obtain⟨rfl,rfl⟩:=h
   exact⟨hm,⟨[],by simp⟩,fun E0 v rsF _ s hp=>t.val_h (DT.hv_mono s.sl (DT.ofV_h hx hp))⟩
  ·cases h
 | .own e t,p,m,rw0,y,mF,h,hm=>by
  simp only[QT.x]at h
  split at h
  ·rename_i j
   split at h
   ·rename_i e' t' xs hj
    rw[zbm]at hj
    split at h
    ·rename_i hh he hs
     simp only[Option.some.injEq,Prod.mk.injEq]at h
     obtain⟨rfl,rfl⟩:=h
     have he:=Nat.eq_of_beq_eq_true he
     subst he hh
     obtain⟨hm',hE⟩:=hm.take hj
     refine⟨hm',⟨_,rfl⟩,fun E0 v rsF ⟨a,ha⟩ s hp=>?_⟩
     have hn:rsF[rw0.length]?=some (some j):=by rw[ha]; simp[←hm.len]
     obtain⟨g1,g2⟩:=s.row _ _ _ _ _ hn hE
     simp only[DV.h]at hp
     obtain⟨e2,t2,l2,hj2,rfl⟩:=hp
     rw[hE]at hj2; simp only[Option.some.injEq,DR.own.injEq]at hj2
     obtain⟨rfl,rfl,hl2⟩:=hj2
     cases hl2
     simp only[QT.mk,DV.h]
     exact⟨_,_,_,g1,by rw[g2]⟩
    ·cases h
   ·cases h
  ·simp only[Option.some.injEq,Prod.mk.injEq]at h
   obtain⟨rfl,rfl⟩:=h
   refine⟨hm.emp e t,⟨_,rfl⟩,fun E0 v rsF ⟨a,ha⟩ s hp=>?_⟩
   have hn:rsF[rw0.length]?=some none:=by rw[ha]; simp[←hm.len]
   obtain⟨⟨e1,t1,g1⟩,g2⟩:=s.nil _ hn
   simp only[DV.h]at hp
   subst hp
   simp only[QT.mk,DV.h]
   exact⟨_,_,_,g1,by rw[g2]; rfl⟩
  ·cases h
 | .ptr n,p,m,rw0,y,mF,h,hm=>by
  simp only[QT.x]at h
  split at h
  ·rename_i i o
   split at h
   ·rename_i i' hl
    split at h
    ·rename_i hb
     have hb:=Nat.eq_of_beq_eq_true hb
     subst hb
     simp only[Option.some.injEq,Prod.mk.injEq]at h
     obtain⟨_,rfl⟩:=h
     refine⟨hm,⟨[],by simp⟩,fun E0 v rsF _ s hp=>?_⟩
     simp only[DV.h]at hp
     obtain⟨g1,rfl⟩:=hp
     obtain⟨g2,g3⟩:=s.bx _ _ hl g1
     simp only[QT.mk,DV.h]
     exact⟨g2,by rw[g3]⟩
    ·cases h
   ·cases h
  ·cases h
 | .unit,p,m,rw0,y,mF,h,hm=>by
  simp only[QT.x]at h
  split at h
  ·simp only[Option.some.injEq,Prod.mk.injEq]at h
   obtain⟨_,rfl⟩:=h
   refine⟨hm,⟨[],by simp⟩,fun E0 v rsF _ s hp=>?_⟩
   simp only[DV.h,hL]at hp
   obtain⟨vs,rfl,hp⟩:=hp
   simp only[QT.mk,DV.h,hL]
   exact⟨vs,rfl,hp⟩
  ·cases h
 | .pair a b,p,m,rw0,y,mF,h,hm=>by
  simp only[QT.x]at h
  split at h
  ·rename_i p ps
   split at h
   ·rename_i x m1 hx
    split at h
    ·rename_i y2 m2 hy
     simp only[Option.some.injEq,Prod.mk.injEq]at h
     obtain⟨rfl,rfl⟩:=h
     obtain⟨h1,⟨a1,h2⟩,h3⟩:=QT.x_s a p m rw0 x m1 hx hm
     obtain⟨k1,⟨a2,k2⟩,k3⟩:=QT.xs_s b ps m1 _ y2 m2 hy h1
     refine⟨k1,⟨a1++a2,by rw[k2,h2,List.append_assoc]⟩,fun E0 v rsF ⟨c,hc⟩ s hp=>?_⟩
     simp only[DV.h,hL]at hp
     obtain⟨vs,rfl,u,us,hv,hp1,hp2⟩:=hp
     simp only[QT.mk,DV.h,hL]
     exact⟨vs,rfl,u,us,hv,h3 E0 u rsF ⟨a2++c,by rw[hc,k2,List.append_assoc]⟩ s hp1,k3 E0 us rsF ⟨c,hc⟩ s hp2⟩
    ·cases h
   ·cases h
  ·cases h
theorem QT.xs_s{am:List (Nat×Nat)}{E:Env}:(Q:QT)→(ps:List DV)→(m:MS)→(rw0:List DR)→(y:Q.den)→(mF:MS)→Q.xs am ps m=some (y,mF)→MI E m rw0→
  MI E mF (Q.mks y rw0).2∧(∃a,mF.rs=m.rs++a)∧∀E0 vs rsF,(∃a,rsF=mF.rs++a)→TrI am rsF E E0→hL E ps vs→hL E0 (Q.mks y rw0).1 vs
 | .unit,ps,m,rw0,y,mF,h,hm=>by
  simp only[QT.xs]at h
  split at h
  ·simp only[Option.some.injEq,Prod.mk.injEq]at h
   obtain⟨_,rfl⟩:=h
   exact⟨hm,⟨[],by simp⟩,fun E0 vs rsF _ s hp=>by simpa only[QT.mks,hL]using hp⟩
  ·cases h
 | .pair a b,ps,m,rw0,y,mF,h,hm=>by
  simp only[QT.xs]at h
  split at h
  ·rename_i p ps
   split at h
   ·rename_i x m1 hx
    split at h
    ·rename_i y2 m2 hy
     simp only[Option.some.injEq,Prod.mk.injEq]at h
     obtain⟨rfl,rfl⟩:=h
     obtain⟨h1,⟨a1,h2⟩,h3⟩:=QT.x_s a p m rw0 x m1 hx hm
     obtain⟨k1,⟨a2,k2⟩,k3⟩:=QT.xs_s b ps m1 _ y2 m2 hy h1
     refine⟨k1,⟨a1++a2,by rw[k2,h2,List.append_assoc]⟩,fun E0 v rsF ⟨c,hc⟩ s hp=>?_⟩
     simp only[hL]at hp
     obtain⟨u,us,hv,hp1,hp2⟩:=hp
     simp only[QT.mks,hL]
     exact⟨u,us,hv,h3 E0 u rsF ⟨a2++c,by rw[hc,k2,List.append_assoc]⟩ s hp1,k3 E0 us rsF ⟨c,hc⟩ s hp2⟩
    ·cases h
   ·cases h
  ·cases h
 | .v _,ps,m,rw0,y,mF,h,_=>by simp[QT.xs]at h
 | .own _ _,ps,m,rw0,y,mF,h,_=>by simp[QT.xs]at h
 | .ptr _,ps,m,rw0,y,mF,h,_=>by simp[QT.xs]at h
end
theorem selfA_s{am:List (Nat×Nat)}:∀{n:Nat},selfA am n=true→∀{k:Nat},k<n→lkA am k=some k
 |0,_,k,hk=>by omega
 |n+1,h,k,hk=>by
  simp only[selfA,Bool.and_eq_true]at h
  by_cases hkn:k=n
  ·subst hkn
   have h1:=h.1
   split at h1
   ·rename_i i hi; rw[hi,Nat.eq_of_beq_eq_true h1]
   ·cases h1
  ·exact selfA_s h.2 (by omega)
end
end Go.Vc

namespace Go.Vc
open Go Go.RowKit
theorem bkM_len:∀(l:List BK) (r:DT) (z:(bkT l r).den) (rw:List DR),(bkM l r z rw).1.length=l.length
 |[],_,_,_=>rfl
 |Bk::l,r,z,rw=>by simp only[bkM,List.length_cons]; rw[bkM_len l r]
section
variable {V:World} {U0 L:Nat→Prop} {B:Nat→Nat} {A:Asg} {pb:DBs} {rw:List DR} {w:World}
theorem yjw{σ:Nat→Option Nat}{rs:List (Option Nat)}{pb0:DBs}{rw0:List DR}(hb:∀(k:Nat) (b0:DB),pb0[k]?=some (some b0)→∃i b,σ k=some i∧pb[i]?=some (some b)∧b0.ty=b.ty∧b0.w=true)
  (hr:∀(n:Nat) (r:DR),rw0[n]?=some r→(∃j e t l,rs[n]?=some (some j)∧rw[j]?=some r∧r=.own e t l)∨(rs[n]?=some none∧∃e t,r=.own e t [])):
  (∀n b,blk (lB B σ) (lA A rs) pb0 rw0 true n b→∃j,rs[n]?=some (some j)∧blk B A pb rw true j b)∧(∀k b,blk (lB B σ) (lA A rs) pb0 rw0 false k b→∃i,σ k=some i∧blk B A pb rw false i b):=by
 constructor
 ·rintro n b ⟨r,ad,g1,g2,g3,g4⟩
  rcases hr n r g1 with ⟨j,e,t,l,k1,k2,k3⟩|⟨k1,_⟩
  ·refine⟨j,k1,r,ad,k2,g2,?_,g4⟩
   simpa only[lA,k1]using g3
  ·simp only[lA,k1]at g3; cases g3
 ·rintro k b ⟨⟨b0,g1⟩,g2⟩
  obtain⟨i,b1,k1,k2,_⟩:=hb k b0 g1
  exact⟨i,k1,⟨b1,k2⟩,by simpa only[lB,k1,Option.getD_some]using g2⟩
theorem Mem.leave(m:Mem V U0 L B A pb rw w){σ:Nat→Option Nat}{rs:List (Option Nat)}{pb0:DBs}{rw0:List DR}
  (hb:∀(k:Nat) (b0:DB),pb0[k]?=some (some b0)→∃i b,σ k=some i∧pb[i]?=some (some b)∧b0.ty=b.ty∧b0.w=true)
  (hc:∀(k:Nat) (b0:DB) (i:Nat) (b:DB),pb0[k]?=some (some b0)→σ k=some i→pb[i]?=some (some b)→∀vs,hL (env U0 B A pb rw w) b.cells vs→hL (env U0 (lB B σ) (lA A rs) pb0 rw0 w) b0.cells vs)
  (hσ:∀(k k' i:Nat),σ k=some i→σ k'=some i→k=k')
  (hr:∀(n:Nat) (r:DR),rw0[n]?=some r→(∃j e t l,rs[n]?=some (some j)∧rw[j]?=some r∧r=.own e t l)∨(rs[n]?=some none∧∃e t,r=.own e t []))
  (hρ:∀(n n' j:Nat),rs[n]?=some (some j)→rs[n']?=some (some j)→n=n'):Mem V U0 L (lB B σ) (lA A rs) pb0 rw0 w:=by
 obtain⟨h1,h2⟩:=yjw (B:=B) (A:=A) hb hr
 have h3:∀k i b,blk (lB B σ) (lA A rs) pb0 rw0 k i b→∃i',blk B A pb rw k i' b:=by
  intro k i b h
  cases k with
  |true=>obtain⟨j,_,h⟩:=h1 i b h; exact⟨j,h⟩
  |false=>obtain⟨j,_,h⟩:=h2 i b h; exact⟨j,h⟩
 have hU:∀b,Us U0 (lB B σ) (lA A rs) pb0 rw0 b→Us U0 B A pb rw b:=by
  rintro b (h|⟨k,i,h⟩)
  ·exact .inl h
  ·obtain⟨i',h⟩:=h3 k i b h; exact .inr ⟨k,i',h⟩
 refine⟨m.os,m.tape,m.output,m.size,m.same,m.u0,fun k i b h=>?_,fun k i k' i' b h h'=>?_,fun k b0 h=>?_,fun n e t l h=>?_,fun n d h=>?_⟩
 ·obtain⟨i',g⟩:=h3 k i b h; exact m.low k i' b g
 ·cases k with
  |true=>
   obtain⟨j,g1,g2⟩:=h1 i b h
   cases k' with
   |true=>obtain⟨j',g3,g4⟩:=h1 i' b h'; have:=(m.inj _ _ _ _ _ g2 g4).2; subst this; exact⟨rfl,hρ _ _ _ g1 g3⟩
   |false=>obtain⟨j',g3,g4⟩:=h2 i' b h'; have:=(m.inj _ _ _ _ _ g2 g4).1; cases this
  |false=>
   obtain⟨j,g1,g2⟩:=h2 i b h
   cases k' with
   |true=>obtain⟨j',g3,g4⟩:=h1 i' b h'; have:=(m.inj _ _ _ _ _ g2 g4).1; cases this
   |false=>obtain⟨j',g3,g4⟩:=h2 i' b h'; have:=(m.inj _ _ _ _ _ g2 g4).2; subst this; exact⟨rfl,hσ _ _ _ g1 g3⟩
 ·obtain⟨i,b,g1,g2,g3,g4⟩:=hb k b0 h
  obtain⟨cs,k1,k2,_⟩:=m.box i b g2
  exact⟨cs,by simp only[lB,g1,Option.getD_some,g3]; exact k1,hc k b0 i b h g1 g2 cs k2,fun hw=>by rw[g4]at hw; cases hw⟩
 ·rcases hr n _ h with ⟨j,e',t',l',k1,k2,k3⟩|⟨k1,e',t',k3⟩
  ·obtain⟨xs,g1,g2⟩:=m.row j e t l k2
   refine⟨xs,by simp only[lA,k1]; exact g1,DT.hs_mono ⟨fun _ _ _=>rfl,Nat.le_refl _,fun b _ h=>hU b h⟩ g2⟩
  ·simp only[DR.own.injEq]at k3
   obtain⟨rfl,rfl,k3⟩:=k3
   cases k3
   exact⟨[],by simp only[lA,k1]; exact World.ownsRow_nil w 0 e t.size,DT.hs_nil⟩
 ·rcases hr n _ h with ⟨j,e',t',l',k1,k2,k3⟩|⟨k1,e',t',k3⟩<;>cases k3
theorem fin_ok(m:Mem V U0 L B A pb rw w){El:List BK}{Q:QT}{am:List (Nat×Nat)}{e:(bkT El .unit).den}{y:Q.den}{p:DV}{v:Value}{ms ms':MS}(hp:p.h (env U0 B A pb rw w) v)
  (hnd:nodupN (sndN am)=true) (hkl:keysLt am El.length=true) (hX:bkX am pb El 0 .unit ⟨[],rw⟩ (fun m=>some ((),m))=some (e,ms)) (hQ:Q.x am p ms=some (y,ms')):
  ∃A',Mem V U0 L (lB B (lkA am)) A' (bkM El .unit e []).1 (Q.mk y (bkM El .unit e []).2.2).2 w∧(Q.mk y (bkM El .unit e []).2.2).1.h (env U0 (lB B (lkA am)) A' (bkM El .unit e []).1 (Q.mk y (bkM El .unit e []).2.2).2 w) v∧
   (bkM El .unit e []).1.length=El.length∧∀k,k<El.length→live (bkM El .unit e []).1 k:=by
 obtain⟨z0,m1,rw1,g1,g2,g3,⟨a1,g4⟩,⟨b1,g5⟩,g6,g7,g8⟩:=bkX_s (am:=am) (E:=env U0 B A pb rw w) El 0 .unit ⟨[],rw⟩ _ [] e ms hX (MI.nil (env U0 B A pb rw w))
 simp only[Option.some.injEq,Prod.mk.injEq]at g1
 obtain⟨_,rfl⟩:=g1
 obtain⟨k1,⟨a2,k2⟩,k3⟩:=QT.x_s (am:=am) (E:=env U0 B A pb rw w) Q p m1 rw1 y ms' hQ g3
 have e1:(bkM El .unit e []).2.2=rw1:=by rw[g2]
 rw[e1]
 generalize hpb0:(bkM El .unit e []).1=pb0 at g6 g7 g8
 generalize hrw2:(Q.mk y rw1).2=rw2 at k1
 have hbw:∀(k:Nat) (b0:DB),pb0[k]?=some (some b0)→∃i b,lkA am k=some i∧pb[i]?=some (some b)∧b0.ty=b.ty∧b0.w=true:=fun k b0 h=>by
  obtain⟨i,b,h1,h2,h3,h4,_⟩:=g7 k b0 h
  rw[Nat.zero_add]at h1
  exact⟨i,b,h1,h2,h3,h4⟩
 have hr:=k1.row
 obtain⟨h1,h2⟩:=yjw (B:=B) (A:=A) hbw hr
 have tri:TrI am ms'.rs (env U0 B A pb rw w) (env U0 (lB B (lkA am)) (lA A ms'.rs) pb0 rw2 w):=by
  refine⟨⟨fun _ _ _=>rfl,Nat.le_refl _,fun b _ hu=>?_⟩,fun k i hk hl=>?_,fun n j e t l hn hj=>?_,fun n hn=>?_⟩
  ·rcases hu with hu|⟨k,i,hu⟩
   ·exact .inl hu
   ·cases k with
    |true=>obtain⟨j,_,h⟩:=h1 i b hu; exact .inr ⟨_,j,h⟩
    |false=>obtain⟨j,_,h⟩:=h2 i b hu; exact .inr ⟨_,j,h⟩
  ·obtain⟨b0,hb0⟩:=g8 k (ztv hkl hk)
   refine⟨⟨b0,hb0⟩,?_⟩
   show lB B (lkA am) k=B i
   simp only[lB,hk,Option.getD_some]
  ·obtain⟨n',hn'⟩:∃r,rw2[n]?=some r:=⟨_,List.getElem?_eq_getElem (by rw[←k1.len]; exact(List.getElem?_eq_some_iff.1 hn).1)⟩
   rcases hr n n' hn' with ⟨j',e',t',l',c1,c2,c3⟩|⟨c1,_⟩
   ·rw[hn]at c1; simp only[Option.some.injEq]at c1; subst c1
    rw[hj]at c2; simp only[Option.some.injEq]at c2
    refine⟨by rw[c2]; exact hn',?_⟩
    show lA A ms'.rs n=A j
    simp only[lA,hn]
   ·rw[hn]at c1; cases c1
  ·obtain⟨n',hn'⟩:∃r,rw2[n]?=some r:=⟨_,List.getElem?_eq_getElem (by rw[←k1.len]; exact(List.getElem?_eq_some_iff.1 hn).1)⟩
   rcases hr n n' hn' with ⟨j',e',t',l',c1,c2,c3⟩|⟨_,e,t,c1⟩
   ·rw[hn]at c1; cases c1
   ·refine⟨⟨e,t,by rw[←c1]; exact hn'⟩,?_⟩
    show lA A ms'.rs n=(none,0)
    simp only[lA,hn]
 refine⟨lA A ms'.rs,m.leave hbw (fun k b0 i b c1 c2 c3 us hu=>?_) (fun k k' i h h'=>yal hnd h h') hr k1.inj,k3 _ v ms'.rs ⟨[],by simp⟩ tri hp,g6,g8⟩
 obtain⟨i',b',d1,d2,_,_,d5⟩:=g7 k b0 c1
 rw[Nat.zero_add,c2]at d1; simp only[Option.some.injEq]at d1; subst d1
 have d2:pb[i]?=some (some b'):=d2
 rw[c3]at d2; simp only[Option.some.injEq]at d2; subst d2
 have pre:∀(n:Nat) (x:Option Nat),m1.rs[n]?=some x→ms'.rs[n]?=some x:=fun n x hn=>by
  rw[k2,List.getElem?_append_left (List.getElem?_eq_some_iff.1 hn).1]; exact hn
 exact d5 _ ⟨[],by simp⟩ ⟨tri.sl,tri.bx,fun n j e t l hn hj=>tri.row n j e t l (pre n _ hn) hj,fun n hn=>tri.nil n (pre n _ hn)⟩ us hu
end
section
variable {P:Program} {T:List TI} {V:World} {U0 L:Nat→Prop} {B:Nat→Nat} {A:Asg} {ts:List DV} {pb:DBs} {rw:List DR} {a:Act} {w:World} {β:Type} {q:β} {C:ESs} {O:DTs} {JC JL:List (Nat×DJ)}
def resOne(tmps:Array Value):ResultVar→Sem Value
 | .tmp t=>pure (tmps.getD t undef)
 | .cell c t=>do loadVar t (←asAddr (tmps.getD c undef))
theorem resE_s(hT:zas P T)(m:Mem V U0 L B A pb rw w)(hts:hL (env U0 B A pb rw w) ts a.tmps.toList):∀(rs:List ResultVar) {K:List DV→Option β},resE stdW T rs ts pb rw K=some q→
  ∃xs vs,K xs=some q∧hL (env U0 B A pb rw w) xs vs∧(rs.mapM (resOne a.tmps)).run P w=.ok vs w
 |[],K,h=>⟨[],[],h,by simp[hL],by simp⟩
 | .tmp t::rs,K,h=>by
  simp only[resE]at h
  split at h
  ·rename_i x hx
   obtain⟨xs,vs,h1,h2,h3⟩:=resE_s hT m hts rs h
   have hv:=gtV_h hx hts
   refine⟨x::xs,((a.tmps.toList[t]?).getD undef)::vs,h1,?_,?_⟩
   ·simp only[hL]; exact⟨_,_,rfl,hv,h2⟩
   ·have e:a.tmps.getD t undef=(a.tmps.toList[t]?).getD undef:=by simp
    simp only[List.mapM_cons,resOne,Sem.run_bind,Sem.run_pure,Result.andThen_ok,h3,e]
  ·cases h
 | .cell c t::rs,K,h=>by
  simp only[resE]at h
  split at h
  ·rename_i x hx
   have hv:=gtV_h hx hts
   obtain⟨r,u,ad,e1,g1,g2,g3,_⟩:=yaj (P:=P) hT m h hv
   obtain⟨xs,vs,h1,h2,h3⟩:=resE_s hT m hts rs g1
   refine⟨r::xs,u::vs,h1,?_,?_⟩
   ·simp only[hL]; exact⟨_,_,rfl,g2,h2⟩
   ·have hr:=g3 w rfl
    have e:a.tmps.getD c undef=.pointer (some ad):=by rw[←e1]; simp
    rw[e1]at hr
    simp only[Instr.loadAt,Instr.sureAddr,Sem.run_bind,Sem.run_pure,Result.andThen_ok]at hr
    simp only[List.mapM_cons,resOne,Sem.run_bind,e,asAddr,Sem.run_pure,Result.andThen_ok,hr,h3]
  ·cases h
def oneW(vs:List Value):Value:=match vs with|[v]=>v|vs=>.tuple vs.toArray
theorem ybz(hT:zas P T)(m:Mem V U0 L B A pb rw w)(hts:hL (env U0 B A pb rw w) ts a.tmps.toList){fn:Func}{K:List DV→Option β}(h:resE stdW T fn.results.toList ts pb rw K=some q):
  ∃xs v,K xs=some q∧(oneV xs).h (env U0 B A pb rw w) v∧(results fn a.tmps).run P w=.ok v w:=by
 obtain⟨xs,vs,h1,h2,h3⟩:=resE_s hT m hts _ h
 refine⟨xs,oneW vs,h1,?_,?_⟩
 ·cases xs with
  |nil=>simp only[hL]at h2; subst h2; simp only[oneV,DV.h]; exact⟨#[],rfl,by simp[hL]⟩
  |cons x xs=>
   cases xs with
   |nil=>
    simp only[hL]at h2
    obtain⟨v,vs',rfl,h4,rfl⟩:=h2
    exact h4
   |cons y xs=>
    have h4:=h2
    simp only[hL]at h4
    obtain⟨v,vs',rfl,_,v2,vs2,rfl,_⟩:=h4
    simp only[oneV,DV.h]
    exact⟨_,rfl,h2⟩
 ·unfold results
  rw[Sem.run_bind,Array.mapM_eq_mapM_toList,Sem.run_map]
  have e:∀f:ResultVar→Sem Value,f=resOne a.tmps→(fn.results.toList.mapM f).run P w=(fn.results.toList.mapM (resOne a.tmps)).run P w:=fun f h=>by rw[h]
  rw[e _ (by funext x; cases x<;>rfl),h3]
  simp only[Result.andThen_ok]
  match vs with
  |[]=>simp[oneW]
  |[x]=>simp[oneW]
  |x::y::zs=>simp[oneW]
theorem initE_s:∀(xs:List DV) (n:Nat) {K:List DV→Option β},initE xs n K=some q→K (xs++List.replicate (n - xs.length) .und)=some q∧xs.length≤n
 |[],n,K,h=>⟨by simpa[initE]using h,by simp⟩
 |x::xs,n+1,K,h=>by
  have:=initE_s xs n h
  simpa using this
 |_::_,0,_,h=>by simp[initE]at h
theorem hL_und{E:Env}:∀n,hL E (List.replicate n .und) (List.replicate n undef)
 |0=>by simp[hL]
 |n+1=>by simp only[List.replicate_succ,hL,DV.h]; exact⟨_,_,rfl,rfl,hL_und n⟩
theorem body_ok[EqB β](hT:zas P T)(hC:CsOk P C)(hm:P.follows .mixedOrders=true){f:FuncId}{fn:Func}{c:Code}(hf:P.funcs[f]?=some fn)(hb:fn.body=some c)(hn:(fn.name== "runtime.NumGoroutine")=false)
  {args:List DV} {R:Exit→DK β} {G:Value→World→Prop} {vs:List Value} (h:initE args fn.ntmps (fun ts=>ev stdW T C O JC JL c R ts pb rw)=some q) (m:Mem V U0 L B A pb rw w) (hargs:hL (env U0 B A pb rw w) args vs)
  (hR:∀(e:Exit),¬(e=.normal∨e=.ret)→∀ts pb rw,R e ts pb rw≠some q)
  (hG:∀(e:Exit),(e=.normal∨e=.ret)→∀(B':Nat→Nat) (A':Asg) (ts':List DV) (pb':DBs) (rw':List DR) (a':Act) (w':World),Mem V U0 L B' A' pb' rw' w'→hL (env U0 B' A' pb' rw' w') ts' a'.tmps.toList→(∀i,live pb i→live pb' i∧B' i=B i)→R e ts' pb' rw'=some q→
   ∃v,(results fn a'.tmps).run P w'=.ok v w'∧G v w'):CallsX P f vs.toArray w G:=by
 refine⟨.inl ⟨⟨fn,hf,hn,by simp[hb]⟩,?_⟩⟩
 obtain⟨h,hlen⟩:=initE_s _ _ h
 have e:({ tmps:=vs.toArray++Array.replicate (fn.ntmps - vs.toArray.size) undef,defers:=[] }:Act).tmps.toList=vs++List.replicate (fn.ntmps - args.length) undef:=by
  simp[hL_len hargs]
 have hts:hL (env U0 B A pb rw w) (args++List.replicate (fn.ntmps - args.length) .und) ({ tmps:=vs.toArray++Array.replicate (fn.ntmps - vs.toArray.size) undef,defers:=[] }:Act).tmps.toList:=by
  rw[e]; exact hL_app hargs (hL_und _)
 refine calls_of_wp hf hb (wp_mono (ev_ok hT hC hm c h m hts) fun e a' w' hq=>?_)
 obtain⟨he,⟨B',A',ts',pb',rw',m',h1,h2,h3,h4⟩,_⟩:=hq
 cases e with
 |normal=>
  obtain⟨v,k1,k2⟩:=hG _ (.inl rfl) _ _ _ _ _ _ _ m' h1 h4 h2
  exact⟨h3,v,k1,v,rfl,k2⟩
 |ret=>
  obtain⟨v,k1,k2⟩:=hG _ (.inr rfl) _ _ _ _ _ _ _ m' h1 h4 h2
  exact⟨h3,v,k1,v,rfl,k2⟩
 |exit i=>exact absurd h2 (hR _ (by simp) _ _ _)
 |_=>exact he.elim
theorem evFL_ok(hT:zas P T)(hC:CsOk P C)(hm:P.follows .mixedOrders=true){f:FuncId}{fn:Func}{c:Code}(hf:P.funcs[f]?=some fn)(hb:fn.body=some c)(hn:(fn.name== "runtime.NumGoroutine")=false) {s:LS}
  (h:∀z o,s.fn z=some o→evFL stdW T C O JC JL fn s z=some o):LSok P f s:=by
 intro z o hz U0 B A vs w m hargs
 have h:=h z o hz
 unfold evFL at h
 rw[hb]at h
 have hlen:(bkM s.B (pkT s.P .unit) z []).1.length=s.B.length:=bkM_len _ _ _ _
 generalize bkM s.B (pkT s.P .unit) z []=bm at h m hargs hlen ⊢
 obtain⟨pb,y,rw0⟩:=bm
 dsimp only at h m hargs hlen ⊢
 generalize pkM s.P .unit y rw0=pm at h m hargs ⊢
 obtain⟨args,u,rw⟩:=pm
 dsimp only at h m hargs ⊢
 have hB:∀i,live pb i→i<s.B.length:=fun i hi=>by rw[←hlen]; exact live_lt hi
 letI:=s.Q.eqb
 letI:=(bkT s.E .unit).eqb
 have h:initE args fn.ntmps (fun ts=>ev stdW T C O JC JL c (retL stdW T fn.results.toList s) ts pb rw)=some o:=h
 refine body_ok hT hC hm hf hb hn h m hargs (fun e he ts pb rw hh=>?_) fun e he B' A' ts' pb' rw' a' w' m' hts hl hh=>?_
 ·cases e<;>first|exact he (.inl rfl)|exact he (.inr rfl)|(simp only[retL]at hh; cases hh)
 ·have hh:resE stdW T fn.results.toList ts' pb' rw' (fun xs=>finL s ts' pb' rw' (oneV xs))=some o:=by
   rcases he with rfl|rfl<;>exact hh
  obtain⟨xs,v,h1,h2,h3⟩:=ybz (P:=P) hT m' hts hh
  refine⟨v,h3,?_⟩
  unfold finL at h1
  generalize idsB s.E 0 pb' (s.Q.ids (oneV xs) (idA s.B.length))=am at h1
  dsimp only at h1
  obtain⟨ts2,pb2,rw2,ps,h4,m2,_,h5,e2,_⟩:=frzE_s (al:=fun _=>true) _ h1 m' hts (ps:=[oneV xs]) (us:=[v]) (by simp only[hL]; exact⟨_,_,rfl,h2,rfl⟩)
  split at h4
  ·rename_i p
   simp only[hL]at h5
   obtain⟨v',vs',e5,h5,rfl⟩:=h5
   simp only[List.cons.injEq,and_true]at e5; subst e5
   split at h4
   ·rename_i ee ms hck hX
    simp only[Bool.and_eq_true]at hck
    split at h4
    ·rename_i y2 ms' hQ
     simp only[Option.some.injEq]at h4; subst h4
     obtain⟨A3,m3,k1,k2,k3⟩:=fin_ok m2 h5 hck.1.1 hck.1.2 hX hQ
     refine⟨_,A3,_,_,_,m3,k1,fun i hi=>?_,rfl,rfl⟩
     have hi2:=hB i hi
     have hlk:=selfA_s hck.2 hi2
     refine⟨k3 i (ztv hck.1.2 hlk),?_⟩
     simp only[lB,hlk,Option.getD_some]
     exact(hl i hi).2
    ·cases h4
   ·cases h4
  ·cases h4
theorem evF_ok(hT:zas P T)(hC:CsOk P C)(hm:P.follows .mixedOrders=true){f:FuncId}{fn:Func}{c:Code}(hf:P.funcs[f]?=some fn)(hb:fn.body=some c)(hn:(fn.name== "runtime.NumGoroutine")=false) {s:ES}
  (h:∀x q,s.fn x=some q→evF stdW T C O JC JL fn s.P s.Q x=some q):ESok P f s:=by
 intro x o hx U0 B A vs w m hargs
 have h:=h x o hx
 unfold evF at h
 rw[hb]at h
 letI:=s.Q.eqb
 have h:initE (argVs s.P x) fn.ntmps (fun ts=>ev stdW T C O JC JL c (retD stdW T fn.results.toList s.Q) ts [] [])=some o:=h
 refine body_ok hT hC hm hf hb hn h m hargs (fun e he ts pb rw hh=>?_) fun e he B' A' ts' pb' rw' a' w' m' hts hl hh=>?_
 ·cases e<;>first|exact he (.inl rfl)|exact he (.inr rfl)|(simp only[retD]at hh; cases hh)
 ·have hh:resE stdW T fn.results.toList ts' pb' rw' (fun xs=>finD s.Q ts' pb' rw' (oneV xs))=some o:=by
   rcases he with rfl|rfl<;>exact hh
  obtain⟨xs,v,h1,h2,h3⟩:=ybz (P:=P) hT m' hts hh
  refine⟨v,h3,?_⟩
  unfold finD at h1
  obtain⟨ts2,pb2,rw2,ps,h4,m2,_,h5,e2,_⟩:=frzE_s (al:=fun _=>true) _ h1 m' hts (ps:=[oneV xs]) (us:=[v]) (by simp only[hL]; exact⟨_,_,rfl,h2,rfl⟩)
  split at h4
  ·rename_i p
   simp only[hL]at h5
   obtain⟨v',vs',e5,h5,rfl⟩:=h5
   simp only[List.cons.injEq,and_true]at e5; subst e5
   split at h4
   ·rename_i y2 ms' hQ
    simp only[Option.some.injEq]at h4; subst h4
    obtain⟨A3,m3,k1,k2,k3⟩:=fin_ok (El:=[]) (am:=[]) (e:=()) m2 h5 rfl rfl rfl hQ
    exact⟨_,A3,_,_,_,m3,k1,fun i hi=>(by obtain⟨b,hb⟩:=hi; simp at hb),rfl,rfl⟩
   ·cases h4
  ·cases h4
end
end Go.Vc

namespace Go.Vc
open Go Go.RowKit
def ofL:List (Nat×Bool)→OT
 |[]=>.nil
 |(i,true)::l=>.rd i (ofL l)
 |(i,false)::l=>.op i (ofL l)
def oX(n:Nat)(f:List Nat):OT:=ofL ((List.range n).map fun i=>(i,!memN i f))
def oI(n:Nat):OT:=oX n []
def oN(l:List Nat):OT:=ofL (l.map fun n=>(n / 2,Nat.beq (n % 2) 1))
abbrev DS.i:DS:=.t (.int .i64)
abbrev DS.b:DS:=.t .bool
abbrev PK.i:PK:=.v (.int .i64)
abbrev PK.b:PK:=.v .bool
abbrev QT.i:QT:=.v (.int .i64)
abbrev QT.b:QT:=.v .bool
abbrev DT.p1(a:DT):DT:=.pair a .unit
abbrev DT.p2(a b:DT):DT:=.pair a (.pair b .unit)
abbrev DT.p3(a b c:DT):DT:=.pair a (.pair b (.pair c .unit))
abbrev DT.p4(a b c d:DT):DT:=.pair a (.pair b (.pair c (.pair d .unit)))
abbrev DT.p5(a b c d e:DT):DT:=.pair a (.pair b (.pair c (.pair d (.pair e .unit))))
abbrev DT.p6(a b c d e f:DT):DT:=.pair a (.pair b (.pair c (.pair d (.pair e (.pair f .unit)))))
abbrev DT.p7(a b c d e f g:DT):DT:=.pair a (.pair b (.pair c (.pair d (.pair e (.pair f (.pair g .unit))))))
abbrev DT.p8(a b c d e f g h:DT):DT:=.pair a (.pair b (.pair c (.pair d (.pair e (.pair f (.pair g (.pair h .unit)))))))
abbrev QT.p1(a:QT):QT:=.pair a .unit
abbrev QT.p2(a b:QT):QT:=.pair a (.pair b .unit)
abbrev QT.p3(a b c:QT):QT:=.pair a (.pair b (.pair c .unit))
abbrev QT.p4(a b c d:QT):QT:=.pair a (.pair b (.pair c (.pair d .unit)))
abbrev QT.p5(a b c d e:QT):QT:=.pair a (.pair b (.pair c (.pair d (.pair e .unit))))
abbrev QT.p6(a b c d e f:QT):QT:=.pair a (.pair b (.pair c (.pair d (.pair e (.pair f .unit)))))
abbrev QT.p7(a b c d e f g:QT):QT:=.pair a (.pair b (.pair c (.pair d (.pair e (.pair f (.pair g .unit))))))
abbrev QT.p8(a b c d e f g h:QT):QT:=.pair a (.pair b (.pair c (.pair d (.pair e (.pair f (.pair g (.pair h .unit)))))))
structure KC(P:Program) where
 n:Nat
 c:Wd→EC
 ok:ECok P n (c stdW)
def kcs{P:Program}:List (KC P)→Wd→ESs
 |[],_=>[]
 |k::l,W=>(k.n,k.c W)::kcs l W
theorem kcs_ok{P:Program}:∀l:List (KC P),CsOk P (kcs l stdW)
 |[]=>trivial
 |k::l=>⟨k.ok,kcs_ok l⟩
structure KProg(P:Program)(T:List TI):Prop where
 tab:zas P T
 mixed:P.follows .mixedOrders=true
def kes{P:Program}{T:List TI}(kp:KProg P T)(n:Nat)(A:DT)(Q:QT)(F:Wd→A.den→Option Q.den)(l:List (KC P))(O:DTs)(JC JL:List (Nat×DJ)){fn:Func}{c:Code}(hf:P.funcs[n]?=some fn)(hb:fn.body=some c)(hn:(fn.name== "runtime.NumGoroutine")=false:=by decide +kernel)
  (h:∀W x,evF W T (kcs l W) O JC JL fn A Q x=F W x):KC P:=
 ⟨n,fun W=>.es ⟨A,Q,F W⟩,evF_ok kp.tab (kcs_ok l) kp.mixed hf hb hn fun x q hx=>(h stdW x).trans hx⟩
def kls{P:Program}{T:List TI}(kp:KProg P T)(n:Nat)(B:List BK)(A:List PK)(E:List BK)(Q:QT)(F:Wd→(bkT B (pkT A .unit)).den→Option (Q.den×(bkT E .unit).den))(l:List (KC P))(O:DTs)(JC JL:List (Nat×DJ)){fn:Func}{c:Code}(hf:P.funcs[n]?=some fn)(hb:fn.body=some c)(hn:(fn.name== "runtime.NumGoroutine")=false:=by decide +kernel)
  (h:∀W z,evFL W T (kcs l W) O JC JL fn ⟨B,A,E,Q,F W⟩ z=F W z):KC P:=
 ⟨n,fun W=>.ls ⟨B,A,E,Q,F W⟩,evFL_ok kp.tab (kcs_ok l) kp.mixed hf hb hn fun z o hz=>(h stdW z).trans hz⟩
end Go.Vc
namespace Go.Vc
open Go Go.RowKit
variable {β:Type} {r:β}
theorem loop_ok{X:Type}{f:X→(X→Option β)→Option β}(μ:X→Nat)(R:X→Prop)(g:X→Option β)
  (h:∀z,R z→∀again:X→Option β,(∀z',R z'→μ z'<μ z→again z'=g z')→f z again=g z):∀(n:Nat) (z:X),R z→μ z<n→loopF n f z=g z
 |0,z,_,hm=>by omega
 |n+1,z,hz,hm=>h z hz _ fun z' hz' hm'=>loop_ok μ R g h n z' hz' (by omega)
theorem zdb{X:Type}{f:X→(X→Option β)→Option β}(μ:X→Nat)(R:X→Prop)(g:X→Option β){z:X}(hz:R z)(hm:μ z<18446744073709551616)
  (h:∀z,R z→∀again:X→Option β,(∀z',R z'→μ z'<μ z→again z'=g z')→f z again=g z):stdW.loop f z=g z:=
 loop_ok μ R g h FU z hz (by rw[FU_eq]; exact hm)
theorem ybg[EqB β](a:Option β):bothF a a=a:=by
 unfold bothF
 cases a with
 |none=>rfl
 |some x=>show (bif EqB.eq x x then some x else none)=some x; rw[(EqB.iff x x).2 rfl]; rfl
theorem idx_eq{α:Type}{l:List α}{i:Nat}(h:i<l.length)(K:α→Option β):idxF l (i:Int) K=K l[i]:=by
 unfold idxF
 rw[Int.toNat_natCast,List.getElem?_eq_getElem h]
 simp
theorem nz_eq{b:Int}(h:b≠0)(K:Option β):nzF b K=K:=by unfold nzF; simp[h]
theorem nn_eq{b:Int}(h:0≤b)(K:Option β):nnF b K=K:=by unfold nnF; simp[h]
theorem zus{n b:Nat}(h:n≤281474976710656)(h2:n*b≤140737488355328)(K:Option β):roomF n b K=K:=by unfold roomF; simp[h,h2]
theorem bnd_eq{i:Int}{n:Nat}(h:0≤i)(h2:i≤n)(K:Nat→Option β):bndF i n K=K i.toNat:=by unfold bndF; simp[h,h2]
theorem join_eq{X:Type}(k:X→Option β)(f:(X→Option β)→Option β):joinF k f=f k:=rfl
theorem nilF_eq[EqB β]{e:Bool}{f:Bool→Option β}{b:Option β}(h0:f false=b)(h1:e=true→f true=b):nilF e f=b:=by
 unfold nilF
 cases e
 ·exact h0
 ·simp only[cond_true]; rw[h0,h1 rfl,ybg]
end Go.Vc

namespace Go.Vc
open Go Go.RowKit
abbrev BigT := Bool × List Int × Unit
theorem zok {α : Type} (l : List α) (i : Nat) (h : i < l.length) : l.drop i = l[i] :: l.drop (i + 1) := List.drop_eq_getElem_cons h
def bitsOf (n : Nat) : List Int := if h : n = 0 then [] else ((n % 2 : Nat) : Int) :: bitsOf (n / 2)
termination_by n
decreasing_by omega
theorem bits0 : bitsOf 0 = [] := by rw [bitsOf]; rfl
theorem bitsS {n : Nat} (h : n ≠ 0) : bitsOf n = ((n % 2 : Nat) : Int) :: bitsOf (n / 2) := by rw [bitsOf]; simp [h]
def valB : List Int → Nat
  | [] => 0
  | x :: l => x.toNat + 2 * valB l
def bitL (l : List Int) : Prop := ∀ x ∈ l, x = 0 ∨ x = 1
def Nrm (l : List Int) : Prop := bitsOf (valB l) = l
theorem zfg (n : Nat) : valB (bitsOf n) = n := by
  induction n using Nat.strongRecOn with
  | ind n ih =>
    by_cases h : n = 0
    · subst h; rw [bits0]; rfl
    · rw [bitsS h, valB, ih (n / 2) (by omega)]; omega
theorem yah (n : Nat) : Nrm (bitsOf n) := by unfold Nrm; rw [zfg]
theorem zlg (n : Nat) : bitL (bitsOf n) := by
  induction n using Nat.strongRecOn with
  | ind n ih =>
    by_cases h : n = 0
    · subst h; rw [bits0]; intro x hx; cases hx
    · rw [bitsS h]; intro x hx
      rcases List.mem_cons.1 hx with rfl | hx
      · omega
      · exact ih (n / 2) (by omega) x hx
theorem Nrm.bits {l : List Int} (h : Nrm l) : bitL l := h ▸ zlg _
theorem zqx (k : Nat) : ∀ n, n < 2 ^ k → (bitsOf n).length ≤ k := by
  induction k with
  | zero => intro n h; have : n = 0 := by simp at h; exact h
            subst this; rw [bits0]; simp
  | succ k ih => intro n h; by_cases h0 : n = 0
                 · subst h0; rw [bits0]; simp
                 · rw [bitsS h0]; have := ih (n / 2) (by rw [Nat.pow_succ] at h; omega); simp; omega
theorem zhf {xs : List Int} {i x : Nat} (h : xs.drop i = bitsOf x) (hi : i < xs.length) : xs[i] = ((x % 2 : Nat) : Int) ∧ xs.drop (i + 1) = bitsOf (x / 2) ∧ x ≠ 0 := by
  have hx : x ≠ 0 := by rintro rfl; rw [bits0] at h; have := congrArg List.length h; simp at this; omega
  rw [zok xs i hi, bitsS hx] at h
  exact ⟨(List.cons.inj h).1, (List.cons.inj h).2, hx⟩
theorem zoj {xs : List Int} {i x : Nat} (h : xs.drop i = bitsOf x) (hi : ¬ i < xs.length) : x = 0 := by
  by_cases h0 : x = 0
  · exact h0
  · rw [bitsS h0, List.drop_eq_nil_of_le (by omega)] at h; cases h
theorem zua {xs : List Int} {i x : Nat} (h : xs.drop i = bitsOf x) : xs.drop (i + 1) = bitsOf (x / 2) := by
  by_cases hi : i < xs.length
  · exact (zhf h hi).2.1
  · rw [zoj h hi, List.drop_eq_nil_of_le (by omega)]; exact bits0.symm
theorem znq : ∀ (a b : List Int), valB (a ++ b) = valB a + 2 ^ a.length * valB b
  | [], b => by simp [valB]
  | x :: a, b => by simp only [List.cons_append, valB, znq a b, List.length_cons, Nat.pow_succ, Nat.mul_add]; rw [← Nat.mul_assoc 2, Nat.mul_comm 2 (2 ^ a.length)]; omega
theorem zrf : ∀ (a : List Int), bitL a → valB a < 2 ^ a.length
  | [], _ => by simp [valB]
  | x :: a, h => by
    have h1 := zrf a fun y hy => h y (by simp [hy])
    have := h x (by simp)
    simp only [valB, List.length_cons, Nat.pow_succ]; omega
theorem nrm_of : ∀ (l : List Int), bitL l → (∀ h : l ≠ [], l.getLast h = 1) → Nrm l ∧ (l ≠ [] → valB l ≠ 0)
  | [], _, _ => ⟨bits0, fun h => absurd rfl h⟩
  | x :: l, h, hl => by
    have hx := h x (by simp)
    have ih := nrm_of l (fun y hy => h y (by simp [hy])) (fun hn => by have := hl (by simp); rwa [List.getLast_cons hn] at this)
    have hv : valB (x :: l) ≠ 0 := by
      by_cases hn : l = []
      · subst hn; have := hl (by simp); simp at this; subst this; simp [valB]
      · have := ih.2 hn; simp only [valB]; omega
    refine ⟨?_, fun _ => hv⟩
    unfold Nrm; rw [bitsS hv]
    have h2 : valB (x :: l) / 2 = valB l := by simp only [valB]; omega
    have h3 : ((valB (x :: l) % 2 : Nat) : Int) = x := by simp only [valB]; omega
    rw [h2, h3, ih.1]
theorem bits_top : ∀ (n : Nat), n ≠ 0 → 2 ^ ((bitsOf n).length - 1) ≤ n := by
  intro n
  induction n using Nat.strongRecOn with
  | ind n ih =>
    intro h; rw [bitsS h]
    by_cases h2 : n / 2 = 0
    · rw [h2, bits0]; simp; omega
    · have h3 := ih (n / 2) (by omega) h2
      have h4 : (bitsOf (n / 2)).length ≠ 0 := by rw [bitsS h2]; simp
      have h5 : (bitsOf (n / 2)).length = (bitsOf (n / 2)).length - 1 + 1 := by omega
      simp only [List.length_cons, Nat.add_sub_cancel]
      rw [h5, Nat.pow_succ]; omega
theorem nrm_len {xs ys : List Int} (hx : Nrm xs) (hy : Nrm ys) (h : xs.length < ys.length) : valB xs < valB ys := by
  have h1 := zrf xs hx.bits
  have h2 : valB ys ≠ 0 := by intro h0; unfold Nrm at hy; rw [h0, bits0] at hy; subst hy; simp at h
  have h3 := bits_top _ h2
  unfold Nrm at hy; rw [hy] at h3
  have := Nat.pow_le_pow_right (n := 2) (by omega) (show xs.length ≤ ys.length - 1 by omega)
  omega
theorem zre (xs : List Int) (i : Nat) (h : i ≤ xs.length) : valB xs = valB (xs.take i) + 2 ^ i * valB (xs.drop i) := by
  have := znq (xs.take i) (xs.drop i)
  rw [List.take_append_drop, List.length_take, Nat.min_eq_left h] at this
  exact this
theorem zgi (xs : List Int) (i : Nat) (h : i < xs.length) : valB (xs.take (i + 1)) = valB (xs.take i) + 2 ^ i * (xs[i]).toNat := by
  rw [show xs.take (i + 1) = xs.take i ++ [xs[i]] by simp, znq]
  simp [valB, Nat.min_eq_left (Nat.le_of_lt h)]
theorem zwy {xs : List Int} (h : bitL xs) (i : Nat) : bitL (xs.take i) := fun x hx => h x (List.mem_of_mem_take hx)
theorem valB_cmp {xs ys : List Int} (hx : bitL xs) (hy : bitL ys) {i : Nat} (h1 : i < xs.length) (h2 : i < ys.length) (hd : xs.drop (i + 1) = ys.drop (i + 1)) (hn : xs[i] ≠ ys[i]) : decide (valB xs < valB ys) = decide (xs[i] < ys[i]) := by
  rw [zre xs (i + 1) (by omega), zre ys (i + 1) (by omega), hd, zgi xs i h1, zgi ys i h2]
  have b1 := zrf _ (zwy hx i); have b2 := zrf _ (zwy hy i)
  rw [List.length_take, Nat.min_eq_left (by omega)] at b1 b2
  rcases hx _ (List.getElem_mem h1) with e1 | e1 <;> rcases hy _ (List.getElem_mem h2) with e2 | e2 <;> rw [e1, e2] at hn ⊢ <;> first | exact absurd rfl hn | (simp; omega)
def bitsK : Nat → Nat → List Int
  | 0, _ => []
  | k + 1, n => ((n % 2 : Nat) : Int) :: bitsK k (n / 2)
theorem bitL_K : ∀ k n, bitL (bitsK k n)
  | 0, _ => by intro x hx; cases hx
  | k + 1, n => by
    intro x hx; rcases List.mem_cons.1 hx with rfl | hx
    · omega
    · exact bitL_K k _ x hx
theorem valB_K : ∀ k n, n < 2 ^ k → valB (bitsK k n) = n
  | 0, n, h => by simp at h; subst h; rfl
  | k + 1, n, h => by rw [bitsK, valB, valB_K k (n / 2) (by rw [Nat.pow_succ] at h; omega)]; omega
theorem len_K : ∀ k n, (bitsK k n).length = k
  | 0, _ => rfl
  | k + 1, n => by rw [bitsK, List.length_cons, len_K k]
theorem u8_add (a b : Nat) (h : a + b < 256) : IntKind.u8.wrap ((a : Int) + (b : Int)) = ((a + b : Nat) : Int) := by
  have : (a : Int) + b = ((a + b : Nat) : Int) := by omega
  rw [this]; simp only [IntKind.wrap, IntKind.signed, IntKind.bits]; simp; omega
theorem u8_is (a : Nat) (h : a < 256) : IntKind.u8.wrap (a : Int) = (a : Int) := by simp only [IntKind.wrap, IntKind.signed, IntKind.bits]; simp; omega
theorem u8_half (a : Nat) (h : a < 256) : IntKind.u8.wrap ((a : Int).tdiv 2) = ((a / 2 : Nat) : Int) := by
  rw [Int.tdiv_eq_ediv_of_nonneg (by omega), show (a : Int) / 2 = ((a / 2 : Nat) : Int) by omega, u8_is _ (by omega)]
theorem ztt (a : Nat) : ((a : Int).tmod 2) = ((a % 2 : Nat) : Int) := by rw [Int.tmod_eq_emod_of_nonneg (by omega)]; omega
theorem sum_step {x y c : Nat} {A : Nat} {s : List Int} (h : bitsOf A = s ++ bitsOf (x + y + c)) (hn : x + y ≠ 0) : bitsOf A = (s ++ [((((c + x % 2 + y % 2 : Nat)) % 2 : Nat) : Int)]) ++ bitsOf (x / 2 + y / 2 + (c + x % 2 + y % 2) / 2) := by
  rw [h, bitsS (show x + y + c ≠ 0 by omega), List.append_assoc, List.singleton_append, show (x + y + c) % 2 = (c + x % 2 + y % 2) % 2 by omega, show (x + y + c) / 2 = x / 2 + y / 2 + (c + x % 2 + y % 2) / 2 by omega]
def bigS (g : Bool) (n : Nat) : BigT := (g && decide (0 < n), bitsOf n, ())
def big (z : Int) : BigT := (decide (z < 0), bitsOf z.natAbs, ())
def bv (x : BigT) : Int := if x.1 then -(valB x.2.1 : Int) else valB x.2.1
theorem bv_big (z : Int) : bv (big z) = z := by unfold bv big; simp only [zfg, decide_eq_true_eq]; split <;> omega
def Nb (x : BigT) : Prop := x = big (bv x)
theorem nb_big (z : Int) : Nb (big z) := by unfold Nb; rw [bv_big]
theorem K_step {L i x y c : Nat} {D : Nat} {s : List Int} (h : bitsK L D = s ++ bitsK (L - i) (x - y - c)) (hi : i < L) (hc : c ≤ 1) (hle : y + c ≤ x) :
    bitsK L D = (s ++ [(((x % 2 + 2 - (c + y % 2)) % 2 : Nat) : Int)]) ++ bitsK (L - (i + 1)) (x / 2 - y / 2 - (if x % 2 + 2 - (c + y % 2) < 2 then 1 else 0)) := by
  rw [h, show L - i = (L - (i + 1)) + 1 by omega, bitsK, List.append_assoc, List.singleton_append]
  have h1 : (x - y - c) % 2 = (x % 2 + 2 - (c + y % 2)) % 2 := by omega
  have h2 : (x - y - c) / 2 = x / 2 - y / 2 - (if x % 2 + 2 - (c + y % 2) < 2 then 1 else 0) := by split <;> omega
  rw [h1, h2]
theorem K_le {x y c : Nat} (hc : c ≤ 1) (hle : y + c ≤ x) : y / 2 + (if x % 2 + 2 - (c + y % 2) < 2 then 1 else 0) ≤ x / 2 := by split <;> omega
theorem u8_dif (e : Int) (x t : Nat) (he : e = ((x % 2 : Nat) : Int)) (ht : t ≤ 2) : IntKind.u8.wrap ((IntKind.u8.wrap ((e) + (2))) - ((t : Nat) : Int)) = ((x % 2 + 2 - t : Nat) : Int) := by
  subst he
  rw [show (((x % 2 : Nat) : Int)) + (2) = ((x % 2 + 2 : Nat) : Int) by omega, u8_is _ (by omega), show ((x % 2 + 2 : Nat) : Int) - ((t : Nat) : Int) = ((x % 2 + 2 - t : Nat) : Int) by omega, u8_is _ (by omega)]
theorem less_len {xs ys : List Int} (hx : Nrm xs) (hy : Nrm ys) (h : ¬ xs.length = ys.length) : decide (valB xs < valB ys) = decide ((xs.length : Int) < (ys.length : Int)) := by
  rcases Nat.lt_or_gt_of_ne h with h | h
  · have := nrm_len hx hy h; rw [decide_eq_true this, decide_eq_true (by omega)]
  · have := nrm_len hy hx h; rw [decide_eq_false (by omega), decide_eq_false (by omega)]
theorem zfn (i : Nat) (h : 0 < i) (h2 : i ≤ maxLen) : IntKind.i64.wrap (((i : Int)) - (1)) = ((i - 1 : Nat) : Int) := by
  rw [zbc] at h2; rw [IntWalk.i64_in _ (by omega)]; omega
theorem trim_nrm {xs : List Int} {i : Nat} (h : bitL xs) (hi : i ≤ xs.length) (hl : i = 0 ∨ ∃ h : i - 1 < xs.length, ¬ xs[i - 1] = 0) : Nrm (xs.take i) ∧ (i ≠ 0 → valB (xs.take i) ≠ 0) := by
  rcases hl with rfl | ⟨hl, hn⟩
  · exact ⟨by simp only [List.take_zero]; exact bits0, fun h => absurd rfl h⟩
  · have h0 := nrm_of (xs.take i) (zwy h i) fun hne => by
      rw [List.getLast_eq_getElem]
      have : (xs.take i).length - 1 = i - 1 := by rw [List.length_take]; omega
      simp only [this, List.getElem_take]
      rcases h _ (List.getElem_mem hl) with e | e
      · exact absurd e hn
      · exact e
    refine ⟨h0.1, fun hi0 => h0.2 fun he => ?_⟩
    have := congrArg List.length he; rw [List.length_take, List.length_nil] at this; omega
theorem trim_eq {g : Bool} {xs : List Int} {i : Nat} (h : bitL xs) (hi : i ≤ xs.length) (hv : valB (xs.take i) = valB xs) (hl : i = 0 ∨ ∃ h : i - 1 < xs.length, ¬ xs[i - 1] = 0) : bigS g (valB xs) = (g && decide ((0 : Int) < (i : Int)), xs.take i, ()) := by
  obtain ⟨h1, h2⟩ := trim_nrm h hi hl
  unfold bigS; rw [← hv, h1]
  congr 2
  by_cases h0 : i = 0
  · subst h0; rfl
  · have := h2 h0; rw [decide_eq_true (by omega), decide_eq_true (by omega)]
theorem bigS_t (n : Nat) : bigS true n = big (-(n : Int)) := by unfold bigS big; rw [Int.natAbs_neg]; congr 1; simp
theorem bigS_f (n : Nat) : bigS false n = big (n : Int) := by unfold bigS big; congr 1
theorem nb_nrm {x : BigT} (h : Nb x) : Nrm x.2.1 := by rw [h]; exact yah _
theorem bv_t {x : BigT} (h : x.1 = true) : bv x = -(valB x.2.1 : Int) := by simp [bv, h]
theorem bv_f {x : BigT} (h : x.1 = false) : bv x = (valB x.2.1 : Int) := by simp [bv, h]
theorem zwz (g : Bool) (n : Nat) : bigS g n = big (if g = true then -(n : Int) else n) := by cases g <;> simp [bigS_t, bigS_f]
theorem add_same {x y : BigT} (h : x.1 = y.1) : big (bv x + bv y) = bigS x.1 (valB (bitsOf (valB x.2.1 + valB y.2.1))) := by
  rw [zfg, zwz]; congr 1
  cases hx : x.1 <;> rw [hx] at h
  · rw [bv_f hx, bv_f h.symm]; simp
  · rw [bv_t hx, bv_t h.symm]; simp; omega
theorem K_val {a b : List Int} (h : Nrm a) : valB (bitsK a.length (valB a - valB b)) = valB a - valB b := valB_K _ _ (by have := zrf a h.bits; omega)
theorem add_less {x y : BigT} (hy : Nrm y.2.1) (h : ¬ x.1 = y.1) (hl : valB x.2.1 < valB y.2.1) : big (bv x + bv y) = bigS y.1 (valB (bitsK y.2.1.length (valB y.2.1 - valB x.2.1))) := by
  rw [K_val hy, zwz]; congr 1
  cases hx : x.1 <;> cases hyn : y.1 <;> rw [hx, hyn] at h
  · exact absurd rfl h
  · rw [bv_f hx, bv_t hyn]; simp; omega
  · rw [bv_t hx, bv_f hyn]; simp; omega
  · exact absurd rfl h
theorem add_more {x y : BigT} (hx0 : Nrm x.2.1) (h : ¬ x.1 = y.1) (hl : ¬ valB x.2.1 < valB y.2.1) : big (bv x + bv y) = bigS x.1 (valB (bitsK x.2.1.length (valB x.2.1 - valB y.2.1))) := by
  rw [K_val hx0, zwz]; congr 1
  cases hx : x.1 <;> cases hyn : y.1 <;> rw [hx, hyn] at h
  · exact absurd rfl h
  · rw [bv_f hx, bv_t hyn]; simp; omega
  · rw [bv_t hx, bv_f hyn]; simp; omega
  · exact absurd rfl h
theorem neg_is (x : BigT) : big (-(bv x)) = bigS (!(x.1)) (valB x.2.1) := by
  rw [zwz]; congr 1
  cases hx : x.1
  · rw [bv_f hx]; simp
  · rw [bv_t hx]; simp
theorem neg_len {x : BigT} (h : Nb x) : (big (-(bv x))).2.1.length = x.2.1.length := by
  have h1 := congrArg (fun z => z.2.1.length) h
  simp only [big] at h1 ⊢; rw [Int.natAbs_neg, ← h1]
theorem len_big (z : Int) (h : z.natAbs < 2 ^ 200) : (big z).2.1.length ≤ 200 := zqx 200 _ h
def cmpI (x y : BigT) : Int := if bv x - bv y = 0 then 0 else if bv x - bv y < 0 then -1 else 1
theorem yku (z : Int) : (big z).2.1.length = 0 ↔ z = 0 := by
  constructor
  · intro h
    have : (big z).2.1 = [] := List.length_eq_zero_iff.1 h
    have h1 := congrArg valB this; simp only [big, zfg] at h1; simp only [valB] at h1; omega
  · rintro rfl; simp [big, bits0]
theorem u64_id (z : Int) (h : 0 ≤ z ∧ z < 18446744073709551616) : IntKind.u64.wrap z = z := by simp only [IntKind.wrap, IntKind.signed, IntKind.bits]; simp; omega
theorem of_neg {z : Int} (h : z < 0) (h2 : -9223372036854775808 ≤ z) : IntKind.u64.wrap (IntKind.i64.wrap (0 - (IntKind.i64.wrap ((z) + (1))))) = -(z + 1) := by
  rw [IntWalk.i64_in (z + 1) (by omega), IntWalk.i64_in _ (by omega), u64_id _ (by omega)]; omega
theorem of_negB {z : Int} (h : z < 0) (h2 : -9223372036854775808 ≤ z) {n : Int} (hn : n = -(z + 1)) : big z = (true, bitsOf (valB (bigS false n.toNat).2.1 + valB [1]), ()) := by
  have h1 : valB (bigS false n.toNat).2.1 = n.toNat := zfg _
  have h3 : valB [1] = 1 := rfl
  rw [h1, h3]; unfold big
  rw [decide_eq_true h, show z.natAbs = n.toNat + 1 by omega]
theorem nrm1 : Nrm [1] := by unfold Nrm; show bitsOf 1 = [1]; rw [bitsS (by omega), bits0]; rfl
theorem ztx(i:Nat)(h:i<9223372036854775807):IntKind.i64.wrap ((i:Int)+1)=((i+1:Nat):Int):=by rw[IntWalk.i64_in _ (by omega)]; omega
theorem u64_half(a:Nat)(h:a<18446744073709551616):IntKind.u64.wrap ((a:Int).tdiv 2)=((a / 2:Nat):Int):=by
 rw[Int.tdiv_eq_ediv_of_nonneg (by omega),show (a:Int) / 2=((a / 2:Nat):Int) by omega]; exact u64_id _ (by omega)
noncomputable def natW(W:Wd)(u:Int):Option BigT:=
 W.loop (fun (z1:Int×List (Int)×Unit) again2=>
 W.cnd (decide (0<z1.1)) (W.nz 2 (W.room (z1.2.1.length+((IntKind.u8.wrap (Int.tmod z1.1 2))::[]).length) 1 (W.nz 2 ((again2 ((IntKind.u64.wrap (Int.tdiv z1.1 2)),((z1.2.1++((IntKind.u8.wrap (Int.tmod z1.1 2))::[])),())))))))
  (some (false,(z1.2.1,()))))
 (u,([],()))
theorem nat_is(u:Nat)(hu:u<18446744073709551616):natW stdW u=some (bigS false u):=by
 unfold natW
 have:=zdb (β:=BigT) (f:=fun (z1:Int×List (Int)×Unit) again2=>
  stdW.cnd (decide (0<z1.1)) (stdW.nz 2 (stdW.room (z1.2.1.length+((IntKind.u8.wrap (Int.tmod z1.1 2))::[]).length) 1 (stdW.nz 2 ((again2 ((IntKind.u64.wrap (Int.tdiv z1.1 2)),((z1.2.1++((IntKind.u8.wrap (Int.tmod z1.1 2))::[])),())))))))
   (some (false,(z1.2.1,())))) (z:=((u:Int),([],()))) (fun z=>z.1.toNat) (fun z=>0≤z.1∧z.1<18446744073709551616∧z.2.1.length+(bitsOf z.1.toNat).length≤64) (fun z=>some (false,z.2.1++bitsOf z.1.toNat,()))
  (by simp only[List.length_nil,Nat.zero_add,Int.toNat_natCast]; exact⟨by omega,by omega,zqx 64 _ (by omega)⟩) (by simpa using hu) ?_
 ·rw[this]; simp[bigS]
 ·rintro⟨a,s,⟨⟩⟩ ⟨h0,h1,h2⟩ again ha
  obtain⟨n,rfl⟩:=Int.eq_ofNat_of_zero_le h0
  simp only[Int.toNat_natCast]at h2 ha h1 ⊢
  by_cases hn:n=0
  ·subst hn; simp[bits0]
  ·have hd:decide ((0:Int)<(n:Int))=true:=decide_eq_true (by omega)
   rw[bitsS hn]at h2 ⊢
   simp only[List.length_cons]at h2
   rw[hd]
   simp only[cond_true]
   rw[nz_eq (by omega),zus (by simp; omega) (by simp; omega),nz_eq (by omega),u64_half n (by omega),ztt,u8_is _ (by omega)]
   rw[ha _ (by simp only[Int.toNat_natCast,List.length_append,List.length_singleton]; exact⟨by omega,by omega,by omega⟩) (by simp only[Int.toNat_natCast]; omega)]
   simp only[Int.toNat_natCast,List.append_assoc,List.singleton_append]
noncomputable def plusW(W:Wd)(a:List Int)(b:List Int):Option (List Int):=
 W.loop (fun (z1:Int×Int×List (Int)×Unit) again2=>
 W.join (fun (z3:List (Int)×Unit)=>
  W.join (fun (z4:Int×List (Int)×Unit)=>
  W.join (fun (z5:Int×List (Int)×Unit)=>W.nz 2 (W.room (z5.2.1.length+((Int.tmod z5.1 2)::[]).length) 1 (W.nz 2 ((again2 ((IntKind.u8.wrap (Int.tdiv z5.1 2)),((IntKind.i64.wrap (z1.2.1+1)),((z5.2.1++((Int.tmod z5.1 2)::[])),()))))))))
   fun k6=>
   W.cnd (decide (z1.2.1<(b.length:Int))) (W.idx b z1.2.1 fun x7=>(k6 ((IntKind.u8.wrap (z4.1+x7)),(z4.2.1,()))))
   ((k6 (z4.1,(z4.2.1,())))))
  fun k8=>
  W.cnd (decide (z1.2.1<(a.length:Int))) (W.idx a z1.2.1 fun x9=>(k8 ((IntKind.u8.wrap (z1.1+x9)),(z3.1,()))))
   ((k8 (z1.1,(z3.1,())))))
  fun k10=>
  W.cnd (decide (z1.2.1<(a.length:Int))) ((k10 (z1.2.2.1,())))
  (
  W.cnd (decide (z1.2.1<(b.length:Int))) ((k10 (z1.2.2.1,())))
   (
   W.join (fun (z11:List (Int)×Unit)=>some z11.1)
   fun k12=>
   W.cnd (decide (0<z1.1)) (W.room (z1.2.2.1.length+(z1.1::[]).length) 1 ((k12 ((z1.2.2.1++(z1.1::[])),()))))
    ((k12 (z1.2.2.1,()))))))
 (0,(0,([],())))
theorem plus_is{xs ys:List Int}(hx:Nrm xs)(hy:Nrm ys)(lx:xs.length≤1000)(ly:ys.length≤1000):plusW stdW xs ys=some (bitsOf (valB xs+valB ys)):=by
 unfold plusW
 refine(zdb (fun z=>2001 - z.2.1.toNat) (fun z=>∃(i x y c:Nat) (s:List Int),z=((c:Int),(i:Int),s,())∧xs.drop i=bitsOf x∧ys.drop i=bitsOf y∧c≤1∧bitsOf (valB xs+valB ys)=s++bitsOf (x+y+c)∧s.length=i∧i≤1000)
  (fun _=>some (bitsOf (valB xs+valB ys))) ⟨0,valB xs,valB ys,0,[],rfl,(by rw[List.drop_zero]; exact hx.symm),(by rw[List.drop_zero]; exact hy.symm),by omega,by simp,rfl,by omega⟩ (by simp) ?_)
 rintro _ ⟨i,x,y,c,s,rfl,hdx,hdy,hc,hsum,hsl,hi⟩ again ha
 simp only[join_eq]
 have go:∀(u v:Nat),(x % 2=u)→(y % 2=v)→(i<xs.length∨i<ys.length)→nzF 2 (roomF (s.length+[Int.tmod ((c+u+v:Nat):Int) 2].length) 1 (nzF 2 (again (IntKind.u8.wrap (Int.tdiv ((c+u+v:Nat):Int) 2),IntKind.i64.wrap ((i:Int)+1),s++[Int.tmod ((c+u+v:Nat):Int) 2],()))))=some (bitsOf (valB xs+valB ys)):=by
  intro u v hu hv hlt
  have hn:x+y≠0:=by
   rcases hlt with h|h
   ·have:=(zhf hdx h).2.2; omega
   ·have:=(zhf hdy h).2.2; omega
  rw[nz_eq (by omega),zus (by simp; omega) (by simp; omega),nz_eq (by omega),u8_half _ (by omega),ztt,ztx i (by omega)]
  refine ha _ ⟨i+1,x / 2,y / 2,(c+x % 2+y % 2) / 2,s++[(((c+x % 2+y % 2) % 2:Nat):Int)],?_,zua hdx,zua hdy,by omega,?_,by simp[hsl],by omega⟩ (by show 2001 - ((i+1:Nat):Int).toNat<2001 - ((i:Nat):Int).toNat; omega)
  ·subst hu; subst hv; rfl
  ·subst hu; subst hv; exact sum_step hsum hn
 by_cases h1:i<xs.length
 ·have d1:decide ((i:Int)<(xs.length:Int))=true:=decide_eq_true (by omega)
  simp only[d1,cond_true]
  rw[idx_eq h1,(zhf hdx h1).1]
  by_cases h2:i<ys.length
  ·have d2:decide ((i:Int)<(ys.length:Int))=true:=decide_eq_true (by omega)
   simp only[d2,cond_true]
   rw[idx_eq h2,(zhf hdy h2).1,u8_add c _ (by omega),u8_add _ _ (by omega)]
   exact go _ _ rfl rfl (.inl h1)
  ·have d2:decide ((i:Int)<(ys.length:Int))=false:=decide_eq_false (by omega)
   simp only[d2,cond_false]
   rw[u8_add c _ (by omega)]
   have:=go (x % 2) 0 rfl (by rw[zoj hdy h2]) (.inl h1)
   simpa using this
 ·have d1:decide ((i:Int)<(xs.length:Int))=false:=decide_eq_false (by omega)
  simp only[d1,cond_false]
  by_cases h2:i<ys.length
  ·have d2:decide ((i:Int)<(ys.length:Int))=true:=decide_eq_true (by omega)
   simp only[d2,cond_true]
   rw[idx_eq h2,(zhf hdy h2).1,u8_add c _ (by omega)]
   have:=go 0 (y % 2) (by rw[zoj hdx h1]) rfl (.inr h2)
   simpa using this
  ·have d2:decide ((i:Int)<(ys.length:Int))=false:=decide_eq_false (by omega)
   simp only[d2,cond_false]
   rw[hsum,zoj hdx h1,zoj hdy h2]
   by_cases h3:c=0
   ·subst h3; simp[bits0]
   ·have:c=1:=by omega
    subst this
    rw[zus (by simp; omega) (by simp; omega)]
    simp[bitsS,bits0]
noncomputable def lessW(W:Wd)(a:List Int)(b:List Int):Option Bool:=
 W.cnd ((a.length:Int) != (b.length:Int)) (some (decide ((a.length:Int)<(b.length:Int))))
 (
 W.loop (fun (z1:Int×Unit) again2=>
  W.cnd (decide (0<z1.1)) (W.idx a (IntKind.i64.wrap (z1.1 - 1)) fun x3=>W.idx b (IntKind.i64.wrap (z1.1 - 1)) fun x4=>
  W.cnd (x3 != x4) (W.idx a (IntKind.i64.wrap (z1.1 - 1)) fun x5=>W.idx b (IntKind.i64.wrap (z1.1 - 1)) fun x6=>some (decide (x5<x6)))
   ((again2 ((IntKind.i64.wrap (z1.1 - 1)),()))))
  (some false))
  ((a.length:Int),()))
theorem less_is{xs ys:List Int}(hx:Nrm xs)(hy:Nrm ys)(lx:xs.length≤1000)(ly:ys.length≤1000):lessW stdW xs ys=some (decide (valB xs<valB ys)):=by
 unfold lessW
 by_cases hl:xs.length=ys.length
 ·have e0:((xs.length:Int) != (ys.length:Int))=false:=by simp[hl]
  simp only[e0,cond_false]
  refine(zdb (fun z=>z.1.toNat) (fun z=>∃i:Nat,z=((i:Int),())∧i≤xs.length∧xs.drop i=ys.drop i) (fun _=>some (decide (valB xs<valB ys))) ⟨xs.length,rfl,Nat.le_refl _,by rw[List.drop_eq_nil_of_le (Nat.le_refl _),List.drop_eq_nil_of_le (by omega)]⟩ (by simp only[Int.toNat_natCast]; omega) ?_)
  rintro _ ⟨i,rfl,hi,hd⟩ again ha
  by_cases h0:i=0
  ·subst h0
   rw[List.drop_zero,List.drop_zero]at hd
   subst hd
   simp
  ·have d0:decide ((0:Int)<(i:Int))=true:=decide_eq_true (by omega)
   simp only[d0,cond_true]
   have hm:i - 1<xs.length:=by omega
   have hm':i - 1<ys.length:=by omega
   have he:i - 1+1=i:=by omega
   rw[zfn i (by omega) (by rw[zbc]; omega),idx_eq hm,idx_eq hm']
   by_cases hq:xs[i - 1]=ys[i - 1]
   ·have e1:(xs[i - 1] != ys[i - 1])=false:=by simp[hq]
    rw[e1]
    simp only[cond_false]
    refine ha _ ⟨i - 1,rfl,by omega,?_⟩ (by show ((i - 1:Nat):Int).toNat<(i:Int).toNat; omega)
    rw[zok xs _ hm,zok ys _ hm',hq,he,hd]
   ·have e1:(xs[i - 1] != ys[i - 1])=true:=by simp[hq]
    rw[e1]
    simp only[cond_true]
    rw[idx_eq hm,idx_eq hm',valB_cmp hx.bits hy.bits hm hm' (by rw[he]; exact hd) hq]
 ·have e0:((xs.length:Int) != (ys.length:Int))=true:=by simp; omega
  simp only[e0,cond_true]
  rw[less_len hx hy hl]
noncomputable def minusW(W:Wd)(a:List Int)(b:List Int):Option (List Int):=
 W.loop (fun (z1:Int×Int×List (Int)×Unit) again2=>
 W.cnd (decide (z1.2.1<(a.length:Int))) (
  W.join (fun (z3:Int×List (Int)×Unit)=>W.idx a z1.2.1 fun x4=>
  W.join (fun (z5:Int×List (Int)×Unit)=>W.nz 2 (W.room (z5.2.1.length+((Int.tmod (IntKind.u8.wrap ((IntKind.u8.wrap (x4+2)) - z3.1)) 2)::[]).length) 1 ((again2 (z5.1,((IntKind.i64.wrap (z1.2.1+1)),((z5.2.1++((Int.tmod (IntKind.u8.wrap ((IntKind.u8.wrap (x4+2)) - z3.1)) 2)::[])),())))))))
   fun k6=>
   W.cnd (decide ((IntKind.u8.wrap ((IntKind.u8.wrap (x4+2)) - z3.1))<2)) ((k6 (1,(z3.2.1,()))))
   ((k6 (0,(z3.2.1,())))))
  fun k7=>
  W.cnd (decide (z1.2.1<(b.length:Int))) (W.idx b z1.2.1 fun x8=>(k7 ((IntKind.u8.wrap (z1.1+x8)),(z1.2.2.1,()))))
   ((k7 (z1.1,(z1.2.2.1,())))))
  (some z1.2.2.1))
 (0,(0,([],())))
theorem minus_is{xs ys:List Int}(hx:Nrm xs)(hy:Nrm ys)(lx:xs.length≤1000)(hle0:valB ys≤valB xs):minusW stdW xs ys=some (bitsK xs.length (valB xs - valB ys)):=by
 unfold minusW
 refine(zdb (fun z=>2001 - z.2.1.toNat) (fun z=>∃(i x y c:Nat) (s:List Int),z=((c:Int),(i:Int),s,())∧xs.drop i=bitsOf x∧ys.drop i=bitsOf y∧c≤1∧y+c≤x∧bitsK xs.length (valB xs - valB ys)=s++bitsK (xs.length - i) (x - y - c)∧s.length=i∧i≤xs.length)
  (fun _=>some (bitsK xs.length (valB xs - valB ys))) ⟨0,valB xs,valB ys,0,[],rfl,(by rw[List.drop_zero]; exact hx.symm),(by rw[List.drop_zero]; exact hy.symm),by omega,by omega,by simp,rfl,by omega⟩ (by simp) ?_)
 rintro _ ⟨i,x,y,c,s,rfl,hdx,hdy,hc,hle,hsum,hsl,hi⟩ again ha
 simp only[join_eq]
 by_cases h1:i<xs.length
 ·have d1:decide ((i:Int)<(xs.length:Int))=true:=decide_eq_true (by omega)
  simp only[d1,cond_true]
  have go:∀(t:Nat),t=c+y % 2→(idxF xs (i:Int) fun x4=>bif decide (IntKind.u8.wrap (IntKind.u8.wrap (x4+2) - (t:Int))<2) then
    (nzF 2 (roomF (s.length+[Int.tmod (IntKind.u8.wrap (IntKind.u8.wrap (x4+2) - (t:Int))) 2].length) 1 (again (1,IntKind.i64.wrap ((i:Int)+1),s++[Int.tmod (IntKind.u8.wrap (IntKind.u8.wrap (x4+2) - (t:Int))) 2],())))) else
    (nzF 2 (roomF (s.length+[Int.tmod (IntKind.u8.wrap (IntKind.u8.wrap (x4+2) - (t:Int))) 2].length) 1 (again (0,IntKind.i64.wrap ((i:Int)+1),s++[Int.tmod (IntKind.u8.wrap (IntKind.u8.wrap (x4+2) - (t:Int))) 2],())))))=some (bitsK xs.length (valB xs - valB ys)):=by
   intro t ht
   rw[idx_eq h1,u8_dif _ x t (zhf hdx h1).1 (by omega),ztt,ztx i (by omega)]
   have st:=K_step hsum h1 hc hle
   rw[←ht]at st
   have kl:=K_le (x:=x) (y:=y) hc hle
   rw[←ht]at kl
   have fin:∀c':Nat,c'=(if x % 2+2 - t<2 then 1 else 0)→nzF 2 (roomF (s.length+[(((x % 2+2 - t) % 2:Nat):Int)].length) 1 (again ((c':Int),((i+1:Nat):Int),s++[(((x % 2+2 - t) % 2:Nat):Int)],())))=some (bitsK xs.length (valB xs - valB ys)):=by
    intro c' hc'
    rw[nz_eq (by omega),zus (by simp; omega) (by simp; omega)]
    refine ha _ ⟨i+1,x / 2,y / 2,c',s++[(((x % 2+2 - t) % 2:Nat):Int)],rfl,zua hdx,zua hdy,by rw[hc']; split<;>omega,by rw[hc']; exact kl,by rw[hc']; exact st,by simp[hsl],by omega⟩ (by show 2001 - ((i+1:Nat):Int).toNat<2001 - ((i:Nat):Int).toNat; omega)
   by_cases h2:x % 2+2 - t<2
   ·have d2:decide (((x % 2+2 - t:Nat):Int)<2)=true:=decide_eq_true (by omega)
    rw[d2]; exact fin 1 (by rw[if_pos h2])
   ·have d2:decide (((x % 2+2 - t:Nat):Int)<2)=false:=decide_eq_false (by omega)
    rw[d2]; exact fin 0 (by rw[if_neg h2])
  by_cases h2:i<ys.length
  ·have d2:decide ((i:Int)<(ys.length:Int))=true:=decide_eq_true (by omega)
   simp only[d2,cond_true]
   rw[idx_eq h2,(zhf hdy h2).1,u8_add c _ (by omega)]
   exact go _ rfl
  ·have d2:decide ((i:Int)<(ys.length:Int))=false:=decide_eq_false (by omega)
   simp only[d2,cond_false]
   exact go c (by rw[zoj hdy h2]; simp)
 ·have d1:decide ((i:Int)<(xs.length:Int))=false:=decide_eq_false (by omega)
  simp only[d1,cond_false]
  rw[hsum,show xs.length - i=0 by omega]
  simp[bitsK]
end Go.Vc
namespace Go.Vc
open Go Go.RowKit
variable {β:Type}
theorem zbo{α S:Type}{l:List α}(hl:l.length≤9223372036854775807){f:Int×S→(Int×S→Option β)→Option β}(Inv:Nat→S→Prop)(g:List α→S→Option β){s0:S}(h0:Inv 0 s0)
  (hend:∀s (again:Int×S→Option β),Inv l.length s→f ((l.length:Int),s) again=g [] s)
  (hstep:∀i (h:i<l.length) s,Inv i s→∀again:Int×S→Option β,(∀s',Inv (i+1) s'→again (((i+1:Nat):Int),s')=g (l.drop (i+1)) s')→f ((i:Int),s) again=g (l[i]::l.drop (i+1)) s):
  stdW.loop f (0,s0)=g l s0:=by
 refine(zdb (fun z=>(l.length+1) - z.1.toNat) (fun z=>∃i:Nat,z.1=(i:Int)∧i≤l.length∧Inv i z.2) (fun z=>g (l.drop z.1.toNat) z.2) ⟨0,rfl,by omega,h0⟩ (by show l.length+1 - 0<_; omega) ?_).trans ?_
 ·rintro⟨z,s⟩ ⟨i,hi,hle,hs⟩ again ha
  dsimp only at hi hs
  subst hi
  simp only[Int.toNat_natCast]
  by_cases h:i<l.length
  ·rw[zok l i h]
   refine hstep i h s hs again fun s' hs'=>?_
   have:=ha (((i+1:Nat):Int),s') ⟨i+1,rfl,by omega,hs'⟩ (by simp only[Int.toNat_natCast]; omega)
   simpa only[Int.toNat_natCast]using this
  ·obtain rfl:i=l.length:=by omega
   rw[List.drop_length]
   exact hend s again hs
 ·simp
theorem cnd_lt{i n:Nat}(h:i<n)(a b:Option β):stdW.cnd (decide ((i:Int)<(n:Int))) a b=a:=by rw[decide_eq_true (by omega)]; rfl
theorem zaj{n:Nat}(a b:Option β):stdW.cnd (decide ((n:Int)<(n:Int))) a b=b:=by rw[decide_eq_false (by omega)]; rfl
theorem cnd_b{c:Bool}(a b:Option β):stdW.cnd c a b=if c=true then a else b:=by cases c<;>rfl
theorem cnd_y{c:Bool}(h:c=true)(a b:Option β):stdW.cnd c a b=a:=by subst h; rfl
theorem cnd_n{c:Bool}(h:c=false)(a b:Option β):stdW.cnd c a b=b:=by subst h; rfl
theorem idx_w{α:Type}{l:List α}{i:Nat}(h:i<l.length)(K:α→Option β):stdW.idx l (i:Int) K=K l[i]:=idx_eq h K
theorem nth_w{α:Type}{l:List α}{i:Nat}(h:i<l.length)(K:α→Option β):stdW.nth l (Int.toNat (i:Int)) K=K l[i]:=by
 show idxR l _ K=_
 unfold idxR
 rw[Int.toNat_natCast,List.getElem?_eq_getElem h]
theorem room_w{n b:Nat}(h:n≤281474976710656)(h2:n*b≤140737488355328)(K:Option β):stdW.room n b K=K:=zus h h2 K
theorem nn_w{b:Int}(h:0≤b)(K:Option β):stdW.nn b K=K:=nn_eq h K
theorem both_w[EqB β](a:Option β):stdW.both a a=a:=ybg a
theorem two_w[EqB β](a:Option β):stdW.two a=a:=ybg a
theorem join_w{X:Type}(k:X→Option β)(f:(X→Option β)→Option β):stdW.join k f=f k:=rfl
theorem bnd_w{i:Int}{n:Nat}(h:0≤i)(h2:i≤n)(K:Nat→Option β):stdW.bnd i n K=K i.toNat:=bnd_eq h h2 K
theorem i64_s(i:Nat)(h:i<9223372036854775807):IntKind.i64.wrap ((i:Int)+1)=((i+1:Nat):Int):=ztx i h
end Go.Vc
namespace Go.Vc
variable {β:Type}
theorem loop_n{S:Type}{N:Nat}(hN:N<9223372036854775807){f:Int×S→(Int×S→Option β)→Option β}(Inv:Nat→S→Prop)(r:Option β){s0:S}(h0:Inv 0 s0)
  (hend:∀s (again:Int×S→Option β),Inv N s→f (((N:Nat):Int),s) again=r)
  (hstep:∀i,i<N→∀s,Inv i s→∀again:Int×S→Option β,(∀s',Inv (i+1) s'→again (((i+1:Nat):Int),s')=r)→f ((i:Int),s) again=r):
  stdW.loop f (0,s0)=r:=by
 refine(zdb (fun z=>(N+1) - z.1.toNat) (fun z=>∃i:Nat,z.1=(i:Int)∧i≤N∧Inv i z.2) (fun _=>r) ⟨0,rfl,by omega,h0⟩ (by show N+1 - 0<_; omega) ?_)
 rintro⟨z,s⟩ ⟨i,hi,hle,hs⟩ again ha
 dsimp only at hi hs
 subst hi
 by_cases h:i<N
 ·refine hstep i h s hs again fun s' hs'=>?_
  exact ha (((i+1:Nat):Int),s') ⟨i+1,rfl,by omega,hs'⟩ (by simp only[Int.toNat_natCast]; omega)
 ·obtain rfl:i=N:=by omega
  exact hend s again hs
def sumBy{α:Type}(f:α→Int)(l:List α):Int:=(l.map f).sum
theorem zfh{α:Type}(f:α→Int):sumBy f []=0:=rfl
theorem zba{α:Type}(f:α→Int)(x:α)(l:List α):sumBy f (x::l)=f x+sumBy f l:=by simp[sumBy]
theorem zid{α:Type}(f:α→Int)(a b:List α):sumBy f (a++b)=sumBy f a+sumBy f b:=by simp[sumBy]
theorem zxt{α:Type}(f:α→Int)(l:List α)(i:Nat)(h:i<l.length):sumBy f (l.take (i+1))=sumBy f (l.take i)+f l[i]:=by
 rw[show l.take (i+1)=l.take i++[l[i]] by simp,zid,zba,zfh]; omega
theorem znr{α:Type}{f:α→Int}{B:Int}:∀{l:List α},(∀x∈l,-B≤f x∧f x≤B) → -(B*(l.length:Int))≤sumBy f l∧sumBy f l≤B*(l.length:Int)
 |[],_=>by simp[sumBy]
 |x::l,h=>by
  have h1:=h x (by simp)
  have h2:=znr (l:=l) fun w hw=>h w (by simp[hw])
  rw[zba,List.length_cons,Int.natCast_add,Int.mul_add]
  omega
theorem ygz{α:Type}(p:α→Bool)(l:List α)(i:Nat)(h:i<l.length):(l.take (i+1)).filter p=(l.take i).filter p++(if p l[i]=true then [l[i]] else []):=by
 rw[show l.take (i+1)=l.take i++[l[i]] by simp,List.filter_append]
 congr 1
 by_cases hp:p l[i]=true<;>simp[hp]
end Go.Vc

namespace Go.Vc
open Go Go.RowKit
noncomputable def trimW(W:Wd)(neg:Bool)(b:List Int):Option BigT:=
 W.join (fun (z1:Int×Unit)=>
 W.cnd neg (W.bnd z1.1 b.length fun h2=>some ((decide (0<z1.1)),((b.take h2),())))
  (W.bnd z1.1 b.length fun h3=>some (false,((b.take h3),()))))
 fun k4=>
 W.loop (fun (z5:Int×Unit) again6=>
  W.cnd (decide (0<z5.1)) (W.idx b (IntKind.i64.wrap (z5.1 - 1)) fun x7=>
  W.cnd (x7==0) ((again6 ((IntKind.i64.wrap (z5.1 - 1)),())))
   ((k4 z5)))
  ((k4 z5)))
  ((b.length:Int),())
theorem trim_is{g:Bool}{xs:List Int}(h:bitL xs)(lx:xs.length≤1000):trimW stdW g xs=some (bigS g (valB xs)):=by
 unfold trimW
 rw[join_w]
 refine(zdb (fun z=>z.1.toNat) (fun z=>∃i:Nat,z=((i:Int),())∧i≤xs.length∧valB (xs.take i)=valB xs) (fun _=>some (bigS g (valB xs))) ⟨xs.length,rfl,Nat.le_refl _,by rw[List.take_length]⟩ (by simp only[Int.toNat_natCast]; omega) ?_)
 rintro _ ⟨i,rfl,hi,hv⟩ again ha
 have out:(i=0∨∃h:i - 1<xs.length,¬xs[i - 1]=0)→(fun (z1:Int×Unit)=>stdW.cnd g (stdW.bnd z1.1 xs.length fun h2=>some ((decide (0<z1.1)),((xs.take h2),()))) (stdW.bnd z1.1 xs.length fun h3=>some (false,((xs.take h3),())))) ((i:Int),())=some (bigS g (valB xs)):=by
  intro hl
  show stdW.cnd g (stdW.bnd (i:Int) xs.length fun h2=>some (decide ((0:Int)<(i:Int)),(xs.take h2,()))) (stdW.bnd (i:Int) xs.length fun h3=>some (false,(xs.take h3,())))=_
  rw[bnd_w (by omega) (by omega),bnd_w (by omega) (by omega),Int.toNat_natCast,trim_eq h hi hv hl]
  cases g
  ·rw[cnd_n rfl]; rfl
  ·rw[cnd_y rfl]; rfl
 generalize (fun (z1:Int×Unit)=>stdW.cnd g (stdW.bnd z1.1 xs.length fun h2=>some ((decide (0<z1.1)),((xs.take h2),()))) (stdW.bnd z1.1 xs.length fun h3=>some (false,((xs.take h3),()))))=k at out ⊢
 show stdW.cnd (decide (0<(i:Int))) (stdW.idx xs (IntKind.i64.wrap ((i:Int) - 1)) fun x7=>stdW.cnd (x7==0) (again (IntKind.i64.wrap ((i:Int) - 1),())) (k ((i:Int),()))) (k ((i:Int),()))=_
 by_cases h0:i=0
 ·rw[cnd_n (decide_eq_false (by omega))]
  exact out (.inl h0)
 ·have hm:i - 1<xs.length:=by omega
  rw[cnd_y (decide_eq_true (by omega)),zfn i (by omega) (by rw[zbc]; omega),idx_w hm]
  by_cases hq:xs[i - 1]=0
  ·rw[cnd_y (by simp[hq])]
   refine ha _ ⟨i - 1,rfl,by omega,?_⟩ (by show ((i - 1:Nat):Int).toNat<(i:Int).toNat; omega)
   have:=zgi xs (i - 1) hm
   rw[show i - 1+1=i by omega,hv,hq]at this
   simpa using this.symm
  ·rw[cnd_n (by simp[hq])]
   exact out (.inr ⟨hm,hq⟩)
end Go.Vc
namespace Go.Proofs.YtllkmncnmlmefaaGreat
open Go Go.Vc Go.RowKit
@[reducible] def tU0:DT:=(.pair (.int .i64) (.pair (.int .i64) .unit))
@[reducible] def tF0:DT:=(.pair tU0 (.pair (.int .i64) .unit))
abbrev U0':=Int×Int×Unit
abbrev F0':=U0'×Int×Unit
def insU(x:U0'):List U0'→List U0'
 |[]=>[x]
 |y::l=>bif decide (x.1<y.1)||(x.1==y.1&&decide (x.2.1<y.2.1)) then x::y::l else bif x.1==y.1&&x.2.1==y.2.1 then y::l else y::insU x l
def zbr(l:List F0'):List U0':=l.foldl (fun s x=>insU x.1 s) []
def delO{α:Type}(l:List α)(i j:Int):Option (List α×Unit):=bif decide (0≤i)&&decide (i<j)&&decide (j≤l.length) then some (l.take i.toNat++l.drop j.toNat,()) else none
def insO{α:Type}(bytes:Nat)(l:List α)(i:Int)(v:List α):Option (List α×Unit):=
 bif decide (0≤i)&&decide (i≤l.length)&&Nat.ble ((l.length+1)*bytes) 140737488355328 then (match v with|[x]=>some (l.take i.toNat++x::l.drop i.toNat,())|_=>none) else none
def add64(x y c:Int):Option (Int×Int×Unit):=if 0≤x∧0≤y∧0≤c∧c≤1 then some ((x+y+c) % 18446744073709551616,(x+y+c) / 18446744073709551616,()) else none
def sub64(x y b:Int):Option (Int×Int×Unit):=if 0≤x∧0≤y∧y<18446744073709551616∧0≤b∧b≤1 then some ((x - y - b) % 18446744073709551616,if x<y+b then 1 else 0,()) else none
abbrev KU2:=Int×Int×Unit
def leK(x y:KU2):Bool:=decide (x.1<y.1)||(x.1==y.1&&decide (x.2.1≤y.2.1))
def insK(x:KU2):List KU2→List KU2
 |[]=>[x]
 |y::l=>bif leK x y then x::y::l else y::insK x l
def srtK:List KU2→List KU2
 |[]=>[]
 |x::l=>insK x (srtK l)
def zlh(l:List KU2):Option (List KU2):=bif Nat.blt l.length 4611686018427387904 then some (srtK l) else none
def growO(l:List F0')(n:Int):Option (List F0'×Unit):=bif decide (0≤n)&&decide ((l.length+n)*24≤140737488355328) then some (l,()) else none
theorem zvt(x:KU2):∀l,(insK x l).Perm (x::l)
 |[]=>.refl _
 |y::l=>by
  unfold insK
  cases leK x y with
  |true=>exact .refl _
  |false=>exact((zvt x l).cons y).trans (.swap x y l)
theorem zml:∀l,(srtK l).Perm l
 |[]=>.refl _
 |x::l=>(zvt x _).trans ((zml l).cons x)
theorem leK_tr{x y z:KU2}(h1:leK x y=true)(h2:leK y z=true):leK x z=true:=by
 simp only[leK,Bool.or_eq_true,Bool.and_eq_true,decide_eq_true_eq,beq_iff_eq]at *; omega
theorem leK_tot{x y:KU2}(h:leK x y=false):leK y x=true:=by
 simp only[leK,Bool.or_eq_false_iff,Bool.and_eq_false_imp,decide_eq_false_iff_not,beq_iff_eq,Bool.or_eq_true,Bool.and_eq_true,decide_eq_true_eq]at *; omega
theorem ykk(x:KU2):∀{l:List KU2},l.Pairwise (fun a b=>leK a b=true)→(insK x l).Pairwise fun a b=>leK a b=true
 |[],_=>by simp[insK]
 |y::l,h=>by
  obtain⟨h1,h2⟩:=List.pairwise_cons.1 h
  unfold insK
  cases hxy:leK x y with
  |true=>exact List.pairwise_cons.2 ⟨fun z hz=>(List.mem_cons.1 hz).elim (fun e=>e▸hxy) fun hz=>leK_tr hxy (h1 z hz),h⟩
  |false=>exact List.pairwise_cons.2 ⟨fun z hz=>(List.mem_cons.1 ((zvt x l).mem_iff.1 hz)).elim (fun e=>e▸leK_tot hxy) (h1 z),ykk x h2⟩
theorem zza:∀l,(srtK l).Pairwise fun a b=>leK a b=true
 |[]=>.nil
 |x::l=>ykk x (zza l)
namespace Lot
@[reducible] def tL0:DT:=(.pair (.int .i64) (.pair (.int .i64) (.pair (.int .i64) .unit)))
def zmy(l:List tL0.den)(i j:Int):Option (List tL0.den×Unit):=delO l i j
def zmx(l:List tL0.den)(i:Int)(v:List tL0.den):Option (List tL0.den×Unit):=insO 24 l i v
end Lot
theorem delO_s{α:Type}{l:List α}{i j:Int}{o:List α×Unit}(h:delO l i j=some o):∃a b:Nat,i=a∧j=b∧a<b∧b≤l.length∧o=(l.take a++l.drop b,()):=by
 unfold delO at h
 rcases bif_s h with ⟨hc,h⟩|⟨_,h⟩
 ·simp only[Bool.and_eq_true,decide_eq_true_eq]at hc
  obtain⟨⟨h0,h1⟩,h2⟩:=hc
  obtain⟨a,rfl⟩:=Int.eq_ofNat_of_zero_le h0
  obtain⟨b,rfl⟩:=Int.eq_ofNat_of_zero_le (by omega:0≤j)
  have h:=Option.some.inj h
  exact⟨a,b,rfl,rfl,by omega,by omega,by rw[←h]; rfl⟩
 ·cases h
end Go.Proofs.YtllkmncnmlmefaaGreat

namespace Go.Proofs.YtllkmncnmlmefaaGreat
open Go Go.Vc Go.RowKit
abbrev KQ3:=Int×Int×Int×Unit
@[reducible] def tQ0:DT:=.pair (.int .i64) (.pair (.int .i64) (.pair (.int .i64) .unit))
def leQ(x y:KQ3):Bool:=decide (y.2.2.1<x.2.2.1)||(x.2.2.1==y.2.2.1&&decide (x.1≤y.1))
def insQ(x:KQ3):List KQ3→List KQ3
 |[]=>[x]
 |y::l=>bif leQ x y then x::y::l else y::insQ x l
def srtQ:List KQ3→List KQ3
 |[]=>[]
 |x::l=>insQ x (srtQ l)
def incQ:List KQ3→Bool
 |[]=>true
 |x::l=>l.all (fun y=>decide (x.1<y.1))&&incQ l
def zgy(l:List KQ3):Option (List KQ3):=bif Nat.blt l.length 4611686018427387904&&incQ l then some (srtQ l) else none
theorem zvs(x:KQ3):∀l,(insQ x l).Perm (x::l)
 |[]=>.refl _
 |y::l=>by
  unfold insQ
  cases leQ x y with
  |true=>exact .refl _
  |false=>exact((zvs x l).cons y).trans (.swap x y l)
theorem zdt:∀l,(srtQ l).Perm l
 |[]=>.refl _
 |x::l=>(zvs x _).trans ((zdt l).cons x)
theorem zpj(x y:KQ3):leQ x y=true↔y.2.2.1<x.2.2.1∨(x.2.2.1=y.2.2.1∧x.1≤y.1):=by
 simp only[leQ,Bool.or_eq_true,Bool.and_eq_true,decide_eq_true_eq,beq_iff_eq]
theorem leQ_tr{x y z:KQ3}(h1:leQ x y=true)(h2:leQ y z=true):leQ x z=true:=by
 rw[zpj]at *; omega
theorem leQ_tot{x y:KQ3}(h:leQ x y=false):leQ y x=true:=by
 rw[zpj]; rw[←Bool.not_eq_true,zpj]at h; omega
theorem ykj(x:KQ3):∀{l:List KQ3},l.Pairwise (fun a b=>leQ a b=true)→(insQ x l).Pairwise fun a b=>leQ a b=true
 |[],_=>by simp[insQ]
 |y::l,h=>by
  obtain⟨h1,h2⟩:=List.pairwise_cons.1 h
  unfold insQ
  cases hxy:leQ x y with
  |true=>exact List.pairwise_cons.2 ⟨fun z hz=>(List.mem_cons.1 hz).elim (fun e=>e▸hxy) fun hz=>leQ_tr hxy (h1 z hz),h⟩
  |false=>exact List.pairwise_cons.2 ⟨fun z hz=>(List.mem_cons.1 ((zvs x l).mem_iff.1 hz)).elim (fun e=>e▸leQ_tot hxy) (h1 z),ykj x h2⟩
theorem ztm:∀l,(srtQ l).Pairwise fun a b=>leQ a b=true
 |[]=>.nil
 |x::l=>ykj x (ztm l)
theorem yaq:∀l,incQ l=true↔l.Pairwise fun a b:KQ3=>a.1<b.1
 |[]=>by simp[incQ]
 |x::l=>by rw[incQ,Bool.and_eq_true,List.all_eq_true,List.pairwise_cons,yaq l]; simp
theorem incQ_eq:∀{l:List KQ3},l.Pairwise (fun a b:KQ3=>a.1<b.1)→∀a∈l,∀b∈l,a.1=b.1→a=b
 |[],_,a,ha,_,_,_=>by cases ha
 |x::l,h,a,ha,b,hb,e=>by
  obtain⟨h1,h2⟩:=List.pairwise_cons.1 h
  rcases List.mem_cons.1 ha with e1|ha1
  ·rcases List.mem_cons.1 hb with e2|hb1
   ·rw[e1,e2]
   ·have:=h1 b hb1; rw[e1]at e; omega
  ·rcases List.mem_cons.1 hb with e2|hb1
   ·have:=h1 a ha1; rw[e2]at e; omega
   ·exact incQ_eq h2 a ha1 b hb1 e
theorem zvb{l l':List KQ3}(h:zgy l=some l'):l.length<4611686018427387904∧incQ l=true∧l'=srtQ l:=by
 unfold zgy at h
 cases hb:Nat.blt l.length 4611686018427387904&&incQ l with
 |false=>rw[hb]at h; cases h
 |true=>
  rw[hb]at h
  obtain⟨h1,h2⟩:=(Bool.and_eq_true _ _).mp hb
  exact⟨Nat.le_of_ble_eq_true h1,h2,(Option.some.inj h).symm⟩
theorem srtQ_eq{l l':List KQ3}(hi:l.Pairwise fun a b:KQ3=>a.1<b.1)(hp:l'.Perm l)(hs:l'.Pairwise fun a b=>leQ a b=true):l'=srtQ l:=
 List.Perm.eq_of_pairwise (le:=fun a b=>leQ a b=true) (fun a b ha hb h1 h2=>by
  rw[zpj]at h1 h2
  exact incQ_eq hi a (hp.mem_iff.1 ha) b ((zdt l).mem_iff.1 hb) (by omega)) hs (ztm l) (hp.trans (zdt l).symm)
end Go.Proofs.YtllkmncnmlmefaaGreat