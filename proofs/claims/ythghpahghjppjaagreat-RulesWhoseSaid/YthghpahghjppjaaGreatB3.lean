import Derived.Test.YthghpahghjppjaaGreatB2
namespace Go.Vc
open Go Go.RowKit
theorem acE:∀{l l':List BK},anB l l'=true->l.length<=l'.length
 |[],_,_=>bE _
 |_::_,[],h=>by simp[anB]at h
 |_::l,_::l',h=>by simp only[anB,aB]at h;have:=acE h.2;simp;exact this
theorem ZM:∀(l:List BK) (r:DT) (z:(Ge l r).den) (rw:List DR) (k:Nat),k<l.length->live (zP l r z rw).1 k
 |[],_,_,_,k,h=>by simp at h
 |Bk::l,r,z,rw,k,h=>by
  cases k with
  |zero=>exact⟨_,rfl⟩
  |succ k=>exact ZM l r _ _ k (by simpa using h)
section
variable {P : Program} {T : List TI} {V : World} {U0 L : Nat -> Prop} {al : Nat -> Bool} {B : Nat -> Nat} {A : zx} {ts : List DV} {pb : ij} {rw : List DR} {a : Act} {w : World} {β : Type} {q : β} {o : Oper} {K : DK β} {Q : Exit -> Act -> World -> Prop} {C : GK} {av : List (Nat × Nat)}
theorem acF{g}{s}{am}{vw}{xs:List DV}{vs:List Value}(fr:Bool)(hs:J7 P g s)(h:ahQ aj s al am vw xs ts pb rw (λr ts pb rw=>jw o.dst r ts pb rw K)=some q)(m:Mem V U0 L B A pb rw w)(cH:hL (env U0 B A pb rw w) ts a.tmps.toList)
 (hxs:∀(bor:Nat->Prop),(fr=true->∀j,¬bor j)->(fr=false->∀j∈vw,bor j)->hL ⟨λb=>Us U0 B A pb rw b/\¬ ∃j,bor j/\iK B A [] rw true j b,w,B,A,pb,rw⟩ xs vs) (BB:fr=false->s.Q.free=true/\Tz s.E=true)
 (hrun:(execOp a.eval o).run P w=(callFunc g vs.toArray).run P w):o.wp P a w (o6 V U0 L al B A pb rw w a K q) Q:=by
 unfold ahQ at h;split at h
 .rename_i z ms hck hX;simp only[aB]at hck;obtain⟨⟨⟨hnd,hall⟩,hty⟩,hkl⟩:=hck;split at h
  .rename_i a0D;simp only[mN,vJ]at h;obtain⟨y,hy,h⟩:=af6 h
   let bor:Nat->Prop:=λj=>fr=false/\∀n:Nat,ms.rs[n]?≠some (some j)
   have hb1:fr=true->∀j,¬bor j:=λhf j ⟨h,_⟩=>by rw[hf]at h;cases h
   have hb2:fr=false->∀j∈vw,bor j:=λhf j hj=>⟨hf,λn hn=>ao3 a0D j hj (IK.2 ⟨n,hn⟩)⟩
   have hxs:=hxs bor hb1 hb2
   let E:Env:=⟨λb=>Us U0 B A pb rw b/\¬ ∃j,bor j/\iK B A [] rw true j b,w,B,A,pb,rw⟩
   have hlE:lD (Us U0 B A pb rw) E.U w w:=⟨λ_ _ _=>rfl,au _,λb _ hu=>hu.1⟩;have hsE:Sub Ix (env U0 B A pb rw w) E:=⟨hlE,λi h=>⟨h,rfl⟩,λj e t l _ h=>⟨l,h,rfl,rfl⟩,λj d _ h=>⟨⟨d,h,rfl⟩,rfl⟩,λj p e t l h=>(by cases h),λj p d ad h=>(by cases h)⟩;obtain⟨z0,m1,ju,g1,g2,g3,⟨a1,g4⟩,⟨b1,g5⟩,g6,g7,g8⟩:=aoy (am:=am) (E:=E) s.B 0 (Jt s.P .unit) ⟨[],rw⟩ _ [] z ms hX (MI.nil E);obtain⟨u0,m2,uX,k1,k2,k3,⟨a2,k4⟩,⟨b2,k5⟩,k6⟩:=T1 (am:=am) (E:=E) s.P .unit xs m1 _ ju z0 ms g1 g3;simp only[ak,bV]at k1;obtain⟨_,rfl⟩:=k1;have e1:zP s.B (Jt s.P .unit) z []=((zP s.B (Jt s.P .unit) z []).1,z0,ju):=by rw[<-g2]
   have e2:Hl s.P .unit z0 ju=((Hl s.P .unit z0 ju).1,u0,uX):=by rw[<-k2]
   generalize a0E:(zP s.B (Jt s.P .unit) z []).1=pb0 at e1 g6 g7 g8;generalize a0F:(Hl s.P .unit z0 ju).1=a1l at e2 k6;have awj:=hs z y hy;rw[e1]at awj;simp only[e2]at awj;have hr:=k3.row;have Ez:∀k,k<s.B.length->∃i,Gi am k=some i/\live pb i:=λk hk=>by obtain⟨b0,hb0⟩:=g8 k hk;obtain⟨i,b,h1,h2,_⟩:=g7 k b0 hb0;exact⟨i,by simpa using h1,b,h2⟩
   have ayI:∀k,live pb0 k->k<s.B.length:=λk ⟨b,hb⟩=>by rw[<-g6];exact(ay.1 hb).1
   let σ0:Nat->Option Nat:=λk=>match Nat.blt k s.B.length with|true=>Gi am k|false=>none
   have σ0s:∀k i,σ0 k=some i->k<s.B.length/\Gi am k=some i:=λk i h=>by
    simp only[σ0]at h;split at h
    .rename_i hb;exact⟨bQ hb,h⟩
    .cases h
   have σ0e:∀k,k<s.B.length->σ0 k=Gi am k:=λk hk=>by simp only[σ0];rw[show Nat.blt k s.B.length=true from gS hk]
   have tri:TrI am m2.rs E (env (lU (Us U0 B A pb rw) B A rw (Ow (lB B σ0) (lA A m2.rs) pb0 uX) bor) (lB B σ0) (lA A m2.rs) pb0 uX w):=by
    refine⟨⟨λ_ _ _=>rfl,au _,λb _ hu=>?_⟩,λk i hk hl=>?_,λn j e t l hn hj=>?_,λn hn=>?_⟩
    .rcases hu with hu|⟨k,i,hu⟩
     .exact⟨hu.1,hu.2.2⟩
     .cases k with
      |true=>
       obtain⟨r,ad,h1,h2,h3,h4⟩:=hu;rcases hr i r h1 with⟨j,e,t,l,c1,c2,c3⟩|⟨c1,_⟩
       .have u9:iK B A pb rw true j b:=⟨r,ad,c2,h2,by simpa only[lA,c1]using h3,h4⟩;refine⟨.inr ⟨_,_,u9⟩,?_⟩;rintro⟨j',hj',hb'⟩;have:=(m.inj _ _ _ _ _ u9 (show iK B A pb rw true j' b from hb')).2;subst this;exact hj'.2 i c1
       .simp only[lA,c1]at h3;cases h3
      |false=>obtain⟨⟨b0,h1⟩,h2⟩:=hu;have hk:=ayI i ⟨b0,h1⟩;obtain⟨i',b',c1,c2,_⟩:=g7 i b0 h1;rw[cg]at c1;have u9:iK B A pb rw false i' b:=⟨⟨b',c2⟩,by simpa only[lB,σ0e i hk,c1,gM]using h2⟩;refine⟨.inr ⟨_,_,u9⟩,?_⟩;rintro⟨j',hj',hb'⟩;have:=(m.inj _ _ _ _ _ u9 (show iK B A pb rw true j' b from hb')).1;cases this
    .have hkB:=MX hkl hk;obtain⟨b0,hb0⟩:=g8 k hkB;refine⟨⟨b0,hb0⟩,?_⟩;show lB B σ0 k=B i;simp only[lB,σ0e k hkB,hk,gM]
    .obtain⟨n',GO⟩:∃r,uX[n]?=some r:=⟨_,aw (by rw[<-k3.len];exact(ay.1 hn).1)⟩;rcases hr n n' GO with⟨j',e',t',l',c1,c2,c3⟩|⟨c1,_⟩
     .rw[hn]at c1;simp only[ak]at c1;subst c1;have hj:=hj;rw[hj]at c2;simp only[ak]at c2;refine⟨by rw[c2];exact GO,?_⟩;show lA A m2.rs n=A j;simp only[lA,hn]
     .rw[hn]at c1;cases c1
    .obtain⟨n',GO⟩:∃r,uX[n]?=some r:=⟨_,aw (by rw[<-k3.len];exact(ay.1 hn).1)⟩;rcases hr n n' GO with⟨j',e',t',l',c1,c2,c3⟩|⟨_,e,t,c1⟩
     .rw[hn]at c1;cases c1
     .refine⟨⟨e,t,by rw[<-c1];exact GO⟩,?_⟩;show lA A m2.rs n=(none,0);simp only[lA,hn]
   have hbw:∀(k:Nat) (b0:DB),pb0[k]?=some (some b0)->∃i b,σ0 k=some i/\pb[i]?=some (some b)/\b0.ty=b.ty/\b0.w=true:=λk b0 h=>by obtain⟨i,b,h1,h2,h3,h4,_⟩:=g7 k b0 h;rw[cg]at h1;exact⟨i,b,by rw[σ0e k (ayI k ⟨b0,h⟩)];exact h1,h2,h3,h4⟩
   obtain⟨m0,hU,RB,a0G⟩:=m.awf (σ:=σ0) (rs:=m2.rs) (bor:=bor) (pb0:=pb0) (rw0:=uX) hbw
    (λk b0 i b h1 h2 h3 us hu=>by obtain⟨i',b',c1,c2,_,_,c5⟩:=g7 k b0 h1;rw[cg]at c1;rw[(σ0s k i h2).2]at c1;simp only[ak]at c1;subst c1;have c2:=c2;rw[h3]at c2;simp only[ak]at c2;subst c2;exact c5 _ ⟨a2,k4⟩ tri us (nS hsE hu))
    (λk k' i h h'=>RW hnd (σ0s k i h).2 (σ0s k' i h').2) (λn r h=>hr n r h) k3.inj
   refine ZK hrun (awj _ _ _ vs w m0 (k6 _ vs ⟨[],by simp⟩ tri hxs)) ?_;rintro v w' ⟨B1,A1,r,iy,a1s,m1',hrv,hlv,ak1,hmk⟩;have hm:=hty;have hEl:=acE hty
   let σ:=anC am s.B.length (oY (P4 (Gj m2.rs)) pb).length
   have awk:∀k i,k<s.B.length->Gi am k=some i->i<pb.length:=λk i hk hi=>by obtain⟨i',h1,b,hb⟩:=Ez k hk;rw[hi]at h1;simp only[ak]at h1;subst h1;exact(ay.1 hb).1
   have σlo:∀k,k<s.B.length->σ k=Gi am k:=λk hk=>by simp only[σ,anC];rw[show Nat.blt k s.B.length=true from gS hk]
   have σhi:∀k,s.B.length<=k->σ k=some (pb.length+(k-s.B.length)):=λk hk=>by
    simp only[σ,anC]
    rw[show Nat.blt k s.B.length=false from by
     cases hb:Nat.blt k s.B.length with
     |false=>rfl
     |true=>have:=bQ hb;omega]
    simp only[AI]
   have hσ:∀(k k' i:Nat),σ k=some i->σ k'=some i->k=k':=λk k' i h h'=>by
    rcases dS k s.B.length with hk|hk
    .rw[σlo k hk]at h;have h3:=awk k i hk h;rcases dS k' s.B.length with uY|uY
     .rw[σlo k' uY]at h';exact RW hnd h h'
     .rw[σhi k' uY]at h';simp only[ak]at h';omega
    .rw[σhi k hk]at h;simp only[ak]at h;rcases dS k' s.B.length with uY|uY
     .rw[σlo k' uY]at h';have:=awk k' i uY h';omega
     .rw[σhi k' uY]at h';simp only[ak]at h';omega
   have ro0:RO m2.rw [] m2.rs m2.rw []:=⟨rfl,λn j r h=>(by simp at h),λn n' j h=>(by simp at h),λa j h=>⟨k3.gone a j h,k3.gone a j h,λn h=>(by simp at h)⟩,λa b j h h'=>k3.inj a b j h h',λ_ _=>rfl,λn j h=>(by simp at h),λn r h=>(by simp at h)⟩;obtain⟨ρ1,pbF,a0H,js1,f1,f2,f3,f4,f5,f6,f7,f8⟩:=ao0 (σ:=σ) (base:=m2.rw) hσ s.E 0 .unit y.2 m2.rs _ m2.rw _ [] [] h ro0 (λk i hk hi=>by rw[AI];exact awk k i hk (by rw[<-σlo k hk];exact hi)) (λk hk _=>by rw[σhi k hk,AI,Nat.zero_max]);obtain⟨d,ρ2,rwF,js,q1,q2,q3,q4⟩:=QT.o_s s.Q y.1 ρ1 a0H _ _ js1 f1 f2;rw[<-hmk]at q2 q4;have ayJ:fr=false->(∀(k:Nat) b,(zP s.E .unit y.2 []).1[k]?=some (some b)->ED false b.cells=true)/\s9 (zP s.E .unit y.2 []).2.2:=λhf=>aij s.E .unit y.2 [] (BB hf).2 (λn e t l h=>(by simp at h))
   have ayK:fr=false->(s.Q.mk y.1 (zP s.E .unit y.2 []).2.2).1.T0 false=true/\s9 (s.Q.mk y.1 (zP s.E .unit y.2 []).2.2).2:=λhf=>QT.KO s.Q y.1 _ (BB hf).1 (ayJ hf).2
   have pbl:∀i,live (oY (P4 (Gj m2.rs)) pb) i↔live pb i:=λi=>oR
   have ltl:∀{pb:ij} {i:Nat},live pb i->i<pb.length:=λ⟨b,hb⟩=>(ay.1 hb).1
   obtain⟨M,S,X,tr⟩:=Mem.back (al:=al) (σ:=σ) (pbF:=pbF) (base:=m2.rw) (P4 (Gj m2.rs)) fr m RB a0G (λk i h=>ao2 hall (σ0s k i h).2) m1' hlv hσ (λk i _ h=>by rw[σlo k (σ0s k i h).1];exact(σ0s k i h).2)
    (λk i h=>g8 k (σ0s k i h).1)
    (λk i hl hk=>by
     rcases dS k s.B.length with uY|uY
     .exact .inl (by rw[σ0e k uY,<-σlo k uY];exact hk)
     .refine .inr λTi=>?_
      rw[σhi k uY]at hk;simp only[ak]at hk;have:=ltl Ti;omega)
    (λi b' hi=>by
     have ayL:(∃k b1,σ k=some i/\iy[k]?=some (some b1))\/¬ ∃k b1,σ k=some i/\iy[k]?=some (some b1):=F4 _;rcases ayL with⟨k,b1,c1,c2⟩|NX
     .rw[ak1]at c2;have:=f5 k b1 i c2 (by rw[cg];exact c1) js q3;rw[hi]at this;simp only[ak]at this;subst this;exact .inl ⟨k,b1,c1,by rw[ak1];exact c2,rfl,rfl,rfl⟩
     .have awl:∀k,σ k=some i->¬live iy k:=λk hk ⟨b1,hb1⟩=>NX ⟨k,b1,hk,hb1⟩
      have ayM:∀k,k<s.B.length->σ k≠some i:=λk hk hki=>by refine awl k hki ?_;rw[ak1];exact ZM s.E .unit y.2 [] k (by omega)
      refine .inr ⟨awl,λk hk=>ayM k (σ0s k i hk).1 (by rw[σlo k (σ0s k i hk).1];exact(σ0s k i hk).2),?_⟩;have PS:=(ay.1 hi).1;rcases f6 i PS with h'|⟨k,c1,c2,c3⟩
      .rw[f4 i h' λk _ hk=>ayM k hk]at hi;exact uy.1 hi
      .rw[cg]at c3;exact absurd (by rw[ak1];exact ZM s.E .unit y.2 [] k c1) (awl k c3))
    (λi hl=>f7 i (by rw[AI];exact ltl hl) ((pbl i).2 hl))
    (λk i hk hl=>by obtain⟨b1,hb1⟩:=hl;rw[ak1]at hb1;exact⟨_,f5 k b1 i hb1 (by rw[cg];exact hk) js q3⟩)
    q2 (λj hn=>k3.left j hn) (λn j hn=>k3.gone n j hn)
    (λj hj n hn=>(ain.1.1 hj) (IK.2 ⟨n,hn⟩)) (λj p hp=>ain.2 p hp) hb1
    (λk b hb=>by
     cases hf:fr with
     |true=>exact AJ _
     |false=>rw[ak1]at hb;exact(ayJ hf).1 k b hb)
    (λhf=>by have:=(ayK hf).2;rw[<-hmk]at this;exact this)
   refine o6.ret q1 M (ky S _ cH) ?_ X;rw[q4 js (IH.refl _)];refine DV.aox tr r ?_ hrv;cases hf:fr with
   |true=>exact DV.T2 r
   |false=>have:=(ayK hf).1;rw[<-hmk]at this;exact this
  .cases h
 .cases h
end
end Go.Vc
namespace Go.Vc
open Go Go.RowKit
mutual
theorem PK.asf(rw):(p:PK)->(u:DV)->∃u',∀{β:Type} (K:DV->Option β),p.view rw u K=K u'
 | .v t,u=>⟨u.sub (tz rw),λK=>by simp only[PK.view,DV.Zt]⟩
 | .row e t,u=>⟨u,λK=>by cases u<;>rfl⟩
 | .ptr k,u=>⟨u,λK=>by cases u<;>rfl⟩
 | .fn g l,u=>by
  cases u with
  |fn g' cs=>obtain⟨us,h⟩:=Hq rw l cs;exact⟨.fn g' us,λK=>by simp only[PK.view];rw[h]⟩
  |_=>exact⟨_,λK=>rfl⟩
 | .agg l,u=>by
  cases u with
  |agg cs=>obtain⟨us,h⟩:=Hq rw l cs;exact⟨.agg us,λK=>by simp only[PK.view];rw[h]⟩
  |_=>exact⟨_,λK=>rfl⟩
 | .fns l,u=>by
  cases u with
  |fns cs=>obtain⟨us,h⟩:=Hq rw l cs;exact⟨.fns us,λK=>by simp only[PK.view];rw[h]⟩
  |_=>exact⟨_,λK=>rfl⟩
 | .nil n,u=>⟨u,λK=>by cases u<;>rfl⟩
theorem Hq(rw):(l:List PK)->(us:List DV)->∃us',∀{β:Type} (K:List DV->Option β),MK rw l us K=K us'
 |[],us=>⟨us,λK=>rfl⟩
 |_::_,[]=>⟨[],λK=>rfl⟩
 |p::l,u::us=>by obtain⟨u',h1⟩:=PK.asf rw p u;obtain⟨us',h2⟩:=Hq rw l us;exact⟨u'::us',λK=>by simp only[MK];rw[h1,h2]⟩
end
section
variable {P : Program} {T : List TI} {V : World} {U0 L : Nat -> Prop} {al : Nat -> Bool} {B : Nat -> Nat} {A : zx} {ts : List DV} {pb : ij} {rw : List DR} {a : Act} {w : World} {β : Type} {q : β} {o : Oper} {K : DK β} {Q : Exit -> Act -> World -> Prop} {C : GK} {av : List (Nat × Nat)}
def OD.asg:OD->Option (List KU)
 | .set ks=>some ks
 |_=>none
theorem Mem.auA(m:Mem V U0 L B A pb rw w){U' h:Nat->Prop}(hU:∀b,U' b->Us U0 B A pb rw b)(hn:∀j,¬h j->∀b,U' b->¬iK B A pb rw true j b)(f:Nat->Option DV)(hf:∀j,(h j/\f j=(tz rw j).map λ_=>.jz)\/(¬h j/\f j=tz rw j)):
 Sub f (env U0 B A pb rw w) ⟨U',w,B,A,pb,rw⟩:=by
 have My:∀j,f j=none->tz rw j=none:=λj hj=>by
  rcases hf j with⟨_,h⟩|⟨_,h⟩
  .rw[hj]at h;simpa using h.symm
  .rw[<-h];exact hj
 refine⟨⟨λ_ _ _=>rfl,au _,λb _ h=>hU b h⟩,λi h=>⟨h,rfl⟩,λj e t l hj hr=>?_,λj d _ h=>⟨⟨d,h,rfl⟩,rfl⟩,λj p e t l hj hr=>?_,λj p d ad hj hr ha=>?_⟩
 .have:=My j hj;have hr:rw[j]?=some (.own e t l):=hr;rw[ZI hr]at this;cases this
 .have hr:rw[j]?=some (.own e t l):=hr;rcases hf j with⟨_,h⟩|⟨h0,h⟩
  .rw[hj,ZI hr]at h;simp only[fK,ak]at h;subst h;simp only[DV.h]
  .rw[hj,ZI hr]at h;simp only[ak]at h;subst h;simp only[DV.h];exact m.ahW hr hU (hn j h0)
 .have hr:rw[j]?=some (.obj d):=hr;have hv:tz rw j=match(OD.asg d)with|some ks=>some (.set ks)|none=>none:=by unfold tz;rw[gU,hr];cases d<;>rfl
  cases d with
  |set ks=>
   rcases hf j with⟨_,h⟩|⟨h0,h⟩
   .rw[hj,hv]at h;simp only[OD.asg,fK,ak]at h;subst h;simp only[DV.h]
   .rw[hj,hv]at h;simp only[OD.asg,ak]at h;subst h;simp only[DV.h];exact m.ahX hr ha (hn j h0)
  |_=>rcases hf j with⟨_,h⟩|⟨h0,h⟩<;>(rw[hj,hv]at h;simp[OD.asg]at h)
theorem ao5{g}{s}{xs}{vs:List Value}(hs:ant P g s)(h:anD aj s xs ts pb rw (λr ts pb rw=>jw o.dst r ts pb rw K)=some q)(m:Mem V U0 L B A pb rw w)(cH:hL (env U0 B A pb rw w) ts a.tmps.toList)(hxs:hL (env U0 B A pb rw w) xs vs)
 (hrun:(execOp a.eval o).run P w=(callFunc g vs.toArray).run P w):o.wp P a w (o6 V U0 L al B A pb rw w a K q) Q:=by
 unfold anD at h;split at h
 .rename_i j ys;split at h
  .rename_i e t l hj;rw[gU]at hj;split at h
   .rename_i hh z ms hck au6 hX;split at h
    .rename_i hrs;subst hh;obtain⟨l',Ti,h⟩:=af6 h;rw[kz]at h;simp only[aB]at hck;obtain⟨hck,BB⟩:=hck;have he:=aE hck;subst he;have Ti:=Ti;obtain⟨hlen,hc⟩:=hs l z l' Ti;simp only[hL,DV.h]at hxs;obtain⟨v0,Cz,rfl,⟨e1,t1,l1,Hp,rfl⟩,hys⟩:=hxs;have Hp:rw[j]?=some (.own e1 t1 l1):=Hp;rw[hj]at Hp;simp only[ak,DR.own.injEq]at Hp;obtain⟨rfl,rfl,Cn⟩:=Hp;cases Cn
     obtain⟨m0,hU,RB,_⟩:=m.awf (σ:=λ_=>none) (rs:=[some j]) (bor:=λ_=>False) (pb0:=[]) (rw0:=[.own s.e s.t l]) (by simp) (by simp) (by simp)
      (λn r hr=>by
       cases n with
       |zero=>simp at hr;subst hr;exact .inl ⟨j,_,_,_,rfl,hj,rfl⟩
       |succ n=>simp at hr)
      (λn n' k h1 h2=>by
       cases n with
       |zero=>cases n' with
        |zero=>rfl
        |succ n'=>simp at h2
       |succ n=>simp at h1)
     obtain⟨z0,m1,ju,k1,_,_,_,_,k6⟩:=T1 (am:=[]) (E:=env U0 B A pb rw w) s.P .unit ys ⟨[],rw⟩ _ [] z ms hX (MI.nil (env U0 B A pb rw w));have hA0:lA A [some j] 0=A j:=rfl
     have hLb:∀b,Ow (lB B λ_=>none) (lA A [some j]) [] [.own s.e s.t l] b->iK B A pb rw true j b:=by
      rintro b ⟨k,i,hb⟩;cases k with
      |false=>obtain⟨⟨_,hb⟩,_⟩:=hb;simp at hb
      |true=>
       obtain⟨j',h1,h2⟩:=RB i b hb;cases i with
       |zero=>simp at h1;subst h1;exact h2
       |succ i=>simp at h1
     refine ZK hrun (hc _ _ _ _ w m0 ?_) ?_
     .simp only[hL,DV.h];refine⟨_,_,rfl,⟨_,_,_,rfl,by show _=Value.slice (lA A [some j] 0).1 _ (lA A [some j] 0).2;rw[hA0];rfl⟩,k6 _ _ ?_ ?_ hys⟩
      .simp only[ak,bV]at k1;exact⟨[],by rw[k1.2,cy]⟩
      .refine⟨⟨λ_ _ _=>rfl,au _,λb _ hu=>hU b hu⟩,λk i hk=>(by simp[Gi]at hk),λn j' e t l hn=>(by rw[hrs]at hn;simp at hn),λn hn=>(by rw[hrs]at hn;simp at hn)⟩
     .rintro v w' ⟨rfl,m'⟩;have hlt:=(ay.1 hj).1
      obtain⟨m2,s2,e2⟩:=m.putRow (al:=al) (j:=j) (f:=Ix) (rw':=rw.set j (.own s.e s.t l')) (e:=s.e) (t:=s.t) (l:=l') (a:=(A j).1) (c:=(A j).2) (w':=w')
       (by rw[bc,ah rfl,ah hlt]) (λk hk=>by rw[bc,ag (jf hk)]) (λ_ _ h=>by cases h)
       (λ_ e4 t4 l4 h4=>by rw[hj]at h4;simp only[ak,DR.own.injEq]at h4;obtain⟨rfl,rfl,h4⟩:=h4;cases h4;exact⟨_,by rw[bc,ah rfl,ah hlt],hlen,rfl⟩)
       (λ_ d h4=>by rw[hj]at h4;cases h4) ⟨m'.os,m'.tape,m'.output,m'.size⟩
       (λb hb Xe=>m'.same b hb λh=>Xe (hLb b h))
       (λx hx=>.inl ⟨_,x,hj,by simp,hx,rfl⟩)
       (λU' lt=>by obtain⟨xs,h1,h2⟩:=m'.row 0 s.e s.t l' rfl;rw[hA0]at h1;exact⟨xs,h1,h2.1,λi x hi=>s.t.Zm BB (h2.2 i x hi)⟩)
      rw[show Fl A j ((A j).1,(A j).2)=A from Mz A j]at m2 s2 e2;rw[ML]at m2 s2 e2;exact o6.ret h m2 (nS s2 cH) (by simp only[DV.h,hL];exact⟨#[],rfl,rfl⟩) e2
    .cases h
   .cases h
  .cases h
 .cases h
theorem acG{g}{c:EC}{xs:List DV}{vs:List Value}(hc:ani P g c)(h:ac0 aj c al xs ts pb rw (λr ts pb rw=>jw o.dst r ts pb rw K)=some q)(m:Mem V U0 L B A pb rw w)(cH:hL (env U0 B A pb rw w) ts a.tmps.toList)(hxs:hL (env U0 B A pb rw w) xs vs)
 (hrun:(execOp a.eval o).run P w=(callFunc g vs.toArray).run P w):o.wp P a w (o6 V U0 L al B A pb rw w a K q) Q:=by
 unfold ac0 at h;split at h
 .rename_i s;exact ao5 (show ant P g s from hc) h m cH hxs hrun
 .rename_i s;have hs:=hc;split at h
  .rename_i BB;rw[mN]at h;have sv:=m.auA (U':=lU (Us U0 B A pb rw) B A rw (λ_=>False) λ_=>True) (h:=λ_=>False) (λb h=>h.1) (λj _ b h hb=>h.2.2 ⟨j,trivial,hb⟩) (tz rw) (λj=>.inr ⟨id,rfl⟩);exact ao4 false (λ_=>True) hs h m cH (ky sv xs hxs) (λh=>by cases h) (λ_=>BB) hrun
  .obtain⟨Hm,iy,ju,ps,h,m1,yQ,Rb,e1,_⟩:=xC (al:=al) _ h m cH hxs;have s1:Sub Ix (env U0 B A iy ju w) ⟨lU (Us U0 B A iy ju) B A ju (λ_=>False) λ_=>False,w,B,A,iy,ju⟩:=⟨⟨λ_ _ _=>rfl,au _,λb _ h=>h.1⟩,λi h=>⟨h,rfl⟩,λj e t l _ h=>⟨l,h,rfl,rfl⟩,λj d _ h=>⟨⟨d,h,rfl⟩,rfl⟩,λj p e t l h=>(by cases h),λj p d ad h=>(by cases h)⟩;have:=ao4 (al:=al) (Q:=Q) true (λ_=>False) hs h m1 yQ (nS s1 Rb) (λ_ j h=>h) (λh=>by cases h) hrun;exact Bw this λa' w' hn=>o6.more e1 rfl hn
 .rename_i s;have hs:=hc;dsimp only at h;split at h
  .rename_i BB;simp only[aB]at BB;obtain⟨Hm,iy,ju,xs1,h,m1,yQ,awm,e1,_⟩:=xC (al:=al) _ h m cH hxs;obtain⟨ys,hys⟩:=Hq ju s.P xs1;rw[hys]at h
   have:=acF (al:=al) (Q:=Q) false hs h m1 yQ (λbor _ hb=>by
    classical
    let f:Nat->Option DV:=λj=>if bor j then tz ju j else(tz ju j).map λ_=>.jz
    have sv:=m1.auA (U':=λb=>Us U0 B A iy ju b/\¬ ∃j,bor j/\iK B A [] ju true j b) (h:=λj=>¬bor j) (λb h=>h.1) (λj hj b h u9=>h.2 ⟨j,Classical.not_not.1 hj,u9⟩) f (λj=>by
     by_cases hbj:bor j
     .exact .inr ⟨Classical.not_not.2 hbj,ah hbj⟩
     .exact .inl ⟨hbj,ag hbj⟩)
    have s0:Sub Ix (env U0 B A iy ju w) ⟨λb=>Us U0 B A iy ju b/\¬ ∃j,bor j/\iK B A [] ju true j b,w,B,A,iy,ju⟩:=⟨⟨λ_ _ _=>rfl,au _,λb _ h=>h.1⟩,λi h=>⟨h,rfl⟩,λj e t l _ h=>⟨l,h,rfl,rfl⟩,λj d _ h=>⟨⟨d,h,rfl⟩,rfl⟩,λj p e t l h=>(by cases h),λj p d ad h=>(by cases h)⟩
    obtain⟨⟨us,h1,h2,_⟩,_⟩:=MW (q:=ys) sv s0 (λj=>by
     show(if bor j then tz ju j else(tz ju j).map λ_=>DV.jz).isSome=_;split
     .rfl
     .simp) s.P xs1 [] (λl=>some l) (λj hj=>ah (hb rfl j hj)) (hys some)
    simp only[ak]at h1;subst h1;exact h2 vs awm) (λ_=>BB) hrun
   exact Bw this λa' w' hn=>o6.more e1 rfl hn
  .obtain⟨Hm,iy,ju,xs1,h,m1,yQ,awm,e1,_⟩:=xC (al:=al) _ h m cH hxs;have:=acF (al:=al) (Q:=Q) true hs h m1 yQ (λbor hb _=>by have s1:Sub Ix (env U0 B A iy ju w) ⟨λb=>Us U0 B A iy ju b/\¬ ∃j,bor j/\iK B A [] ju true j b,w,B,A,iy,ju⟩:=⟨⟨λ_ _ _=>rfl,au _,λb _ h=>h.1⟩,λi h=>⟨h,rfl⟩,λj e t l _ h=>⟨l,h,rfl,rfl⟩,λj d _ h=>⟨⟨d,h,rfl⟩,rfl⟩,λj p e t l h=>(by cases h),λj p d ad h=>(by cases h)⟩;exact nS s1 awm) (λh=>by cases h) hrun;exact Bw this λa' w' hn=>o6.more e1 rfl hn
theorem acH{g}{xs}{vs:List Value}(cH:hL (env U0 B A pb rw w) ts a.tmps.toList)(m:Mem V U0 L B A pb rw w)(hxs:hL (env U0 B A pb rw w) xs vs)(hrun:(execOp a.eval o).run P w=(callFunc g vs.toArray).run P w):
 ∀(l:List EC),(∀c∈l,ani P g c)->ac1 aj al xs ts pb rw (λr ts pb rw=>jw o.dst r ts pb rw K) l=some q->o.wp P a w (o6 V U0 L al B A pb rw w a K q) Q
 |[],_,h=>by cases h
 |c::l,hl,h=>by
  unfold ac1 at h;split at h
  .exact acG (hl c (eH ..)) h m cH hxs hrun
  .rename_i d l';have h:orF (ac0 aj c al xs ts pb rw λr ts pb rw=>jw o.dst r ts pb rw K) (ac1 aj al xs ts pb rw (λr ts pb rw=>jw o.dst r ts pb rw K) (d::l'))=some q:=h;unfold orF at h;split at h
   .rename_i x hx;simp only[ak]at h;subst h;exact acG (hl c (eH ..)) hx m cH hxs hrun
   .exact acH cH m hxs hrun (d::l') (λc hc=>hl c (cP _ hc)) h
theorem acI{g}{xs}{vs:List Value}(hC:Et P C)(h:anE aj C al g xs ts pb rw (λr ts pb rw=>jw o.dst r ts pb rw K)=some q)(m:Mem V U0 L B A pb rw w)(cH:hL (env U0 B A pb rw w) ts a.tmps.toList)(hxs:hL (env U0 B A pb rw w) xs vs)
 (hrun:(execOp a.eval o).run P w=(callFunc g vs.toArray).run P w):o.wp P a w (o6 V U0 L al B A pb rw w a K q) Q:=
 acH cH m hxs hrun _ (λ_ hc=>aow hC hc) h
theorem ash{c}(hT:dP P T)(hC:Et P C)(ho:o.op=.call c)(h:qV aj T C al av o ts pb rw K=some q)(m:Mem V U0 L B A pb rw w)(cH:hL (env U0 B A pb rw w) ts a.tmps.toList):o.wp P a w (o6 V U0 L al B A pb rw w a K q) Q:=by
 cases GA:c.callee with
 |value f=>
  have h0:=h;simp only[qV,ho,GA]at h;split at h
  .rename_i g An xs hf hx;have hf:=gD hf cH;have hx:=OS hx cH;simp only[DV.h]at hf;obtain⟨cv,hfv,hcv⟩:=hf;split at h
   .rename_i hb;refine acI hC h m cH (af3 hcv hx) ?_;rw[afD ho GA (hfv.trans (ayH hb cv))];congr 2;apply fQ;simp
   .rename_i hb;refine acI hC h m cH (af3 hx hcv) ?_;rw[ZL ho GA (hfv.trans (atV hb cv))];congr 2;apply fQ;simp
  .cases h
 |invoke r s=>simp only[qV,ho,GA]at h;cases h
 |builtin b=>
  have h0:=h;simp only[qV,ho,GA]at h;split at h
  .rename_i xs af9;have hxs:=OS af9 cH;cases b with
   |append=>exact aky hT ho GA hxs h0 af9 m cH
   |clear=>exact aop hT ho GA hxs h0 af9 m cH
   |_=>exact TY (TU hT ho GA rfl hxs h) m cH Ext.refl
  .cases h
theorem asi(hT:dP P T)(hC:Et P C)(h:qV aj T C al av o ts pb rw K=some q)(m:Mem V U0 L B A pb rw w)(cH:hL (env U0 B A pb rw w) ts a.tmps.toList):o.wp P a w (o6 V U0 L al B A pb rw w a K q) Q:=by
 have h0:=h;unfold qV at h;cases ho:o.op with
 |alloc t=>exact aok hT ho h0 m cH
 |box t x=>exact awd ho h0 m cH
 |load t x=>exact arY hT ho h0 m cH
 |store t x y=>exact aoh hT ho h0 m cH
 |call c=>exact ash hT hC ho h0 m cH
 |buildSlice t l p=>exact VQ hT ho h0 m cH
 |slice t x lo hi mx=>exact aol hT ho h0 m cH
 |makeSlice t l c=>exact ZD hT ho h0 m cH
 |index t x i=>exact aom hT ho h0 m cH
 |range t x=>exact aos hT ho h0 m cH
 |next x b=>exact asc ho h0 m cH
 |makeMap t r=>exact afC hT ho h0 m cH
 |mapUpdate t x y z=>exact ZG hT ho h0 m cH
 |entry x=>exact aov ho h0 m cH
 |_=>rw[ho]at h;exact TY (ZA hT ho cH rfl m.aic h) m cH Ext.refl
end
end Go.Vc




namespace Go.Vc
open Go Go.RowKit
def fe(wr:List Nat)(a a':Act):Prop:=a'.tmps.size=a.tmps.size/\∀i,i∉wr->a'.tmps[i]?=a.tmps[i]?
theorem fe.refl(wr:List Nat)(a:Act):fe wr a a:=⟨rfl,λ_ _=>rfl⟩
theorem fe.trans{wr:List Nat}{a b c:Act}(h:fe wr a b)(k:fe wr b c):fe wr a c:=⟨k.1.trans h.1,λi hi=>(k.2 i hi).trans (h.2 i hi)⟩
theorem fe.mono{wr wr':List Nat}{a b:Act}(h:fe wr a b)(hs:∀i∈wr,i∈wr'):fe wr' a b:=⟨h.1,λi hi=>h.2 i λhm=>hi (hs i hm)⟩
theorem fe.put(a:Act)(o:Oper)(v:Value):fe (anK o) a (a.put o.dst v):=by
 unfold anK;cases o.dst with
 |none=>exact fe.refl _ _
 |some d=>exact⟨by simp[Act.put],λi hi=>by simp only[aC]at hi;simp[Act.put,wT (jf hi)]⟩
theorem ao6{P:Program}{o:Oper}{a:Act}{w:World}{N:Act->World->Prop}{Q:Exit->Act->World->Prop}(hd:o.wp P a w N Q):o.wp P a w (λa' w'=>N a' w'/\fe (anK o) a a') Q:=by
 unfold Oper.wp at *;generalize (execOp a.eval o).run P w=r at *;cases r with
 |ok n w'=>
  cases n<;>simp only[Oper.upon]at hd ⊢;case value v=>exact⟨hd,fe.put a o v⟩
  case skip=>exact⟨hd,fe.put a o _⟩
  case defer d=>exact⟨hd,fe.put { a with defers:=d::a.defers } o undef⟩
  case enter f args=>
   refine hd.mono λe w'' he=>?_
   cases e with
   |returned v=>exact⟨he,fe.put a o v⟩
   |panicked c=>exact he
   |outgrown=>exact he
  case row row args=>exact Rows.mono hd λv w'' he=>⟨he,fe.put a o v⟩
 |halt x w'=>cases x<;>simp only[Oper.upon]at hd ⊢;case panic u=>exact hd
theorem ak2(ops)(j):Zr ops j=(ops[j]?).bind (·.dst):=by
 induction ops generalizing j with
 |nil=>rfl
 |cons o ops ih=>cases j<;>simp[Zr,ih]
section
variable {P : Program} {T : List TI} {V : World} {U0 L : Nat -> Prop} {al : Nat -> Bool} {B : Nat -> Nat} {A : zx} {ts : List DV} {pb : ij} {rw : List DR} {a : Act} {w : World} {β : Type} [rB β] {q : β} {o : Oper} {K : DK β} {Q : Exit -> Act -> World -> Prop} {C : GK} {av : List (Nat × Nat)}
theorem aio{op}{t ty e2}{x y}{e neg}{ti:TI}{aa:Option Addr}{n c:Nat}(ho:o.op=.binOp op t x y ty)(hf:oQ P t ti)(mj:ti.td=.slice e2)(ev:a.eval x=.slice aa n c)(hy:a.eval y=.slice none 0 0)
 (hne:e=false->aa.isNone=false) (hop:op=(if neg then BinOp.neq else BinOp.eql)) (h:(aj.rj e λg=>jw o.dst (.bool (dq neg g)) ts pb rw K)=some q) (m:Mem V U0 L B A pb rw w) (cH:hL (env U0 B A pb rw w) ts a.tmps.toList):o.wp P a w (o6 V U0 L al B A pb rw w a K q) Q:=by
 have hrun:=Tq (P:=P) neg x y aa n c w (rK hf mj)
 have hg:jw o.dst (.bool (dq neg aa.isNone)) ts pb rw K=some q:=by
  change akq e (λg=>jw o.dst (.bool (dq neg g)) ts pb rw K)=some q at h;unfold akq at h;rcases yN h with⟨_,h⟩|⟨he,h⟩
  .have:=KK h;cases aa.isNone
   .exact this.2
   .exact this.1
  .rw[hne he];exact h
 refine fc (v:=.bool (dq neg aa.isNone)) ?_ (o6.ret hg m cH (by simp only[DV.h]) Ext.refl);simp only[execOp,ho,ev,hy,hop];rw[aP,hrun];simp
theorem T4(hT:dP P T)(hC:Et P C)(h:TB aj T C al av o ts pb rw K=some q)(m:Mem V U0 L B A pb rw w)(cH:hL (env U0 B A pb rw w) ts a.tmps.toList):o.wp P a w (o6 V U0 L al B A pb rw w a K q) Q:=by
 unfold TB at h;split at h
 .rename_i e neg hn;unfold ayv at hn;split at hn
  .rename_i op t x y ty ho;split at hn
   .rename_i d l ht hx hy;split at hn
    .rename_i hd0;obtain⟨ti,hf,mj⟩:=pZ hT ht;have hx:=gD hx cH;have hy:=gD hy cH;simp only[DV.h]at hx hy;obtain⟨aa,c,ev,_,_,hel⟩:=hx;simp only[dO,oA]at ev
     have key:=λneg hop h=>aio (P:=P) (B:=B) (A:=A) (V:=V) (U0:=U0) (L:=L) (al:=al) (Q:=Q) (ts:=ts) (pb:=pb) (rw:=rw) (w:=w) (K:=K) (q:=q) (e:=l.isEmpty) (neg:=neg) (op:=op) ho hf mj ev hy (λhe=>by
      cases l with
      |nil=>simp at he
      |cons z l=>obtain⟨us,h1,h2⟩:=hel 0 z rfl;have hd:=bQ hd0;have hul:=d.Bn h1;obtain⟨ad,rfl,_⟩:=h2 0 _ (aw (by omega));rfl) hop h m cH
     split at hn
     .simp only[ak,bV]at hn;obtain⟨rfl,rfl⟩:=hn;exact key false rfl h
     .simp only[ak,bV]at hn;obtain⟨rfl,rfl⟩:=hn;exact key true rfl h
     .cases hn
    .cases hn
   .rename_i j ht hx hy;split at hn
    .rename_i e' t' l P9;rw[gU]at P9;obtain⟨ti,hf,mj⟩:=pZ hT ht;have hx:=gD hx cH;have hy:=gD hy cH;simp only[DV.h]at hx hy;obtain⟨e3,t3,l3,IG,ev⟩:=hx;have IG:rw[j]?=some (.own e3 t3 l3):=IG;rw[P9]at IG;simp only[ak,DR.own.injEq]at IG;obtain⟨rfl,rfl,hl3⟩:=IG;cases hl3
     have key:=λneg hop h=>aio (P:=P) (B:=B) (A:=A) (V:=V) (U0:=U0) (L:=L) (al:=al) (Q:=Q) (ts:=ts) (pb:=pb) (rw:=rw) (w:=w) (K:=K) (q:=q) (e:=l.isEmpty) (neg:=neg) (op:=op) ho hf mj ev hy (λhe=>by
      cases hA:((env U0 B A pb rw w).A j).1 with
      |some ad=>rfl
      |none=>
       have:=m.aic j e' t' l P9 hA;cases l with
       |nil=>simp at he
       |cons z l=>simp at this) hop h m cH
     split at hn
     .simp only[ak,bV]at hn;obtain⟨rfl,rfl⟩:=hn;exact key false rfl h
     .simp only[ak,bV]at hn;obtain⟨rfl,rfl⟩:=hn;exact key true rfl h
     .cases hn
    .cases hn
   .cases hn
  .cases hn
 .split at h
  .rename_i j ks dn hp;exact asd hp h m cH
  .exact asi hT hC h m cH
theorem ao7{rest:List Oper}(hT:dP P T)(hC:Et P C)(h:anJ aj T C al av o rest ts pb rw K=some q)(m:Mem V U0 L B A pb rw w)(cH:hL (env U0 B A pb rw w) ts a.tmps.toList):o.wp P a w (o6 V U0 L al B A pb rw w a K q) Q:=by
 unfold anJ at h;split at h
 .rename_i j i n htq;unfold auy at htq;split at htq
  .split at htq
   .rename_i t x lo ho;split at htq
    .rename_i e jj k ii ht hx Vo;split at htq
     .rename_i te e2 t' l Ra hj;rw[gU]at hj;split at htq
      .rename_i hsz;simp only[ak,bV]at htq;obtain⟨rfl,rfl,rfl⟩:=htq;have hsz:=aE hsz;obtain⟨b1,b2,h⟩:=anW h;obtain⟨ti,hf,mj⟩:=pZ hT ht;have LX:=rK hf mj;have Jx:=sV hT Ra;have hx:=gD hx cH;have Vo:=gD Vo cH;simp only[DV.h]at hx Vo;obtain⟨e3,t3,l3,IG,ev⟩:=hx;have awn:rw[jj]?=some (.own e3 t3 l3):=IG;rw[hj]at awn;simp only[ak,DR.own.injEq]at awn;obtain⟨rfl,rfl,hl3⟩:=awn;cases hl3;change a.eval x=Value.slice (A jj).1 l.length (A jj).2 at ev;refine fc (v:=.slice (if(A jj).2=ii.toNat then(A jj).1 else(A jj).1.map (·.add (ii.toNat*t'.size))) (l.length-ii.toNat) ((A jj).2-ii.toNat)) ?_ (o6.ret h m cH ?_ Ext.refl)
       .have hr:(execOp a.eval o).run P w=((Instr.sliceAt t (a.eval x) (some (a.eval lo)) none none).run P w).andThen λv w'=>.ok (.value v) w':=by simp only[execOp,ho,aP,bG,fK,lr]
        rw[hr,ev,Vo];simp only[Instr.sliceAt,Instr.slice,aP,bj LX,bn,Instr.sliceBounds,bG,qz,fb,oG,iq w k ii _ .sliceB b1 b2,sx Jx,hsz]
       .simp only[DV.h];exact⟨_,_,_,IG,by omega,rfl⟩
      .cases htq
     .cases htq
    .cases htq
   .cases htq
  .cases htq
 .exact T4 hT hC h m cH
omit [rB β]in
theorem OY{ops:Array Oper}{E:Env}{j:Nat}{want:Bool}{yes no:List DV->Option β}(h:TE aj ops.toList ts j want yes no=some q)(cH:hL E ts a.tmps.toList):
 ∃pe,hL E pe a.tmps.toList/\((yielded ops a.tmps j=some want/\yes pe=some q)\/(yielded ops a.tmps j≠some want/\no pe=some q)):=by
 unfold TE at h;rw[ak2]at h;have hy:∀d,(ops[j]?).bind (·.dst)=some d->yielded ops a.tmps j=match a.tmps[d]? with|some (.bool b)=>some b|_=>none:=by intro d hd;unfold yielded;rw[hd];rfl
 split at h
 .cases h
 .rename_i d hd;have hy:=hy d (by simpa using hd)
  have get:∀(c:Bool),((a.tmps.toList[d]?).getD undef)=.bool c->yielded ops a.tmps j=some c/\a.tmps.toList.set d (.bool c)=a.tmps.toList:=by
   intro c hc;cases hq:a.tmps[d]? with
   |none=>simp only[dt,hq]at hc;simp[undef]at hc
   |some v=>
    simp only[dt,hq,gM]at hc;subst hc;refine⟨by rw[hy,hq],?_⟩;apply eY;intro i;rw[bc];split
    .rename_i hdi;subst hdi;have:=(cq.1 hq).1;simp[this];exact(cq.1 hq).2.symm
    .rfl
  have keep:∀(c:Bool),((a.tmps.toList[d]?).getD undef)=.bool c->hL E (ts.set d (.lit c)) a.tmps.toList:=by
   intro c hc;have:=Zs cH d (p:=.lit c) (v:=.bool c) (by simp only[DV.h])
   rwa [(get c hc).2]at this
  split at h
  .rename_i hg;have hv:=MN hg cH;simp only[DV.h]at hv;have hg:=(get true hv).1;cases want
   .exact⟨ts,cH,.inr ⟨by rw[hg];simp,h⟩⟩
   .exact⟨ts,cH,.inl ⟨hg,h⟩⟩
  .rename_i hg;have hv:=MN hg cH;simp only[DV.h]at hv;have hg:=(get false hv).1;cases want
   .exact⟨ts,cH,.inl ⟨hg,h⟩⟩
   .exact⟨ts,cH,.inr ⟨by rw[hg];simp,h⟩⟩
  .rename_i b hg;have hv:=MN hg cH;simp only[DV.h]at hv;have hgb:=(get b hv).1;simp only[kz]at h;rcases anX h with⟨rfl,h⟩|⟨rfl,h⟩
   .cases want
    .exact⟨_,keep true hv,.inr ⟨by rw[hgb];simp,h⟩⟩
    .exact⟨_,keep true hv,.inl ⟨hgb,h⟩⟩
   .cases want
    .exact⟨_,keep false hv,.inl ⟨hgb,h⟩⟩
    .exact⟨_,keep false hv,.inr ⟨by rw[hgb];simp,h⟩⟩
  .rename_i hg;have hv:=MN hg cH;simp only[DV.h]at hv;refine⟨ts,cH,.inr ⟨?_,h⟩⟩;rw[hy];cases hq:a.tmps[d]? with
   |none=>simp
   |some v=>simp only[dt,hq,gM]at hv;subst hv;simp[undef]
  .cases h
omit [rB β]in
theorem o6.mono{K':DK β}{a':Act}{w':World}{q':β}(h:o6 V U0 L al B A pb rw w a K q a' w')(k:∀B' A' pe pb' rw',Mem V U0 L B' A' pb' rw' w'->hL (env U0 B' A' pb' rw' w') pe a'.tmps.toList->K pe pb' rw'=some q->K' pe pb' rw'=some q'):o6 V U0 L al B A pb rw w a K' q' a' w':=
 let ⟨B',A',pe,pb',rw',m,h1,h2,h3,h4⟩:=h
 ⟨B',A',pe,pb',rw',m,h1,k B' A' pe pb' rw' m h1 h2,h3,h4⟩
theorem OZ(hT:dP P T)(hC:Et P C){ops:Array Oper}:∀(l:List Oper) {B:Nat->Nat} {A:zx} {ts:List DV} {pb:ij} {rw:List DR} {a:Act} {w:World},KE aj T C al av ops.toList l ts pb rw K=some q->Mem V U0 L B A pb rw w->hL (env U0 B A pb rw w) ts a.tmps.toList->
 (∀a' w',o6 V U0 L al B A pb rw w a K q a' w'->fe (QY l) a a'->Q .normal a' w')->wpList P ops Q l a w
 |[],B,A,ts,pb,rw,a,w,h,m,cH,hQ=>wpList_nil (hQ a w ⟨B,A,ts,pb,rw,m,cH,h,rfl,Ext.refl⟩ (fe.refl _ _))
 |o::rest,B,A,ts,pb,rw,a,w,h,m,cH,hQ=>by
  have go:∀{K1:DK β},(∀ts pb rw,K1 ts pb rw=some q->KE aj T C al av ops.toList rest ts pb rw K=some q)->o.wp P a w (o6 V U0 L al B A pb rw w a K1 q) Q->o.wp P a w (wpList P ops Q rest) Q:=by
   intro K1 hK1 h1;refine Oper.wp_mono (λa' w' hn=>?_) (ao6 h1);obtain⟨⟨B',A',pe,pb',rw',m',h2,h3,h4,e⟩,zB⟩:=hn;refine OZ hT hC rest (hK1 _ _ _ h3) m' h2 λa'' w'' GO aou=>hQ a'' w'' (o6.more e h4 GO) ?_
   exact(zB.mono (by intro i hi;simp[QY,hi])).trans (aou.mono (by intro i hi;simp[QY,hi]))
  unfold KE at h;split at h
  .rename_i hg;unfold wpList;rw[ah (by simp[Region.wanted,hg])];exact .inl (go (λ_ _ _ h=>h) (ao7 hT hC h m cH))
  .rename_i j want hg;obtain⟨pe,hr,hc⟩:=OY h cH;unfold wpList;have hw:Region.wanted o (yielded ops a.tmps)=(yielded ops a.tmps j==some want):=by simp[Region.wanted,hg]
   rcases hc with⟨hy,hc⟩|⟨hy,hc⟩
   .rw[ah (by rw[hw,hy];simp)];exact .inl (go (λ_ _ _ h=>h) (T4 hT hC hc m hr))
   .rw[ag (by rw[hw];simpa using hy)];obtain⟨a1t,h1,h2,h3⟩:=OU hc hr (x:=.OJ) (v:=undef) (by simp only[DV.h]);refine OZ hT hC rest h1 m h2 λa'' w'' GO aou=>hQ a'' w'' (o6.more Ext.refl h3 GO) ?_
    exact((fe.put a o undef).mono (by intro i hi;simp[QY,hi])).trans (aou.mono (by intro i hi;simp[QY,hi]))
end
end Go.Vc
namespace Go.Vc
open Go Go.RowKit
def Still{α:Type}:Sem α->Prop
 | .pure _=>True
 | .load _ _ k=>∀v,Still (k v)
 | .program k=>∀p,Still (k p)
 | .halt _=>True
 |_=>False
theorem Still.run{α}{P}:∀{s:Sem α},Still s->∀{w w':World} {r:α},s.run P w=.ok r w'->w'=w
 | .pure a,_,w,w',r,h=>by simp only[Sem.run,Result.ok.injEq]at h;exact h.2.symm
 | .load m a k,hs,w,w',r,h=>by
  simp only[Sem.run]at h;split at h
  .exact Still.run (hs _) h
  .split at h
   .exact Still.run (hs _) h
   .cases h
 | .program k,hs,w,w',r,h=>by simp only[Sem.run]at h;exact Still.run (hs _) h
 | .halt x,_,w,w',r,h=>by simp only[Sem.run]at h;cases h
 | .store _ _ _ _,hs,_,_,_,_=>hs.elim
 | .new _ _,hs,_,_,_,_=>hs.elim
 | .shape _ _,hs,_,_,_,_=>hs.elim
 | .freeze _ _ _,hs,_,_,_,_=>hs.elim
 | .frozen _ _,hs,_,_,_,_=>hs.elim
 | .getObj _ _,hs,_,_,_,_=>hs.elim
 | .setObj _ _ _,hs,_,_,_,_=>hs.elim
 | .choose _ _,hs,_,_,_,_=>hs.elim
 | .sys _ _,hs,_,_,_,_=>hs.elim
 | .mark _ _,hs,_,_,_,_=>hs.elim
theorem Still.bind{α β}{f:α->Sem β}(hf:∀a,Still (f a)):∀{s:Sem α},Still s->Still (s >>= f)
 | .pure a,_=>hf a
 | .load m a k,hs=>λv=>Still.bind hf (hs v)
 | .program k,hs=>λv=>Still.bind hf (hs v)
 | .halt x,_=>trivial
 | .store _ _ _ _,hs=>hs.elim
 | .new _ _,hs=>hs.elim
 | .shape _ _,hs=>hs.elim
 | .freeze _ _ _,hs=>hs.elim
 | .frozen _ _,hs=>hs.elim
 | .getObj _ _,hs=>hs.elim
 | .setObj _ _ _,hs=>hs.elim
 | .choose _ _,hs=>hs.elim
 | .sys _ _,hs=>hs.elim
 | .mark _ _,hs=>hs.elim
end Go.Vc
namespace Go.Vc
open Go Go.RowKit
theorem T5{α}(a):Still (pure a:Sem α):=trivial
theorem Jy:Still program:=λ_=>trivial
theorem T6(a):Still (load a):=λ_=>trivial
theorem Gm(a:Addr):∀(n i:Nat) (acc:Array Value),Still (loadCellsFrom a i n acc)
 |0,_,_=>trivial
 |n+1,i,acc=>Still.bind (λv=>Gm a n (i+1) (acc.push v)) (T6 _)
theorem O0(t:TypeId):Still (underlying t):=Still.bind (λp=>by cases p.underlying t<;>trivial) Jy
theorem ZN(t:TypeId):Still (Go.sizeOf t):=Still.bind (λ_=>T5 _) (Still.bind (λp=>by cases p.info? t<;>trivial) Jy)
theorem acJ(t:TypeId):Still (Go.isAgg t):=Still.bind (λd=>by cases d<;>trivial) (O0 t)
theorem VR(t)(a:Addr):Still (loadVar t a):=by
 refine Still.bind (λb=>?_) (acJ t);cases b with
 |false=>exact T6 a
 |true=>rw[ah rfl];exact Still.bind (λn=>Still.bind (λcs=>T5 _) (Gm a n 0 #[])) (ZN t)
theorem ZO(t)(x:Value):Still (Instr.loadAt t x):=by refine Still.bind (λa=>VR t a) ?_;unfold Instr.sureAddr;split<;>trivial
section
variable {P : Program} {ops : Array Oper} {Q : Exit -> Act -> World -> Prop} {S : World -> Prop}
theorem ak3{j}{oj}(hj:ops[j]?=some oj)(hl:TC oj=true){K}{a}{w}(h:wpOp P ops Q j K a w):wpOp P ops Q j (λa' w'=>w'=w/\K a' w') a w:=by
 unfold TC at hl;split at hl
 .rename_i t x ho;unfold Go.wpOp at *;simp only[hj]at *;split
  .rename_i hw;simp only[hw,sR]at h;rcases h with h2|h2;case inr=>exact .inr h2
   refine .inl ?_;unfold Oper.wp at h2 ⊢
   have e:∀n w',(execOp a.eval oj).run P w=.ok n w'->w'=w/\∃v,n=.value v:=λn w' hr=>by
    unfold execOp at hr;simp only[ho,aP]at hr;cases hq:(Instr.loadAt t (a.eval x)).run P w with
    |ok v w2=>rw[hq]at hr;simp only[Result.andThen,bG,Result.ok.injEq]at hr;exact⟨hr.2▸(ZO t _).run hq,v,hr.1.symm⟩
    |halt x w2=>rw[hq]at hr;cases hr
   generalize (execOp a.eval oj).run P w=r at *;cases r with
   |ok n w'=>obtain⟨rfl,v,rfl⟩:=e n w' rfl;exact⟨rfl,h2⟩
   |halt x w'=>cases x<;>exact h2
  .rename_i hw;rw[ag hw]at h;exact⟨trivial,h⟩
 .cases hl
theorem ZP{i}{oi}{v}{D:List Nat}{w:World}(hi:ops[i]?=some oi)(hs:Region.noSelect ops=true)(hQ:∀c a w,Q (.panic c) (a.put oi.dst v) w->Q (.panic c) a w)
 (a0I:∀d∈D,arK ops D i d=true) (hS:S w):
 ∀(Eu:Nat) (xE:Array Bool) (a:Act),(∀d∈D,xE.getD d true=false)->(∀j oj,ops[j]?=some oj->j∉D->xE.getD j true=false->TC oj=true)->
  (∀j oj,ops[j]?=some oj->j≠i->xE.getD j true=false->(∀e∈oj.after,Region.binds .any e=true->e.on≠i)->oi.apart ops oj=true)->
  i∈D->i∈Region.ready .any ops xE->YieldsIf P ops (λw'=>w'=w) oi v a->
  wpAnyH P .any ops Q S Eu (xE.setIfInBounds i true) (a.put oi.dst v) w->wpAnyH P .any ops Q S (Eu+1) xE a w:=by
 have ayN:=Region.noSelect_spec hs;intro Eu;induction Eu with
 |zero=>
  intro xE a _ _ _ _ hr hy H;refine⟨λh=>(by rw[h]at hr;cases hr),λj hj=>?_⟩;by_cases R8:j=i
  .subst R8;exact hy.wpOp hi rfl ⟨hS,H⟩
  .have:=ready_mono hj R8;rw[H.1]at this;cases this
 |succ Eu ih=>
  intro xE a LX NY BB hiD hr hy H;refine⟨λh=>(by rw[h]at hr;cases hr),λj hj=>?_⟩;by_cases R8:j=i
  .subst R8;exact hy.wpOp hi rfl ⟨hS,H⟩
  .have h1:=H.2 j (ready_mono hj R8);obtain⟨awo,oj,hoj,hall⟩:=mem_ready.1 hj
   have ar7:∀k∈D,xE.getD k false=false:=λk hk=>by
    have h0:=LX k hk;rcases dS k xE.size with h'|h'
    .simp[h']at h0 ⊢;exact h0
    .simp[Array.getElem?_eq_none h']
   have hjD:j∉D:=λhD=>by
    have hd:=a0I j hD;unfold arK at hd;split at hd
    .rename_i hb;exact R8 (aE hb)
    .rw[hoj]at hd;simp only[Array.any_eq_true',aB,vE]at hd;obtain⟨e,he,hb,hon⟩:=hd;have h2:=hall e he hb;rw[ar7 _ hon]at h2;cases h2
   have a0J:∀e∈oj.after,Region.binds .any e=true->e.on≠i:=λe he hb heq=>by have h2:=hall e he hb;rw[heq,ar7 _ hiD]at h2;cases h2
   have h2:=wpOp_putIf hoj (BB j oj hoj R8 awo a0J) (λcs b=>ayN i oi cs b hi) (λcs b=>ayN j oj cs b hoj) hQ hy h1;have h3:=ak3 hoj (NY j oj hoj hjD awo) h2
   have VN:∀k,(xE.setIfInBounds j true).getD k true=false->xE.getD k true=false:=λk hk=>by
    by_cases hjk:j=k
    .subst hjk;exact awo
    .rwa [getD_set_ne true hjk]at hk
   refine wpOp_mono (λa' w' h4=>?_) h3;obtain⟨rfl,h5,h6,h7⟩:=h4;refine⟨h6,ih (xE.setIfInBounds j true) a' (λd hd=>?_) (λk ok hk hkD hku=>NY k ok hk hkD (VN k hku)) (λk ok hk hki hku NX=>BB k ok hk hki (VN k hku) NX) hiD (ready_mono hr (jf R8)) h5 ?_⟩
   .rw[getD_set_ne (i:=j) (j:=d) true (λe=>hjD (e▸hd))];exact LX d hd
   .rw[Array.setIfInBounds_comm _ _ R8];exact h7
theorem ao8{L}{i}{D}(h:Zq ops L i D=true):i∈D/\(∀d∈D,L.getD d true=false)/\(∀d∈D,arK ops D i d=true)/\∀j oj,ops[j]?=some oj->j∉D->L.getD j true=false->TC oj=true:=by
 unfold Zq at h;simp only[aB,mD,Cg,fI]at h;obtain⟨⟨⟨h1,h2⟩,h3⟩,h4⟩:=h;refine⟨(vE _ _).1 h1,?_,h3,λj oj hj hD hu=>?_⟩
 .have:∀D:List Nat,arL L D=true->∀d∈D,L.getD d true=false:=by
   intro D;induction D with
   |nil=>intro _ d hd;cases hd
   |cons x D ih=>
    intro h d hd;simp only[arL,aB,jF]at h;rcases aF.1 hd with rfl|hd
    .exact h.1
    .exact ih h.2 d hd
  exact this D h2
 .rcases h4 j (cq.1 hj).1 with(h5|h5)|h5
  .exact absurd ((vE _ _).1 h5) hD
  .rw[hu]at h5;cases h5
  .rw[hj]at h5;exact h5
end
end Go.Vc




namespace Go.Vc
open Go Go.RowKit
section
variable {P : Program} {T : List TI} {V : World} {U0 L : Nat -> Prop} {al : Nat -> Bool} {B : Nat -> Nat} {A : zx} {ts : List DV} {pb : ij} {rw : List DR} {a : Act} {w : World} {β : Type} [rB β] {q : β} {o : Oper} {K : DK β} {Q : Exit -> Act -> World -> Prop} {C : GK} {av : List (Nat × Nat)}
def Nx(V:World)(U0 L:Nat->Prop)(B:Nat->Nat)(pb:ij)(a:Act)(K:DK β)(q:β):Act->World->Prop:=λa' w'=>∃B' A' pe pb' rw',Mem V U0 L B' A' pb' rw' w'/\hL (env U0 B' A' pb' rw' w') pe a'.tmps.toList/\K pe pb' rw'=some q/\a'.defers=a.defers/\∀i,live pb i->live pb' i/\B' i=B i
omit [rB β]in
theorem o6.nx{a'}{w':World}(h:o6 V U0 L al B A pb rw w a K q a' w'):Nx V U0 L B pb a K q a' w':=
 let ⟨B',A',pe,pb',rw',m,h1,h2,h3,h4⟩:=h
 ⟨B',A',pe,pb',rw',m,h1,h2,h3,h4.bx⟩
theorem Mem.places(m:Mem V U0 L B A pb rw w){pb':ij}(h:∀(i:Nat) (b:DB),pb'[i]?=some (some b)↔pb[i]?=some (some b)):Mem V U0 L B A pb' rw w/\Sub Ix (env U0 B A pb rw w) (env U0 B A pb' rw w)/\∀i,live pb' i↔live pb i:=by
 have hl:∀i,live pb' i↔live pb i:=λi=>⟨λ⟨b,hb⟩=>⟨b,(h i b).1 hb⟩,λ⟨b,hb⟩=>⟨b,(h i b).2 hb⟩⟩
 have hb:∀k i b,iK B A pb' rw k i b->iK B A pb rw k i b:=λk i b hh=>by
  cases k with
  |true=>exact hh
  |false=>exact⟨(hl i).1 hh.1,hh.2⟩
 obtain⟨m',s,_⟩:=m.step (al:=λ_=>true) Ix (w':=w) (B':=B) (A':=A) (pb':=pb') (rw':=rw) ⟨rfl,rfl,rfl,au _⟩ (λ_ _ _=>rfl) (λk i b hh=>.inl (hb k i b hh)) (λk i k' i' b h1 h2=>m.inj _ _ _ _ _ (hb _ _ _ h1) (hb _ _ _ h2)) (λi hh=>⟨(hl i).2 hh,rfl⟩) (λj e t l _ hh=>⟨l,hh,rfl,rfl⟩) (λj d _ h=>⟨⟨d,h,rfl⟩,rfl⟩) (λ_ j p e t l hh=>(by cases hh)) (λ_ j p d ad hh=>(by cases hh)) (λ_ i b' hh=>.inl ⟨b',(h i b').1 hh,rfl,by rw[pg],id,rfl⟩) (λ_ j e t l hh=>.inl ⟨hh,rfl,λ_ _=>rfl⟩) λ_ j d hh=>.inl ⟨hh,rfl,λ_ _=>rfl⟩
 exact⟨m',s,hl⟩
omit [rB β]in
theorem O1:∀(os:List Oper) (pb:ij) (n:Nat) {K:List (Nat×Nat)->ij->Option β},FE os pb n K=some q->∃av pb',K av pb'=some q/\∃l:ij,pb'=pb++l/\∀x∈l,x=none
 |[],pb,n,K,h=>⟨[],pb,h,[],by simp,by simp⟩
 |o::os,pb,n,K,h=>by
  have push:∀(K':List (Nat×Nat)->ij->Option β),FE os (pb++[none]) (n+1) K'=some q->(∃av pb',K' av pb'=some q/\∃l:ij,pb'=pb++l/\∀x∈l,x=none):=λK' h'=>by obtain⟨av,pb',h1,l,h2,h3⟩:=O1 os _ _ h';exact⟨av,pb',h1,none::l,by rw[h2];simp,λx hx=>(aF.1 hx).elim id (h3 x)⟩
  simp only[FE]at h;split at h
  .rw[rL]at h;obtain⟨av,pb',h1,h2⟩:=push _ h;rw[yi]at h1;exact⟨_,pb',h1,h2⟩
  .rw[rL]at h;obtain⟨av,pb',h1,h2⟩:=push _ h;rw[yi]at h1;exact⟨_,pb',h1,h2⟩
  .exact O1 os pb n h
theorem KR:∀{ops:List Oper} {i:Nat},Ja ops i=ops[i]?
 |[],i=>by simp[Ja]
 |o::os,0=>rfl
 |o::os,i+1=>by simp only[Ja,fy];exact KR
theorem MY:∀{ops:List Oper} {i:Nat} {o:Oper},ops[i]?=some o->∀d∈anK o,d∈QY ops
 |[],i,o,h=>by simp at h
 |p::ops,i,o,h=>by
  intro d hd;simp only[QY,aT];cases i with
  |zero=>simp at h;subst h;exact .inl hd
  |succ i=>exact .inr (MY (by simpa using h) d hd)
end
section
variable {P : Program} {T : List TI} {V : World} {U0 L : Nat -> Prop} {al : Nat -> Bool} {β : Type} [rB β] {q : β} {K : DK β} {C : GK} {av : List (Nat × Nat)} {ops : Array Oper} {Ia : List Nat} {sn : Nat -> Bool}
  {B0 : Nat -> Nat} {A0 : zx} {pb0 : ij} {rw0 : List DR} {a0 : Act} {w0 : World}
def QD(V:World)(U0 L:Nat->Prop)(al:Nat->Bool)(B0:Nat->Nat)(A0:zx)(pb0:ij)(rw0:List DR)(w0:World)(a0:Act)(K:DK β)(q:β)(ops:Array Oper):Exit->Act->World->Prop:=λe a' w'=>match e with
 | .normal=>o6 V U0 L al B0 A0 pb0 rw0 w0 a0 K q a' w'/\fe (QY ops.toList) a0 a'
 |_=>False
def SD(al:Nat->Bool)(B0:Nat->Nat)(A0:zx)(pb0:ij)(rw0:List DR)(w0:World):World->Prop:=λw'=>∀b,b<w0.heap.size->¬Wr al B0 A0 pb0 rw0 b->w'.heap[b]?=w0.heap[b]?
structure At0(al:Nat->Bool)(ops:Array Oper)(B0:Nat->Nat)(A0:zx)(pb0:ij)(rw0:List DR)(w0:World)(a0:Act)(ph:Bool)(B:Nat->Nat)(A:zx)(pb:ij)(rw:List DR)(w:World)(a:Act):Prop where
 ext:Ext al B0 A0 pb0 rw0 w0 B A pb rw w
 out:fe (QY ops.toList) a0 a
 df:a.defers=a0.defers
 ph0:ph=false->B=B0/\A=A0/\pb=pb0/\rw=rw0/\w=w0
omit [rB β]in
theorem awp(hT:dP P T)(wX:∀i,live pb0 i->Bp i Ia=false->al i=false)(RU:∀i,sn i=true->live pb0 i/\al i=false){ph:Bool}{B:Nat->Nat}{A:zx}{ts:List DV}{pb:ij}{rw:List DR}{a:Act}{w:World}{o:Oper}{ret:DV->Option β}
 (h:rdE aj T Ia sn ph o ts pb rw ret=some q) (m0:Mem V U0 L B0 A0 pb0 rw0 w0) (m:Mem V U0 L B A pb rw w) (cH:hL (env U0 B A pb rw w) ts a.tmps.toList) (s:At0 al ops B0 A0 pb0 rw0 w0 a0 ph B A pb rw w a):
 ∃r v,ret r=some q/\r.h (env U0 B A pb rw w) v/\∀w',SD al B0 A0 pb0 rw0 w0 w'->(execOp a.eval o).run P w'=.ok (.value v) w':=by
 have still:∀b,b<w0.heap.size->¬Wr al B0 A0 pb0 rw0 b->∀w',SD al B0 A0 pb0 rw0 w0 w'->w'.heap[b]?=w.heap[b]?:=λb hb hn w' hs=>by rw[hs b hb hn,s.ext.fr b hb hn]
 have own:∀i,live pb0 i->al i=false->B i<w0.heap.size/\¬Wr al B0 A0 pb0 rw0 (B i):=λi hl ha=>by
  have hb:=(s.ext.bx i hl).2;have u9:iK B0 A0 pb0 rw0 false i (B i):=⟨hl,hb.symm⟩;refine⟨(m0.low _ _ _ u9).1,?_⟩;rintro(⟨i',h1,h2⟩|⟨j,h2⟩)
  .have:=(m0.inj _ _ _ _ _ u9 h2).2;subst this;rw[ha]at h1;cases h1
  .have:=(m0.inj _ _ _ _ _ u9 h2).1;cases this
 unfold rdE at h;split at h
 .rename_i t x ho
  have fin:∀(p:DV),wO ts x=some p->P5 aj T t p pb rw ret=some q->(∀ad:Addr,a.eval x=.pointer (some ad)->((∃i off,p=.own i off/\iK B A pb rw false i ad.block)\/(∃t x off,p=.el t x off/\¬Us U0 B A pb rw ad.block/\ad.block<w.heap.size)\/(∃j i off,p=.re j i off)\/∃l k,p=.fp l k)->ad.block<w0.heap.size/\¬Wr al B0 A0 pb0 rw0 ad.block)->
   ∃r v,ret r=some q/\r.h (env U0 B A pb rw w) v/\∀w',SD al B0 A0 pb0 rw0 w0 w'->(execOp a.eval o).run P w'=.ok (.value v) w':=by
   intro p hp hl hbk;obtain⟨r,u,ad,hv,h1,h2,h3,h4⟩:=MP hT m hl (gD hp cH);obtain⟨g1,g2⟩:=hbk ad hv h4;exact⟨r,u,h1,h2,λw' hs=>by rw[Tu ho,h3 w' (still _ g1 g2 w' hs)];rfl⟩
  split at h
  .obtain⟨p,hp,h⟩:=xB h;split at h
   .rename_i haw;obtain⟨rfl,rfl,rfl,rfl,rfl⟩:=s.ph0 rfl;refine fin p hp h λad hv hc=>?_
    rcases hc with⟨i,off,rfl,u9⟩|⟨t',x',off,rfl,hn,hlt⟩|⟨j,i,off,rfl⟩|⟨l,k,rfl⟩
    .have hi:Bp i Ia=false:=by
      simp only[ahS]at haw;split at haw
      .assumption
      .cases haw
     have:=own i u9.1 (wX i u9.1 hi);rw[u9.2]at this;exact this
    .refine⟨hlt,?_⟩;rintro(⟨i,_,hb⟩|⟨j,hb⟩)
     .exact hn (.inr ⟨_,i,hb⟩)
     .exact hn (.inr ⟨_,j,hb⟩)
    .simp[ahS]at haw
    .simp[ahS]at haw
   .cases h
  .obtain⟨p,hp,h⟩:=xB h;split at h
   .rename_i hse;refine fin p hp h λad hv hc=>?_
    rcases hc with⟨i,off,rfl,u9⟩|⟨t',x',off,rfl,hn,_⟩|⟨j,i,off,rfl⟩|⟨l,k,rfl⟩
    .obtain⟨g1,g2⟩:=RU i hse;have:=own i g1 g2;rw[u9.2]at this;exact this
    .simp[ahT]at hse
    .simp[ahT]at hse
    .simp[ahT]at hse
   .cases h
 .obtain⟨r,v,h1,h2,h3⟩:=ZA hT rfl cH rfl m.aic h;exact⟨r,v,h1,h2,λw' _=>h3 w'⟩
theorem tA(hT:dP P T)(hC:Et P C){i n:Nat}{ph:Bool}{Lk:Array Bool}{B:Nat->Nat}{A:zx}{ts:List DV}{pb:ij}{rw:List DR}{a:Act}{w:World}{o:Oper}{k:DK β}(hi:ops[i]?=some o)
 (h:Gk aj T C al av ops.toList o ts pb rw k=some q) (m:Mem V U0 L B A pb rw w) (cH:hL (env U0 B A pb rw w) ts a.tmps.toList) (s:At0 al ops B0 A0 pb0 rw0 w0 a0 ph B A pb rw w a)
 (hk:∀B A ts pb rw a w,k ts pb rw=some q->Mem V U0 L B A pb rw w->hL (env U0 B A pb rw w) ts a.tmps.toList->At0 al ops B0 A0 pb0 rw0 w0 a0 true B A pb rw w a->wpAnyH P .any ops (QD V U0 L al B0 A0 pb0 rw0 w0 a0 K q ops) (SD al B0 A0 pb0 rw0 w0) n (Lk.setIfInBounds i true) a w):
 wpOp P ops (QD V U0 L al B0 A0 pb0 rw0 w0 a0 K q ops) i (λa' w'=>SD al B0 A0 pb0 rw0 w0 w'/\wpAnyH P .any ops (QD V U0 L al B0 A0 pb0 rw0 w0 a0 K q ops) (SD al B0 A0 pb0 rw0 w0) n (Lk.setIfInBounds i true) a' w') a w:=by
 have KI:=MY (ops:=ops.toList) (i:=i) (o:=o) (by simpa using hi)
 have go:∀ts,hL (env U0 B A pb rw w) ts a.tmps.toList->Region.wanted o (yielded ops a.tmps)=true->TB aj T C al av o ts pb rw k=some q->
  wpOp P ops (QD V U0 L al B0 A0 pb0 rw0 w0 a0 K q ops) i (λa' w'=>SD al B0 A0 pb0 rw0 w0 w'/\wpAnyH P .any ops (QD V U0 L al B0 A0 pb0 rw0 w0 a0 K q ops) (SD al B0 A0 pb0 rw0 w0) n (Lk.setIfInBounds i true) a' w') a w:=by
  intro ts cH hwt h;unfold Go.wpOp;simp only[hi,hwt,sR];refine .inl (Oper.wp_mono (λa' w' hn=>?_) (ao6 (T4 (al:=al) hT hC h m cH)));obtain⟨⟨B',A',pe,pb',rw',m',h1,h2,h3,e⟩,zB⟩:=hn;have e':=s.ext.trans e;exact⟨λb hb Xe=>e'.fr b hb Xe,hk B' A' pe pb' rw' a' w' h2 m' h1 ⟨e',s.out.trans (zB.mono KI),h3.trans s.df,λh=>by cases h⟩⟩
 have skip:∀ts,hL (env U0 B A pb rw w) ts a.tmps.toList->Region.wanted o (yielded ops a.tmps)=false->jw o.dst .OJ ts pb rw k=some q->
  wpOp P ops (QD V U0 L al B0 A0 pb0 rw0 w0 a0 K q ops) i (λa' w'=>SD al B0 A0 pb0 rw0 w0 w'/\wpAnyH P .any ops (QD V U0 L al B0 A0 pb0 rw0 w0 a0 K q ops) (SD al B0 A0 pb0 rw0 w0) n (Lk.setIfInBounds i true) a' w') a w:=by
  intro ts cH hwt h;obtain⟨pe,h1,h2,h3⟩:=OU h cH (x:=.OJ) (v:=undef) (by simp only[DV.h]);unfold Go.wpOp;simp only[hi,hwt,fb,oG];exact⟨λb hb Xe=>s.ext.fr b hb Xe,hk B A pe pb rw _ w h1 m h2 ⟨s.ext,s.out.trans ((fe.put a o undef).mono KI),h3.trans s.df,λh=>by cases h⟩⟩
 unfold Gk at h;split at h
 .rename_i hg;exact go ts cH (by simp[Region.wanted,hg]) h
 .rename_i j want hg;obtain⟨pe,hr,hc⟩:=OY h cH;have hw:Region.wanted o (yielded ops a.tmps)=(yielded ops a.tmps j==some want):=by simp[Region.wanted,hg]
  rcases hc with⟨hy,hc⟩|⟨hy,hc⟩
  .exact go pe hr (by rw[hw,hy];simp) hc
  .exact skip pe hr (by rw[hw];simpa using hy) hc
theorem vK(hT:dP P T)(hC:Et P C)(hns:Region.noSelect ops=true)(wX:∀i,live pb0 i->Bp i Ia=false->al i=false)(RU:∀i,sn i=true->live pb0 i/\al i=false)(m0:Mem V U0 L B0 A0 pb0 rw0 w0):
 ∀(t:OT) (n:Nat) (Lk:Array Bool) (ph:Bool) (B:Nat->Nat) (A:zx) (ts:List DV) (pb:ij) (rw:List DR) (a:Act) (w:World),uS ops n t Lk=true->QZ aj T C al av Ia sn ops.toList ph t ts pb rw K=some q->Mem V U0 L B A pb rw w->hL (env U0 B A pb rw w) ts a.tmps.toList->At0 al ops B0 A0 pb0 rw0 w0 a0 ph B A pb rw w a->wpAnyH P .any ops (QD V U0 L al B0 A0 pb0 rw0 w0 a0 K q ops) (SD al B0 A0 pb0 rw0 w0) n Lk a w
 | .nil,n,Lk,ph,B,A,ts,pb,rw,a,w,oM,h,m,cH,s=>by
  have oM:(Region.ready .any ops Lk).isEmpty=true:=by cases n<;>simpa[uS]using oM
  simp only[xW]at oM;simp only[QZ]at h;exact wpAnyH_done oM ⟨⟨B,A,ts,pb,rw,m,cH,h,s.df,s.ext⟩,s.out⟩ _
 | .rd i t,0,Lk,ph,B,A,ts,pb,rw,a,w,oM,h,m,cH,s=>by simp[uS]at oM
 | .er i D t,0,Lk,ph,B,A,ts,pb,rw,a,w,oM,h,m,cH,s=>by simp[uS]at oM
 | .op i t,0,Lk,ph,B,A,ts,pb,rw,a,w,oM,h,m,cH,s=>by simp[uS]at oM
 | .two i j ti tj,0,Lk,ph,B,A,ts,pb,rw,a,w,oM,h,m,cH,s=>by simp[uS]at oM
 | .three i j k ti tj tk,0,Lk,ph,B,A,ts,pb,rw,a,w,oM,h,m,cH,s=>by simp[uS]at oM
 | .four i j k l ti tj tk tl,0,Lk,ph,B,A,ts,pb,rw,a,w,oM,h,m,cH,s=>by simp[uS]at oM
 | .rd i t,n+1,Lk,ph,B,A,ts,pb,rw,a,w,oM,h,m,cH,s=>by
  simp only[uS,aB]at oM;simp only[QZ]at h;split at h
  .rename_i o hi;rw[KR]at hi;have hi:ops[i]?=some o:=by simpa using hi
   have KI:=MY (ops:=ops.toList) (i:=i) (o:=o) (by simpa using hi);have hS:SD al B0 A0 pb0 rw0 w0 w:=λb hb Xe=>s.ext.fr b hb Xe
   have go:∀ts,hL (env U0 B A pb rw w) ts a.tmps.toList->Region.wanted o (yielded ops a.tmps)=true->(rdE aj T Ia sn ph o ts pb rw λx=>jw o.dst x ts pb rw λts pb rw=>QZ aj T C al av Ia sn ops.toList ph t ts pb rw K)=some q->wpAnyH P .any ops (QD V U0 L al B0 A0 pb0 rw0 w0 a0 K q ops) (SD al B0 A0 pb0 rw0 w0) (n+1) Lk a w:=by intro ts cH hwt h;obtain⟨r,v,h1,h2,h3⟩:=awp hT wX RU h m0 m cH s;obtain⟨pe,g1,g2,g3⟩:=OU h1 cH h2;refine wpAnyH_take hi hns oM.1.1 oM.1.2 (λc a w hq=>hq) (.inl ⟨hwt,λw' hs=>h3 w' hs⟩) hS ?_;exact vK hT hC hns wX RU m0 t n _ ph B A pe pb rw _ w oM.2 g1 m g2 ⟨s.ext,s.out.trans ((fe.put a o v).mono KI),g3.trans s.df,s.ph0⟩
   have skip:∀ts,hL (env U0 B A pb rw w) ts a.tmps.toList->Region.wanted o (yielded ops a.tmps)=false->(jw o.dst .OJ ts pb rw λts pb rw=>QZ aj T C al av Ia sn ops.toList ph t ts pb rw K)=some q->wpAnyH P .any ops (QD V U0 L al B0 A0 pb0 rw0 w0 a0 K q ops) (SD al B0 A0 pb0 rw0 w0) (n+1) Lk a w:=by intro ts cH hwt h;obtain⟨pe,g1,g2,g3⟩:=OU h cH (x:=.OJ) (v:=undef) (by simp only[DV.h]);exact wpAnyH_take hi hns oM.1.1 oM.1.2 (λc a w hq=>hq) (.inr ⟨hwt,rfl⟩) hS (vK hT hC hns wX RU m0 t n _ ph B A pe pb rw _ w oM.2 g1 m g2 ⟨s.ext,s.out.trans ((fe.put a o undef).mono KI),g3.trans s.df,s.ph0⟩)
   split at h
   .rename_i hg;exact go ts cH (by simp[Region.wanted,hg]) h
   .rename_i j want hg;obtain⟨pe,hr,hc⟩:=OY h cH;have hw:Region.wanted o (yielded ops a.tmps)=(yielded ops a.tmps j==some want):=by simp[Region.wanted,hg]
    rcases hc with⟨hy,hc⟩|⟨hy,hc⟩
    .exact go pe hr (by rw[hw,hy];simp) hc
    .exact skip pe hr (by rw[hw];simpa using hy) hc
  .cases h
 | .er i D t,n+1,Lk,ph,B,A,ts,pb,rw,a,w,oM,h,m,cH,s=>by
  simp only[uS,aB]at oM;simp only[QZ]at h;split at h
  .rename_i o hi;rw[KR]at hi;have hi:ops[i]?=some o:=by simpa using hi
   have KI:=MY (ops:=ops.toList) (i:=i) (o:=o) (by simpa using hi);have hS:SD al B0 A0 pb0 rw0 w0 w:=λb hb Xe=>s.ext.fr b hb Xe
   split at h
   .rename_i ty x hg ho;obtain⟨p,hp,h⟩:=xB h;obtain⟨r,u,ad,hv,h1,h2,h3,_⟩:=MP hT m h (gD hp cH);obtain⟨pe,g1,g2,g3⟩:=OU h1 cH h2;obtain⟨e1,e2,e3,e4⟩:=ao8 oM.1.2;refine ZP hi hns (λc a w hq=>hq) e3 hS n Lk a e2 e4 (Region.free_spec hi oM.1.1.1) e1 (by simpa using oM.1.1.2) (v:=u) (.inl ⟨by simp[Region.wanted,hg],λw' hw=>by rw[hw,Tu ho,h3 w rfl];rfl⟩) ?_;exact vK hT hC hns wX RU m0 t n _ false B A pe pb rw _ w oM.2 g1 m g2 ⟨s.ext,s.out.trans ((fe.put a o u).mono KI),g3.trans s.df,s.ph0⟩
   .cases h
  .cases h
 | .op i t,n+1,Lk,ph,B,A,ts,pb,rw,a,w,oM,h,m,cH,s=>by
  simp only[uS,aB,fP]at oM;simp only[QZ]at h;split at h
  .rename_i o hi;rw[KR]at hi;have hi:ops[i]?=some o:=by simpa using hi
   refine wpAnyH_all oM.1 (by simp) λj hj=>?_
   rw[aC.1 hj];exact tA hT hC hi h m cH s λB A ts pb rw a w hk m cH s=>vK hT hC hns wX RU m0 t n _ true B A ts pb rw a w oM.2 hk m cH s
  .cases h
 | .two i j ti tj,n+1,Lk,ph,B,A,ts,pb,rw,a,w,oM,h,m,cH,s=>by
  simp only[uS,aB,fP]at oM;simp only[QZ]at h;split at h
  .rename_i o o' hi hj;rw[KR]at hi hj;have hi:ops[i]?=some o:=by simpa using hi
   have hj:ops[j]?=some o':=by simpa using hj
   obtain⟨ha,hb⟩:=KK h;refine wpAnyH_all oM.1.1 (by simp) λk hk=>?_
   simp only[aF,dV,lO]at hk;rcases hk with rfl|rfl
   .exact tA hT hC hi ha m cH s λB A ts pb rw a w hk m cH s=>vK hT hC hns wX RU m0 ti n _ true B A ts pb rw a w oM.1.2 hk m cH s
   .exact tA hT hC hj hb m cH s λB A ts pb rw a w hk m cH s=>vK hT hC hns wX RU m0 tj n _ true B A ts pb rw a w oM.2 hk m cH s
  .cases h
 | .three i j k ti tj tk,n+1,Lk,ph,B,A,ts,pb,rw,a,w,oM,h,m,cH,s=>by
  simp only[uS,aB,fP]at oM;simp only[QZ]at h;split at h
  .rename_i o o' o2 hi hj hk;rw[KR]at hi hj hk;have hi:ops[i]?=some o:=by simpa using hi
   have hj:ops[j]?=some o':=by simpa using hj
   have hk:ops[k]?=some o2:=by simpa using hk
   obtain⟨ha,hb⟩:=KK h;obtain⟨hb,hc⟩:=KK hb;refine wpAnyH_all oM.1.1.1 (by simp) λl hl=>?_
   simp only[aF,dV,lO]at hl;rcases hl with rfl|rfl|rfl
   .exact tA hT hC hi ha m cH s λB A ts pb rw a w hk m cH s=>vK hT hC hns wX RU m0 ti n _ true B A ts pb rw a w oM.1.1.2 hk m cH s
   .exact tA hT hC hj hb m cH s λB A ts pb rw a w hk m cH s=>vK hT hC hns wX RU m0 tj n _ true B A ts pb rw a w oM.1.2 hk m cH s
   .exact tA hT hC hk hc m cH s λB A ts pb rw a w hk m cH s=>vK hT hC hns wX RU m0 tk n _ true B A ts pb rw a w oM.2 hk m cH s
  .cases h
 | .four i j k l ti tj tk tl,n+1,Lk,ph,B,A,ts,pb,rw,a,w,oM,h,m,cH,s=>by
  simp only[uS,aB,fP]at oM;simp only[QZ]at h;split at h
  .rename_i o o' o2 o3 hi hj hk hl;rw[KR]at hi hj hk hl;have hi:ops[i]?=some o:=by simpa using hi
   have hj:ops[j]?=some o':=by simpa using hj
   have hk:ops[k]?=some o2:=by simpa using hk
   have hl:ops[l]?=some o3:=by simpa using hl
   obtain⟨ha,hb⟩:=KK h;obtain⟨hb,hc⟩:=KK hb;obtain⟨hc,hd⟩:=KK hc;refine wpAnyH_all oM.1.1.1.1 (by simp) λx hx=>?_
   simp only[aF,dV,lO]at hx;rcases hx with rfl|rfl|rfl|rfl
   .exact tA hT hC hi ha m cH s λB A ts pb rw a w hk m cH s=>vK hT hC hns wX RU m0 ti n _ true B A ts pb rw a w oM.1.1.1.2 hk m cH s
   .exact tA hT hC hj hb m cH s λB A ts pb rw a w hk m cH s=>vK hT hC hns wX RU m0 tj n _ true B A ts pb rw a w oM.1.1.2 hk m cH s
   .exact tA hT hC hk hc m cH s λB A ts pb rw a w hk m cH s=>vK hT hC hns wX RU m0 tk n _ true B A ts pb rw a w oM.1.2 hk m cH s
   .exact tA hT hC hl hd m cH s λB A ts pb rw a w hk m cH s=>vK hT hC hns wX RU m0 tl n _ true B A ts pb rw a w oM.2 hk m cH s
  .cases h
end
section
variable {P : Program} {T : List TI} {V : World} {U0 L : Nat -> Prop} {B : Nat -> Nat} {A : zx} {ts : List DV} {pb : ij} {rw : List DR} {a : Act} {w : World} {β : Type} [rB β] {q : β} {K : DK β} {Q : Exit -> Act -> World -> Prop} {C : GK}
theorem ao9:∀{pb:ij} {i:Nat},af1 pb i=true->live pb i
 |[],i,h=>by simp[af1]at h
 |o::pb,0,h=>by
  cases o with
  |none=>simp[af1]at h
  |some b=>exact⟨b,rfl⟩
 |o::pb,i+1,h=>by obtain⟨b,hb⟩:=ao9 (pb:=pb) (i:=i) (by simpa[af1]using h);exact⟨b,by simpa using hb⟩
theorem aoA{Ia}{n i}(hi:i<n)(hm:Bp i Ia=false):arM Ia n i=false:=by
 unfold arM;rw[hm];cases h:Nat.ble n i with
 |false=>rfl
 |true=>have:=bQ h;omega
theorem aip{pb}{i}(h:live pb i):i<pb.length:=let ⟨_,h⟩:=h;(ay.1 h).1
theorem BC:∀(L:List Bool) (i:Nat) (K:List Bool->Bool),Bv L i K=K (L.set i true)
 |[],_,_=>rfl
 |_::_,0,_=>rfl
 |b::l,i+1,K=>by simp only[Bv,BC l i,Cj]
theorem EE{ops}:∀(t:OT) (n:Nat) (L:List Bool),OO ops n t L=true->uS ops n t L.toArray=true
 | .nil,n,L,h=>by cases n<;>simpa[uS,OO]using h
 | .rd i t,0,L,h=>by simp[OO]at h
 | .er i D t,0,L,h=>by simp[OO]at h
 | .op i t,0,L,h=>by simp[OO]at h
 | .two ..,0,L,h=>by simp[OO]at h
 | .three ..,0,L,h=>by simp[OO]at h
 | .four ..,0,L,h=>by simp[OO]at h
 | .rd i t,n+1,L,h=>by simp only[OO,aB,BC]at h;simp only[uS,aB,fw];exact⟨h.1,EE t n _ h.2⟩
 | .er i D t,n+1,L,h=>by simp only[OO,aB,BC]at h;simp only[uS,aB,fw];exact⟨h.1,EE t n _ h.2⟩
 | .op i t,n+1,L,h=>by simp only[OO,aB,BC]at h;simp only[uS,aB,fw];exact⟨h.1,EE t n _ h.2⟩
 | .two i j ti tj,n+1,L,h=>by simp only[OO,aB,BC]at h;simp only[uS,aB,fw];exact⟨⟨h.1.1,EE ti n _ h.1.2⟩,EE tj n _ h.2⟩
 | .three i j k ti tj tk,n+1,L,h=>by simp only[OO,aB,BC]at h;simp only[uS,aB,fw];exact⟨⟨⟨h.1.1.1,EE ti n _ h.1.1.2⟩,EE tj n _ h.1.2⟩,EE tk n _ h.2⟩
 | .four i j k l ti tj tk tl,n+1,L,h=>by simp only[OO,aB,BC]at h;simp only[uS,aB,fw];exact⟨⟨⟨⟨h.1.1.1.1,EE ti n _ h.1.1.1.2⟩,EE tj n _ h.1.1.2⟩,EE tk n _ h.1.2⟩,EE tl n _ h.2⟩
theorem aoB(hT:dP P T)(hC:Et P C)(hm:P.follows .mixedOrders=true){O}{id}{ops:Array Oper}(h:anL aj T C O id ops ts pb rw K=some q)(m:Mem V U0 L B A pb rw w)(cH:hL (env U0 B A pb rw w) ts a.tmps.toList)
 (hQ:∀a' w',Nx V U0 L B pb a K q a' w'->fe (QY ops.toList) a a'->Q .normal a' w'):(Code.region id ops true).wp P Q a w:=by
 unfold anL at h;split at h
 .rename_i Ia t htr;split at h
  .rename_i oM;simp only[aB]at oM
   have oM:Region.noSelect ops=true/\uS ops ops.size t (Array.replicate ops.size false)=true:=⟨oM.1,by
    have:=EE t _ _ oM.2;have e:(ops.toList.map λ_=>false).toArray=Array.replicate ops.size false:=by apply fQ;show ops.toList.map (λ_=>false)=List.replicate ops.size false;rw[List.map_const',fC]
    rwa [e]at this⟩
   rw[yi]at h;obtain⟨av,pb',h,l,hl,My⟩:=O1 _ _ _ h
   have hp:∀(i:Nat) (b:DB),pb'[i]?=some (some b)↔pb[i]?=some (some b):=by
    intro i b;subst hl;rcases dS i pb.length with hi|hi
    .rw[bB hi]
    .rw[dz hi];constructor
     .intro hx;have:=My _ (kN hx);cases this
     .intro hx;have:=(ay.1 hx).1;omega
   obtain⟨m1,s1,_⟩:=m.world (al:=λ_=>true) (w':={ w with drawn:=w.drawn+1 }) ⟨rfl,rfl,rfl,au _⟩ (λ_ _=>rfl);obtain⟨m2,s2,Ez⟩:=m1.places hp;have acK:=nS s2 (nS s1 cH);have hlt:∀i,live pb' i->i<pb.length:=λi hi=>aip ((Ez i).1 hi)
   have:=vK (al:=arM Ia pb.length) (Ia:=Ia) (sn:=avR Ia (af1 pb)) (K:=K) (q:=q) hT hC oM.1 (λi hi hmi=>aoA (hlt i hi) hmi) (λi hi=>by
    unfold avR at hi;split at hi
    .cases hi
    .rename_i hmi;have hli:=(Ez i).2 (ao9 hi);exact⟨hli,aoA (hlt i hli) hmi⟩) m2 t _ _ false B A ts pb' rw a _ oM.2 h m2 acK ⟨Ext.refl,fe.refl _ _,rfl,λ_=>⟨rfl,rfl,rfl,rfl,rfl⟩⟩
   refine sS (wp_region_held hm this) λe a' w' hq=>?_
   cases e with
   |normal=>obtain⟨hn,zB⟩:=hq;obtain⟨B',A',pe,iy,rw',m',h1,h2,h3,h4⟩:=hn.nx;exact hQ _ _ ⟨B',A',pe,iy,rw',m',h1,h2,h3,λi hi=>h4 i ((Ez i).2 hi)⟩ zB
   |_=>exact hq.elim
  .cases h
 .cases h
end
theorem Hr:∀{pb:ij} {i:Nat} {b:DB},(qW pb)[i]?=some (some b)↔∃b0,pb[i]?=some (some b0)/\b=⟨b0.ty,b0.cells,false⟩
 |[],i,b=>by simp[qW]
 |some b0::pb,0,b=>by simp only[qW,ie,ak];exact⟨λh=>⟨b0,rfl,h.symm⟩,λ⟨b1,h1,h2⟩=>by subst h1;exact h2.symm⟩
 |none::pb,0,b=>by simp[qW]
 |some b0::pb,i+1,b=>by simp only[qW,fy];exact Hr
 |none::pb,i+1,b=>by simp only[qW,fy];exact Hr
theorem EF{pb}{i}:live (qW pb) i↔live pb i:=by
 constructor
 .rintro⟨b,h⟩;obtain⟨b0,h0,_⟩:=Hr.1 h;exact⟨b0,h0⟩
 .rintro⟨b,h⟩;exact⟨_,Hr.2 ⟨b,h,rfl⟩⟩
def flW(ps:ij)(i:Nat):Bool:=match ps[i]? with|some (some a)=>a.w|_=>true
theorem MZ:∀{pb ps:ij} {i:Nat} {b:DB},(Vt ps pb)[i]?=some (some b)↔∃b0,pb[i]?=some (some b0)/\b=⟨b0.ty,b0.cells,b0.w||flW ps i⟩
 |[],ps,i,b=>by simp[Vt]
 |none::pb,ps,0,b=>by simp[Vt]
 |some b0::pb,ps,0,b=>by
  simp only[Vt,ie,ak];cases ps with
  |nil=>exact⟨λh=>⟨b0,rfl,h.symm⟩,λ⟨b1,h1,h2⟩=>by subst h1;exact h2.symm⟩
  |cons p ps=>cases p<;>exact⟨λh=>⟨b0,rfl,h.symm⟩,λ⟨b1,h1,h2⟩=>by subst h1;exact h2.symm⟩
 |none::pb,ps,i+1,b=>by
  simp only[Vt,fy];rw[MZ];have:flW ps.tail i=flW ps (i+1):=by cases ps<;>simp[flW]
  rw[this]
 |some b0::pb,ps,i+1,b=>by
  simp only[Vt,fy];rw[MZ];have:flW ps.tail i=flW ps (i+1):=by cases ps<;>simp[flW]
  rw[this]
theorem T7{pb ps}{i}:live (Vt ps pb) i↔live pb i:=by
 constructor
 .rintro⟨b,h⟩;obtain⟨b0,h0,_⟩:=MZ.1 h;exact⟨b0,h0⟩
 .rintro⟨b,h⟩;exact⟨_,MZ.2 ⟨b,h,rfl⟩⟩
section
variable {V : World} {U0 L Lx : Nat -> Prop} {B B' : Nat -> Nat} {A A' : zx} {pb pb' : ij} {rw rw' : List DR} {w w' : World}
theorem acL{E}{pb'}(hl:∀i,live pb' i↔live E.pb i)(hU:∀b,Us U0 E.B E.A pb' E.rw b->E.U b):Sub Ix E (env U0 E.B E.A pb' E.rw E.w):=⟨⟨λ_ _ _=>rfl,au _,λb _ h=>hU b h⟩,λi h=>⟨(hl i).2 h,rfl⟩,λj e t l _ h=>⟨l,h,rfl,rfl⟩,λj d _ h=>⟨⟨d,h,rfl⟩,rfl⟩,λj q e t l h=>(by cases h),λj q d ad h=>(by cases h)⟩
theorem tB(hl:∀i,live pb' i↔live pb i){k}{i b}:iK B A pb' rw k i b↔iK B A pb rw k i b:=by
 cases k with
 |true=>exact IY
 |false=>exact⟨λh=>⟨(hl i).1 h.1,h.2⟩,λh=>⟨(hl i).2 h.1,h.2⟩⟩
theorem aiq(hl:∀i,live pb' i↔live pb i){b}:Us U0 B A pb' rw b↔Us U0 B A pb rw b:=⟨λh=>h.imp id λ⟨k,i,h⟩=>⟨k,i,(tB hl).1 h⟩,λh=>h.imp id λ⟨k,i,h⟩=>⟨k,i,(tB hl).2 h⟩⟩
theorem Mem.anchor(m:Mem V U0 L B A pb rw w):Mem w U0 (Ow B A pb rw) B A (qW pb) rw w/\Sub Ix (env U0 B A pb rw w) (env U0 B A (qW pb) rw w):=by
 have hl:∀i,live (qW pb) i↔live pb i:=λi=>EF
 have s:=acL (U0:=U0) (E:=env U0 B A pb rw w) hl λb h=>(aiq hl).1 h
 refine⟨⟨rfl,rfl,rfl,au _,λ_ _ _=>rfl,λb hb=>⟨e8 (m.u0 b hb).1 m.size,λ⟨k,i,h⟩=>?_⟩,λk i b h=>?_,λk i k' i' b h h'=>m.inj _ _ _ _ _ ((tB hl).1 h) ((tB hl).1 h'),λi b h=>?_,λj e t l h=>?_,λj d h=>let ⟨b,o,g1,g2,g3⟩:=m.I9 j d h;⟨b,o,g1,g2,OD.mono s.Gl g3⟩⟩,s⟩
 .rcases(m.low k i b h).2 with g|g
  .have:=(m.u0 b hb).1;omega
  .exact(m.u0 b hb).2 g
 .have h:=(tB hl).1 h;exact⟨(m.low k i b h).1,.inr ⟨k,i,h⟩⟩
 .obtain⟨b0,h0,rfl⟩:=Hr.1 h;obtain⟨cs,h1,h2,_⟩:=m.box i b0 h0;exact⟨cs,h1,nS s h2,λ_=>⟨(cq.1 h1).1,rfl⟩⟩
 .obtain⟨xs,h1,h2⟩:=m.row j e t l h;exact⟨xs,h1,DT.kw s.Gl h2⟩
theorem Mem.ayO(m:Mem V U0 L B A pb rw w)(hL:∀b,Lx b↔Ow B A pb rw b)(mx:Mem w U0 Lx B' A' pb' rw' w'):∀k i b,iK B' A' pb' rw' k i b->b<w'.heap.size/\(V.heap.size<=b\/L b):=λk i b h=>⟨(mx.low k i b h).1,(mx.low k i b h).2.elim (λh=>.inl (cp m.size h)) λh=>let ⟨k,i,h⟩:=(hL b).1 h;(m.low k i b h).2⟩
theorem Mem.auB(m:Mem V U0 L B A pb rw w)(hL:∀b,Lx b↔Ow B A pb rw b)(mx:Mem w U0 Lx B' A' pb' rw' w'):∀b,b<V.heap.size->¬L b->w'.heap[b]?=V.heap[b]?:=λb hb hn=>by
 rw[mx.same b (e8 hb m.size) λh=>?_,m.same b hb hn];obtain⟨k,i,h⟩:=(hL b).1 h;rcases(m.low k i b h).2 with h|h
 .omega
 .exact hn h
theorem Mem.ayP(m:Mem V U0 L B A pb rw w)(hL:∀b,Lx b↔Ow B A pb rw b)(mx:Mem w U0 Lx B' A' pb' rw' w')(hb:∀i,live pb i->B' i=B i):Mem V U0 L B' A' (Vt pb pb') rw' w'/\Sub Ix (env U0 B' A' pb' rw' w') (env U0 B' A' (Vt pb pb') rw' w'):=by
 have hl:∀i,live (Vt pb pb') i↔live pb' i:=λi=>T7
 have s:=acL (U0:=U0) (E:=env U0 B' A' pb' rw' w') hl λb h=>(aiq hl).1 h
 refine⟨⟨mx.os.trans m.os,mx.tape.trans m.tape,mx.output.trans m.output,cp m.size mx.size,m.auB hL mx,m.u0,λk i b h=>m.ayO hL mx k i b ((tB hl).1 h),λk i k' i' b h h'=>mx.inj _ _ _ _ _ ((tB hl).1 h) ((tB hl).1 h'),λi b h=>?_,λj e t l h=>?_,λj d h=>let ⟨b,o,g1,g2,g3⟩:=mx.I9 j d h;⟨b,o,g1,g2,OD.mono s.Gl g3⟩⟩,s⟩
 .obtain⟨b0,h0,rfl⟩:=MZ.1 h;obtain⟨cs,h1,h2,h3⟩:=mx.box i b0 h0;refine⟨cs,h1,nS s h2,λhw=>?_⟩;simp only[oB]at hw;obtain⟨hw1,hw2⟩:=hw;obtain⟨g1,g2⟩:=h3 hw1;unfold flW at hw2;split at hw2
  .rename_i b1 hb1;obtain⟨cs1,_,_,h6⟩:=m.box i b1 hb1;obtain⟨g3,g4⟩:=h6 hw2;rw[hb i ⟨_,hb1⟩]at g2 ⊢;exact⟨g3,g2.trans g4⟩
  .cases hw2
 .obtain⟨xs,h1,h2⟩:=mx.row j e t l h;exact⟨xs,h1,DT.kw s.Gl h2⟩
end
section
variable {β : Type} {q : β}
theorem T8{l}:∀{n:Nat} {pb pb':ij},s8 l n pb pb'=true->∀i b,pb[i]?=some (some b)->∃b',pb'[i]?=some (some b')/\b.ty=b'.ty/\(Bp (n+i) l=true\/b'.w=false)
 |_,[],_,_,i,b,hi=>by simp at hi
 |n,none::pb,[],h,i,b,hi=>by simp[s8]at h
 |n,none::pb,p'::pb',h,i,b,hi=>by
  cases i with
  |zero=>simp at hi
  |succ i=>simp only[s8]at h;obtain⟨b',h1,h2,h3⟩:=T8 h i b (by simpa using hi);exact⟨b',by simpa using h1,h2,by rwa [show n+(i+1)=n+1+i by omega]⟩
 |n,some c::pb,[],h,i,b,hi=>by simp[s8]at h
 |n,some c::pb,none::pb',h,i,b,hi=>by simp[s8]at h
 |n,some c::pb,some c'::pb',h,i,b,hi=>by
  simp only[s8,aB,fI,jF]at h;obtain⟨⟨h1,h2⟩,h3⟩:=h;cases i with
  |zero=>simp at hi;subst hi;exact⟨c',rfl,aE h1,h2⟩
  |succ i=>obtain⟨b',g1,g2,g3⟩:=T8 h3 i b (by simpa using hi);exact⟨b',by simpa using g1,g2,by rwa [show n+(i+1)=n+1+i by omega]⟩
theorem KV{l}:∀{n:Nat} {pb pb':ij},s8 l n (qW pb) pb'=s8 l n pb pb'
 |_,[],_=>rfl
 |n,none::pb,[]=>by simp only[qW,s8]
 |n,none::pb,p'::pb'=>by simp only[qW,s8];exact KV
 |n,some c::pb,[]=>by simp only[qW,s8]
 |n,some c::pb,none::pb'=>by simp only[qW,s8]
 |n,some c::pb,some c'::pb'=>by simp only[qW,s8];rw[KV]
theorem acM{j}{pb pb'}{ts}{rw}{k:j.T.den->Option β}:TK j (qW pb) ts pb' rw k=TK j pb ts pb' rw k:=by unfold TK;rw[KV]
theorem afE{E}{ts}{us}(cH:hL E ts us):∀{ns:List Nat} {vs:List DV},anO ts ns=some vs->hL E vs (ns.map λn=>(us[n]?).getD undef)
 |[],vs,h=>by simp only[anO,ak]at h;subst h;simp[hL]
 |n::ns,vs,h=>by
  simp only[anO]at h;split at h
  .rename_i v Cz h1 h2;simp only[ak]at h;subst h;simp only[bK,hL];exact⟨_,_,rfl,MN h1 cH,afE cH h2⟩
  .cases h
structure RoS(ro:List RKd)(rs rw:List DR):Prop where
 own:∀(n:Nat) (e:TypeId) (t:DT) (l:List t.den),rs[n]?=some (DR.own e t l)->rw[n]?=some (DR.own e t l)\/(l=[]/\(rw[n]?=none\/rw[n]?=some DR.dead))
 I9:∀(n:Nat) (d:OD),rs[n]?=some (DR.obj d)->∃d',rw[n]?=some (DR.obj d')/\d.rz=d'.rz/\∀U w o,d'.h U w o->d.h U w o
 isO:∀n:Nat,roN ro n=true->∃(e:TypeId) (t:DT) (l:List t.den),rs[n]?=some (DR.own e t l)
 isI:∀n:Nat,roI ro n=true->∃d:OD,rs[n]?=some (DR.obj d)
theorem auC:∀{ro:List RKd} {rw:List DR} {y:(roT ro).den},roX ro rw=some y->RoS ro (TF ro y) rw
 |[],rw,y,h=>⟨λn e t l h=>by simp[TF]at h,λn d h=>by simp[TF]at h,λn h=>by simp[roN]at h,λn h=>by simp[roI]at h⟩
 |k::ro,rw,y,h=>by
  have up:∀{r:DR} {y':(roT ro).den},roX ro rw.tail=some y'->TF (k::ro) y=r::TF ro y'->
   (∀(e:TypeId) (t:DT) (l:List t.den),r=DR.own e t l->rw[0]?=some (DR.own e t l)\/(l=[]/\(rw[0]?=none\/rw[0]?=some DR.dead)))->(∀d:OD,r=DR.obj d->∃d',rw[0]?=some (DR.obj d')/\d.rz=d'.rz/\∀U w o,d'.h U w o->d.h U w o)->(roN (k::ro) 0=true->∃(e:TypeId) (t:DT) (l:List t.den),r=DR.own e t l)->(roI (k::ro) 0=true->∃d:OD,r=DR.obj d)->
   RoS (k::ro) (TF (k::ro) y) rw:=by
   intro r y' hy he h1 h2 h3 h4;obtain⟨g1,g2,g3,g4⟩:=auC hy;have ht:∀n,rw.tail[n]?=rw[n+1]?:=λn=>by cases rw<;>simp
   rw[he];refine⟨λn e t l hn=>?_,λn d hn=>?_,λn hn=>?_,λn hn=>?_⟩
   .cases n with
    |zero=>simp at hn;exact h1 e t l hn
    |succ n=>have:=g1 n e t l (by simpa using hn);rwa [ht]at this
   .cases n with
    |zero=>simp at hn;exact h2 d hn
    |succ n=>have:=g2 n d (by simpa using hn);rwa [ht]at this
   .cases n with
    |zero=>obtain⟨e,t,l,rfl⟩:=h3 hn;exact⟨e,t,l,rfl⟩
    |succ n=>obtain⟨e,t,l,h⟩:=g3 n (by simpa[roN]using hn);exact⟨e,t,l,by simpa using h⟩
   .cases n with
    |zero=>obtain⟨d,rfl⟩:=h4 hn;exact⟨d,rfl⟩
    |succ n=>obtain⟨d,h⟩:=g4 n (by simpa[roI]using hn);exact⟨d,by simpa using h⟩
  cases k with
  |own e t=>
   unfold roX at h;split at h
   .rename_i e' t' xs rw';split at h
    .rename_i ht y1 he hq hy;have h:=cJ h;subst h;subst ht;have he:=aE he;subst he;exact up hy rfl (λe2 t2 l2 h=>.inl (by rw[<-h];rfl)) (λ_ h=>by cases h) (λ_=>⟨_,_,_,rfl⟩) (λh=>by simp[roI]at h)
    .cases h
   .cases h
   .split at h
    .rename_i hy;have h:=cJ h;subst h;exact up hy rfl (λe2 t2 l2 h=>.inr ⟨by cases h;rfl,.inr rfl⟩) (λ_ h=>by cases h) (λ_=>⟨_,_,_,rfl⟩) (λh=>by simp[roI]at h)
    .cases h
   .split at h
    .rename_i hy;have h:=cJ h;subst h;exact up hy rfl (λe2 t2 l2 h=>.inr ⟨by cases h;rfl,.inl rfl⟩) (λ_ h=>by cases h) (λ_=>⟨_,_,_,rfl⟩) (λh=>by simp[roI]at h)
    .cases h
  |obj k=>
   unfold roX at h;split at h
   .split at h
    .rename_i hk hy;have h:=cJ h;subst h;exact up hy rfl (λ_ _ _ h=>by cases h) (λd h=>by cases h;exact⟨_,rfl,OKd.a00 hk⟩) (λh=>by simp[roN]at h) (λ_=>⟨_,rfl⟩)
    .cases h
   .cases h
  |dead=>unfold roX at h;exact up h rfl (λ_ _ _ h=>by cases h) (λ_ h=>by cases h) (λh=>by simp[roN]at h) (λh=>by simp[roI]at h)
theorem ZQ:∀{xs:List DV} {bs:List Bool} {K:List DV->Option β},TL xs bs K=some q->∃l,K l=some q/\∀(E:Env) (vs:List Value),vs.length=xs.length->(∀(i:Nat) (p:DV) (v:Value),bs[i]?=some false->xs[i]?=some p->vs[i]?=some v->p.h E v)->hL E l vs
 |[],[],K,h=>⟨[],h,λE vs hl _=>by simp only[hL];exact dK.1 (by simpa using hl)⟩
 |[],b::bs,K,h=>by simp[TL]at h
 |x::xs,[],K,h=>by simp[TL]at h
 |x::xs,b::bs,K,h=>by
  simp only[TL]at h;split at h
  .obtain⟨l,h1,h2⟩:=ZQ h;refine⟨_,h1,λE vs hl hh=>?_⟩;cases vs with
   |nil=>simp at hl
   |cons v vs=>simp only[hL];exact⟨v,vs,rfl,by simp only[DV.h],h2 E vs (by simpa using hl) λi p u g1 g2 g3=>hh (i+1) p u (by simpa using g1) (by simpa using g2) (by simpa using g3)⟩
  .obtain⟨l,h1,h2⟩:=ZQ h;refine⟨_,h1,λE vs hl hh=>?_⟩;cases vs with
   |nil=>simp at hl
   |cons v vs=>simp only[hL];exact⟨v,vs,rfl,hh 0 x v rfl rfl rfl,h2 E vs (by simpa using hl) λi p u g1 g2 g3=>hh (i+1) p u (by simpa using g1) (by simpa using g2) (by simpa using g3)⟩
theorem acN{ws}:∀{n i k:Nat} {b:Bool},(OP ws n i)[k]?=some b->b=Bp (i+k) ws
 |0,i,k,b,h=>by simp[OP]at h
 |n+1,i,0,b,h=>by simp[OP]at h;exact h.symm
 |n+1,i,k+1,b,h=>by
  have:=acN (n:=n) (i:=i+1) (k:=k) (b:=b) (by simpa[OP]using h)
  rwa [show i+(k+1)=i+1+k by omega]
theorem asj{us:List Value}{n:Nat}:us.set n ((us[n]?).getD undef)=us:=by
 apply eY;intro i;rw[bc];split
 .rename_i h;subst h;split
  .rename_i h;simp[h]
  .rename_i h;rw[bH (by omega)]
 .rfl
def acO:List DV->List Nat->List DV->List DV
 |ts,n::ns,v::vs=>acO (ts.set n v) ns vs
 |ts,_,_=>ts
theorem acP:∀{ns:List Nat} {ts vs:List DV} {K:List DV->Option β},Xs ts ns vs K=some q->K (acO ts ns vs)=some q
 |[],ts,[],K,h=>h
 |[],ts,v::vs,K,h=>by simp[Xs]at h
 |n::ns,ts,[],K,h=>by simp[Xs]at h
 |n::ns,ts,v::vs,K,h=>by simp only[Xs,kz]at h;have h2:=acP h;simpa only[acO]using h2
theorem air{E:Env}{us:List Value}:∀{ns:List Nat} {ts vs:List DV},hL E ts us->hL E vs (ns.map λn=>(us[n]?).getD undef)->hL E (acO ts ns vs) us
 |[],ts,[],cH,hvs=>cH
 |[],ts,v::vs,cH,hvs=>cH
 |n::ns,ts,[],cH,hvs=>cH
 |n::ns,ts,v::vs,cH,hvs=>by simp only[bK,hL]at hvs;obtain⟨u,us',e,h1,h2⟩:=hvs;simp only[dO]at e;obtain⟨rfl,rfl⟩:=e;have:=Zs cH n h1;rw[asj]at this;simp only[acO];exact air this h2
theorem ais:∀{is:List Nat} {pb:ij} {cs:List (List DV)} {K:ij->Option β},P8 pb is cs K=some q->∃pb',K pb'=some q/\(∀i,live pb' i↔live pb i)/\
 ∀i b,pb'[i]?=some (some b)->∃b0,pb[i]?=some (some b0)/\b.ty=b0.ty/\((i∉is/\b=b0)\/∃(k:Nat) (c:List DV),is[k]?=some i/\cs[k]?=some c/\b.cells=c/\b.w=true)
 |[],pb,[],K,h=>⟨pb,h,λ_=>IY,λi b hb=>⟨b,hb,rfl,.inl ⟨by simp,rfl⟩⟩⟩
 |[],pb,c::cs,K,h=>by simp[P8]at h
 |i0::is,pb,[],K,h=>by simp[P8]at h
 |i0::is,pb,c::cs,K,h=>by
  simp only[P8]at h;split at h
  .rename_i b0 hb0;rw[yP]at hb0;rw[kz]at h;obtain⟨pb',h1,h2,h3⟩:=ais h;have hlt:=(ay.1 hb0).1
   have hl:∀i,live (pb.set i0 (some ⟨b0.ty,c,true⟩)) i↔live pb i:=λi=>by
    simp only[live,bc];split
    .rename_i h;subst h;exact⟨λ_=>⟨_,hb0⟩,λ_=>⟨⟨b0.ty,c,true⟩,by simp[]⟩⟩
    .rfl
   refine⟨pb',h1,λi=>(h2 i).trans (hl i),λi b hb=>?_⟩;obtain⟨b1,g1,g2,g3⟩:=h3 i b hb;rw[bc]at g1;split at g1
   .rename_i hi;subst hi;simp only[ak]at g1;subst g1;refine⟨b0,hb0,g2,.inr ?_⟩;rcases g3 with⟨_,rfl⟩|⟨k,c',k1,k2,k3⟩
    .exact⟨0,c,rfl,rfl,rfl,rfl⟩
    .exact⟨k+1,c',by simpa using k1,by simpa using k2,k3⟩
   .rename_i hi;refine⟨b1,g1,g2,?_⟩;rcases g3 with⟨k1,k2⟩|⟨k,c',k1,k2,k3⟩
    .exact .inl ⟨by simp[jf hi,k1],k2⟩
    .exact .inr ⟨k+1,c',by simpa using k1,by simpa using k2,k3⟩
  .cases h
end
section
variable {E E2 : Env} {pb : ij} {ro : List RKd} {rw : List DR}
structure Over(pb:ij)(ro:List RKd)(rw:List DR)(E E2:Env):Prop where
 data:lD E.U E2.U E.w E2.w
 row:∀j v u,af2 ro rw j v=true->v.h E u->(DV.row j).h E2 u
 ob:∀j v u,anM ro rw j v=true->v.h E u->(DV.ob j).h E2 u
 own:∀i,live pb i->live E2.pb i/\E2.B i=E.B i
theorem asl(O:Over pb ro rw E E2){i o:Nat}{v:DV}{u:Value}(hx:TG i o v=true)(ho:(RS pb i).isSome=true)(hv:v.h E u):(DV.own i o).h E2 u:=by
 unfold TG at hx;split at hx
 .rename_i i' o';simp only[aB]at hx;have e1:=aE hx.1;have e2:=aE hx.2;subst e1;subst e2;simp only[DV.h]at hv ⊢
  have hli:live pb i:=by
   cases hd:RS pb i with
   |none=>rw[hd]at ho;cases ho
   |some b=>exact⟨b,yP.1 hd⟩
  obtain⟨g1,g2⟩:=O.own i hli;exact⟨g1,by rw[g2];exact hv.2⟩
 .cases hx
theorem acQ(O:Over pb ro rw E E2):∀{cs:List (Nat×Nat)} {vs:List DV} {us:List Value},IF cs vs=true->TH pb cs=true->hL E vs us->hL E2 (arN cs) us
 |[],[],us,_,_,h=>h
 |[],_::_,_,h,_,_=>by simp[IF]at h
 |(_,_)::_,[],_,h,_,_=>by simp[IF]at h
 |(i,o)::cs,v::vs,us,h,ho,hv=>by simp only[hL]at hv;obtain⟨u,us',rfl,Vu,Vv⟩:=hv;simp only[IF,aB]at h;simp only[TH,aB]at ho;simp only[arN,hL];exact⟨u,us',rfl,asl O h.1 ho.1 Vu,acQ O h.2 ho.2 Vv⟩
theorem M0(O:Over pb ro rw E E2):∀(cs:List DS) (r:DT) {vs:List DV} {us:List Value} {y:r.den} {z:(vsT cs r).den},vsX ro rw cs r vs y=some z->hL E vs us->P7 pb cs=true->(vsV cs r z).2=y/\hL E2 (vsV cs r z).1 us
 |[],r,vs,us,y,z,h,hv,ho=>by
  cases vs with
  |nil=>simp only[vsX]at h;have h:=cJ h;subst h;exact⟨rfl,hv⟩
  |cons v vs=>simp[vsX]at h
 |c::cs,r,[],us,y,z,h,hv,ho=>by cases c<;>simp[vsX]at h
 |c::cs,r,v::vs,us,y,z,h,hv,ho=>by
  simp only[hL]at hv;obtain⟨u,us',rfl,Vu,Vv⟩:=hv;simp only[P7,aB]at ho;cases c with
  |t t=>
   simp only[vsX]at h;split at h
   .rename_i x z' hx hz;have h:=cJ h;subst h;obtain⟨h1,h2⟩:=M0 O cs r hz Vv ho.2;refine⟨h1,?_⟩;simp only[vsV,hL];exact⟨u,us',rfl,t.acb (DT.RT O.data (DT.Xt hx Vu)),h2⟩
   .cases h
  |row j=>
   simp only[vsX]at h;split at h
   .rename_i hx;obtain⟨h1,h2⟩:=M0 O cs r h Vv ho.2;refine⟨h1,?_⟩;simp only[vsV,hL];exact⟨u,us',rfl,O.row _ _ _ hx Vu,h2⟩
   .cases h
  |ob j=>
   simp only[vsX]at h;split at h
   .rename_i hx;obtain⟨h1,h2⟩:=M0 O cs r h Vv ho.2;refine⟨h1,?_⟩;simp only[vsV,hL];exact⟨u,us',rfl,O.ob _ _ _ hx Vu,h2⟩
   .cases h
  |own i o=>
   simp only[vsX]at h;split at h
   .rename_i hx;obtain⟨h1,h2⟩:=M0 O cs r h Vv ho.2;refine⟨h1,?_⟩;simp only[vsV,hL];refine⟨u,us',rfl,?_,h2⟩;unfold TG at hx;split at hx
    .rename_i i' o';simp only[aB]at hx;have e1:=aE hx.1;have e2:=aE hx.2;subst e1;subst e2;simp only[DV.h]at Vu ⊢
     have hli:live pb i:=by
      cases hd:RS pb i with
      |none=>have h3:=ho.1;simp only[hd]at h3;cases h3
      |some b=>exact⟨b,yP.1 hd⟩
     obtain⟨g1,g2⟩:=O.own i hli;exact⟨g1,by rw[g2];exact Vu.2⟩
    .cases hx
   .cases h
  |nil=>
   simp only[vsX]at h;split at h
   .rename_i hx;obtain⟨h1,h2⟩:=M0 O cs r h Vv ho.2;refine⟨h1,?_⟩;simp only[vsV,hL];refine⟨u,us',rfl,?_,h2⟩;unfold anN at hx;split at hx
    .simp only[DV.h]at Vu ⊢;exact Vu
    .cases hx
   .cases h
  |fn f cs'=>
   simp only[vsX]at h;split at h
   .rename_i hx;obtain⟨h1,h2⟩:=M0 O cs r h Vv ho.2;refine⟨h1,?_⟩;simp only[vsV,hL];refine⟨u,us',rfl,?_,h2⟩;unfold au0 at hx;split at hx
    .rename_i f' An;simp only[aB]at hx;have e1:=aE hx.1;subst e1;simp only[DV.h]at Vu ⊢;obtain⟨ws,rfl,hw⟩:=Vu;exact⟨ws,rfl,acQ O hx.2 ho.1 hw⟩
    .cases hx
   .cases h
theorem aoC(O:Over pb ro rw E E2){pb':ij}{cs:Nat->List Value->TypeId->Prop}(hb:∀i b,pb'[i]?=some (some b)->∃us,cs i us b.ty/\hL E b.cells us):∀(l:List (Nat×List DS)) (r:DT) {y:r.den} {z:(boT l r).den},boX ro pb' rw l r y=some z->TJ pb l=true->
 (boV l r z).2=y/\∀(k i:Nat) (c:List DV),(boN l)[k]?=some i->(boV l r z).1[k]?=some c->∃us t,cs i us t/\hL E2 c us
 |[],r,y,z,h,ho=>by simp only[boX]at h;have h:=cJ h;subst h;exact⟨rfl,λk i c h=>by simp[boN]at h⟩
 |(i0,ds)::l,r,y,z,h,ho=>by
  simp only[TJ,aB]at ho;unfold boX at h;cases hb1:RS pb' i0 with
  |none=>simp[hb1]at h
  |some b=>
  cases hz:boX ro pb' rw l r y with
  |none=>simp[hb1,hz]at h
  |some z1=>
   rw[hb1,hz]at h;rw[yP]at hb1;obtain⟨us,h1,h2⟩:=hb i0 b hb1;obtain⟨g1,g2⟩:=aoC O hb l r hz ho.2;obtain⟨g3,g4⟩:=M0 O ds _ h h2 ho.1.2;have e:(boV ((i0,ds)::l) r z)=((vsV ds (boT l r) z).1::(boV l r z1).1,(boV l r z1).2):=by simp only[boV,g3]
   rw[e];refine⟨g1,λk i c hk hc=>?_⟩;cases k with
   |zero=>simp[boN]at hk hc;subst hk;subst hc;exact⟨us,_,h1,g4⟩
   |succ k=>exact g2 k i c (by simpa[boN]using hk) (by simpa using hc)
end
section
variable {V : World} {U0 L Lx : Nat -> Prop} {B B' : Nat -> Nat} {A A' : zx} {pb pb' : ij} {rw rw' : List DR} {w w' : World} {ts pe : List DV} {a a' : Act} {β : Type}
def sC(A:zx)(rw:List DR):zx:=λn=>match rw[n]? with
 |some (.own _ _ _)=>A n
 |some (.obj _)=>A n
 |_=>(none,0)
theorem aoD{e}{k}:w.ownsRow 0 e k (.slice none 0 0) 0 []:=⟨by simp,.inl ⟨rfl,rfl⟩⟩
theorem ZR{j}{x:Code}(m:Mem V U0 L B A pb rw w)(cH:hL (env U0 B A pb rw w) ts a.tmps.toList)(oM:okJ j x ts pb=true)(hLx:∀b,Lx b↔Ow B A pb rw b)(mx:Mem w U0 Lx B' A' pb' rw' w')(hx:hL (env U0 B' A' pb' rw' w') pe a'.tmps.toList)(zB:fe (writes x) a a')
 (hbx:∀i,live pb i->live pb' i/\B' i=B i) {k:j.T.den->Option β} {q:β} (h:TK j pb pe pb' rw' k=some q):
 ∃z,k z=some q/\∀{γ:Type} {K:DK γ} {q:γ},headD j x ts pb z K=some q->∃A2 Hm iy ju,Mem V U0 L B' A2 iy ju w'/\hL (env U0 B' A2 iy ju w') Hm a'.tmps.toList/\K Hm iy ju=some q/\(∀i,live iy i↔live pb i)/\∀i,live pb i->B' i=B i:=by
 unfold TK at h;split at h
 .rename_i hcl;obtain⟨ts2,P6,uX,ps,h,m2,acK,_,e2,_⟩:=xC (al:=λ_=>true) (ps:=[]) (us:=[]) _ h mx hx (by simp[hL]);split at h
  .rename_i vs y hvs hy;split at h
   .rename_i y2 hy2;split at h
    .rename_i z hz;refine⟨z,h,λ{γ K q} hd=>?_⟩;simp only[okJ,aB]at oM;obtain⟨⟨⟨⟨_,ho1⟩,ho2⟩,_⟩,_⟩:=oM;have R:=auC hy
     have hU:∀(pb3:ij),(∀i,live pb3 i↔live pb i)->∀kd i b,iK B' (sC A' uX) pb3 (TF j.ro y) kd i b->iK B' A' P6 uX kd i b/\(kd=true->(sC A' uX) i=A' i):=by
      intro pb3 hl kd i b hb;cases kd with
      |false=>exact⟨⟨(e2.bx i (hbx i ((hl i).1 hb.1)).1).1,hb.2⟩,λh=>by cases h⟩
      |true=>
       obtain⟨r,ad,h1,h2,h3,h4⟩:=hb;cases r with
       |dead=>exact absurd rfl h2
       |own e t l=>
        rcases R.own i e t l h1 with g|⟨_,g⟩
        .have e3:sC A' uX i=A' i:=by unfold sC;rw[g]
         exact⟨⟨_,ad,g,by simp,by rw[<-e3];exact h3,h4⟩,λ_=>e3⟩
        .have e3:sC A' uX i=(none,0):=by unfold sC;rcases g with g|g<;>rw[g]
         rw[e3]at h3;cases h3
       |obj d=>
        obtain⟨d',g,_⟩:=R.I9 i d h1;have e3:sC A' uX i=A' i:=by unfold sC;rw[g]
        exact⟨⟨_,ad,g,by simp,by rw[<-e3];exact h3,h4⟩,λ_=>e3⟩
     have hUs:∀(pb3:ij),(∀i,live pb3 i↔live pb i)->∀b,Us U0 B' (sC A' uX) pb3 (TF j.ro y) b->Us U0 B' A' P6 uX b:=λpb3 hl b hb=>hb.imp id λ⟨kd,i,hb⟩=>⟨kd,i,(hU pb3 hl kd i b hb).1⟩
     have afF:∀(pb3:ij),(∀i,live pb3 i↔live pb i)->Over pb j.ro uX (env U0 B' A' P6 uX w') (env U0 B' (sC A' uX) pb3 (TF j.ro y) w'):=by
      intro pb3 hl;refine⟨⟨λ_ _ _=>rfl,au _,λb _ hb=>hUs pb3 hl b hb⟩,λn v u hr hv=>?_,λn v u hr hv=>?_,λi hi=>⟨(hl i).2 hi,rfl⟩⟩
      .unfold af2 at hr;simp only[aB]at hr;obtain⟨RB,hr2⟩:=hr;obtain⟨e,t,l,hn⟩:=R.isO n RB;simp only[DV.h];refine⟨e,t,l,hn,?_⟩;split at hr2
       .rename_i j';split at hr2
        .rename_i e3 t3 l3 hj hd;rw[gU]at hd;have hj:=aE hj;subst hj;simp only[DV.h]at hv;obtain⟨e4,t4,l4,h4,rfl⟩:=hv;have h4:uX[n]?=some (.own e4 t4 l4):=h4;rcases R.own n e t l hn with g|⟨_,g⟩
         .rw[h4]at g;simp only[ak,DR.own.injEq]at g;obtain⟨rfl,rfl,g⟩:=g;cases g;change Value.slice (A' n).1 _ (A' n).2=Value.slice (sC A' uX n).1 _ (sC A' uX n).2;rw[show sC A' uX n=A' n by unfold sC;rw[h4]]
         .rw[h4]at g;simp at g
        .cases hr2
       .simp only[DV.h]at hv;split at hr2
        .cases hr2
        .rename_i NX;rw[gU]at NX;rcases R.own n e t l hn with g|⟨rfl,g⟩
         .exact absurd g (NX e t l)
         .change u=Value.slice (sC A' uX n).1 0 (sC A' uX n).2;rw[show sC A' uX n=(none,0)by unfold sC;rcases g with g|g<;>rw[g]];exact hv
       .cases hr2
      .unfold anM at hr;simp only[aB]at hr;obtain⟨RB,hr2⟩:=hr;obtain⟨d,hn⟩:=R.isI n RB;split at hr2
       .rename_i j';split at hr2
        .rename_i d3 hj hd;have hj:=aE hj;subst hj;simp only[DV.h]at hv ⊢;obtain⟨d4,ad,h4,h5,rfl⟩:=hv;obtain⟨d',g,gm,_⟩:=R.I9 n d hn;have h4:uX[n]?=some (.obj d4):=h4;rw[g]at h4;simp only[ak,DR.obj.injEq]at h4;subst h4;refine⟨d,ad,hn,?_,by simp only[OD.at,gm]⟩;change (sC A' uX n).1=some ad;rw[show sC A' uX n=A' n by unfold sC;rw[g]];exact h5
        .cases hr2
       .cases hr2
     unfold headD at hd;generalize hzz:vsV (dsS j.sl) (boT j.bo (roT j.ro)) z=zz at hd;obtain⟨vs3,y3⟩:=zz;dsimp only at hd;generalize hyy:boV j.bo (roT j.ro) y3=yy at hd;obtain⟨vss,y4⟩:=yy;dsimp only at hd;rw[mN]at hd;obtain⟨ts3,hd,IG⟩:=ZQ hd;have hy3:y3=y2:=by have:=(M0 (afF pb λ_=>IY) _ _ hz (afE acK hvs) ho1).1;rw[hzz]at this;exact this
     subst hy3;have hy4:y4=y:=by have:=(aoC (afF pb λ_=>IY) (pb':=P6) (cs:=λ_ _ _=>True) (λi b hb=>let ⟨cs,_,h2,_⟩:=m2.box i b hb;⟨cs,trivial,h2⟩) _ _ hy2 ho2).1;rw[hyy]at this;exact this
     subst hy4
     have VN:∀(ts4:List DV),CP OK pb (λpb=>P8 pb (boN j.bo) vss λpb=>K ts4 pb (TF j.ro y4))=some q->
      ∃iy,K ts4 iy (TF j.ro y4)=some q/\(∀i,live iy i↔live pb i)/\Mem V U0 L B' (sC A' uX) iy (TF j.ro y4) w':=by
      intro ts4 h4;rw[vJ]at h4;obtain⟨iy,h4,hl,hbs⟩:=ais h4;have hl:∀i,live iy i↔live pb i:=λi=>(hl i).trans oR
      have O:=afF iy hl;refine⟨iy,h4,hl,?_⟩
      have awq:lD (Us U0 B A pb rw) (Us U0 B' (sC A' uX) iy (TF j.ro y4)) w w':=by
       refine⟨λb hb hn=>mx.same b hb λh=>hn (.inr ((hLx b).1 h)),mx.size,λb hb hu=>?_⟩;rcases hUs iy hl b hu with g|⟨kd,i,g⟩
       .exact .inl g
       .rcases(m2.low _ _ _ g).2 with g|g
        .omega
        .exact .inr ((hLx b).1 g)
      have CA:Sub OK (env U0 B A pb rw w) (env U0 B' (sC A' uX) iy (TF j.ro y4) w'):=⟨awq,λi hi=>⟨(hl i).2 hi,(hbx i hi).2⟩,λn e t l hn=>(by cases hn),λn d hn=>(by cases hn),λn p e t l hn _=>(by cases hn;simp only[DV.h]),λn p d ad hn _ _=>(by cases hn;simp only[DV.h])⟩;refine⟨mx.os.trans m.os,mx.tape.trans m.tape,mx.output.trans m.output,cp m.size mx.size,m.auB hLx mx,m.u0,λkd i b hb=>m.ayO hLx m2 kd i b (hU iy hl kd i b hb).1,λkd i kd' i' b h1 h2=>m2.inj _ _ _ _ _ (hU iy hl kd i b h1).1 (hU iy hl kd' i' b h2).1,λi b hb=>?_,λn e t l hn=>?_,λn d hn=>?_⟩
      .obtain⟨b0,g1,g2,g3⟩:=hbs i b hb;obtain⟨b00,g4,rfl⟩:=uy.1 g1;obtain⟨b',g5,g6,g7⟩:=T8 hcl i b00 g4;have hBi:=(hbx i ⟨b00,g4⟩).2;rcases g3 with⟨g8,rfl⟩|⟨kk,c,g8,g9,rfl,g10⟩
       .obtain⟨cs,k1,k2,k3⟩:=m.box i b00 g4
        have hw:b'.w=false:=by
         rcases g7 with g7|g7
         .rw[cg]at g7;exact absurd ((vE _ _).1 g7) g8
         .exact g7
        obtain⟨_,_,_,k6⟩:=mx.box i b' g5;obtain⟨k7,k8⟩:=k6 hw;refine⟨cs,by rw[k8,hBi];exact k1,ky CA _ k2,λhw2=>?_⟩;obtain⟨k9,va⟩:=k3 hw2;exact⟨by rw[hBi];exact k9,by rw[k8,hBi];exact va⟩
       .obtain⟨us,t,k1,k2⟩:=(aoC O (pb':=P6) (cs:=λi us t=>w'.heap[B' i]?=some (.cells us.toArray t (0,0))) (λi b hb=>let ⟨cs,h1,h2,_⟩:=m2.box i b hb;⟨cs,h1,h2⟩) _ _ hy2 ho2).2 kk i b.cells g8 (by rw[hyy];exact g9);obtain⟨us',k3,k4,_⟩:=mx.box i b' g5;rw[k1]at k3;simp only[ak,Obj.cells.injEq]at k3;refine⟨us,by rw[k1,k3.2.1,<-g6,<-g2],k2,λhf=>by rw[g10]at hf;cases hf⟩
      .rcases R.own n e t l hn with g|⟨rfl,g⟩
       .obtain⟨xs,k1,k2⟩:=m2.row n e t l g;refine⟨xs,?_,DT.kw O.data k2⟩;rw[show sC A' uX n=A' n by unfold sC;rw[g]];exact k1
       .refine⟨[],?_,DT.FB⟩;rw[show sC A' uX n=(none,0)by unfold sC;rcases g with g|g<;>rw[g]];exact aoD
      .obtain⟨d',g,_,gh⟩:=R.I9 n d hn;obtain⟨b,o,k1,k2,k3⟩:=m2.I9 n d' g;exact⟨b,o,by rw[show sC A' uX n=A' n by unfold sC;rw[g]];exact k1,k2,OD.mono O.data (gh _ _ _ k3)⟩
     have awr:∃ts4,CP OK pb (λpb=>P8 pb (boN j.bo) vss λpb=>K ts4 pb (TF j.ro y4))=some q/\∀iy,(∀i,live iy i↔live pb i)->hL (env U0 B' (sC A' uX) iy (TF j.ro y4) w') ts4 a'.tmps.toList:=by
      have hsl:∀iy,(∀i,live iy i↔live pb i)->hL (env U0 B' (sC A' uX) iy (TF j.ro y4) w') ts3 a'.tmps.toList:=by
       intro iy hl;have O:=afF iy hl
       have awq:lD (Us U0 B A pb rw) (Us U0 B' (sC A' uX) iy (TF j.ro y4)) w w':=by
        refine⟨λb hb hn=>mx.same b hb λh=>hn (.inr ((hLx b).1 h)),mx.size,λb hb hu=>?_⟩;rcases hUs iy hl b hu with g|⟨kd,i,g⟩
        .exact .inl g
        .rcases(m2.low _ _ _ g).2 with g|g
         .omega
         .exact .inr ((hLx b).1 g)
       have CA:Sub OK (env U0 B A pb rw w) (env U0 B' (sC A' uX) iy (TF j.ro y4) w'):=⟨awq,λi hi=>⟨(hl i).2 hi,(hbx i hi).2⟩,λn e t l hn=>(by cases hn),λn d hn=>(by cases hn),λn p e t l hn _=>(by cases hn;simp only[DV.h]),λn p d ad hn _ _=>(by cases hn;simp only[DV.h])⟩;have hold:=ky CA ts cH;refine IG _ _ ?_ λi p v hi hp hv=>?_
       .rw[<-ql hold];simp[zB.1]
       .have hm:=acN hi;rw[cg]at hm;have hn:i∉writes x:=λh=>by rw[(vE _ _).2 h]at hm;cases hm
        have hs:=zB.2 i hn;obtain⟨v',g1,g2⟩:=KG hold i p hp;simp only[dt]at g1 hv;rw[hs,g1]at hv;cases hv;exact g2
      exact⟨_,acP hd,λiy hl=>air (hsl iy hl) (by have:=(M0 (afF iy hl) _ _ hz (afE acK hvs) ho1).2;rw[hzz]at this;exact this)⟩
     obtain⟨ts4,h4,a0K⟩:=awr;obtain⟨iy,h5,hl,m5⟩:=VN ts4 h4;exact⟨_,ts4,iy,_,m5,a0K iy hl,h5,hl,λi hi=>(hbx i hi).2⟩
    .cases h
   .cases h
  .cases h
 .cases h
end
theorem M1:∀{pb:ij} {i:Nat},(RS (qW pb) i).isSome=(RS pb i).isSome
 |[],_=>rfl
 |some b::pb,0=>rfl
 |none::pb,0=>rfl
 |some b::pb,i+1=>by simp only[qW,RS];exact M1
 |none::pb,i+1=>by simp only[qW,RS];exact M1
theorem XD{pb}:∀{l:List (Nat×Nat)},TH (qW pb) l=TH pb l
 |[]=>rfl
 |(i,o)::l=>by simp only[TH];rw[XD,M1]
theorem O3{pb}:∀{l:List DS},P7 (qW pb) l=P7 pb l
 |[]=>rfl
 |d::l=>by simp only[P7];rw[O3];cases d<;>simp only[M1,XD]
theorem XE{pb}:∀{l:List (Nat×List DS)},TJ (qW pb) l=TJ pb l
 |[]=>rfl
 |(i,cs)::l=>by simp only[TJ];rw[XE,O3,M1]
theorem asm{j:DJ}{x:Code}{ts:List DV}{pb:ij}:okJ j x ts (qW pb)=okJ j x ts pb:=by unfold okJ;rw[O3,XE]
def a0L:Exit->Prop
 | .normal=>True
 | .exit _=>True
 | .ret=>True
 |_=>False
section
variable {P : Program} {T : List TI} {C : GK} {O : DTs} {JC JL : List (Nat × DJ)} {β : Type} [rB β] {q : β}
omit [rB β]in
theorem Nx.more{V:World}{U0 L:Nat->Prop}{B B1:Nat->Nat}{pb iy:ij}{a a1 a':Act}{w':World}{K:DK β}(hl:∀i,live pb i->live iy i/\B1 i=B i)(hd:a1.defers=a.defers)(h:Nx V U0 L B1 iy a1 K q a' w'):Nx V U0 L B pb a K q a' w':=
 let ⟨B',A',pe,pb',rw',m,h1,h2,h3,h4⟩:=h
 ⟨B',A',pe,pb',rw',m,h1,h2,h3.trans hd,λi hi=>let ⟨g1,g2⟩:=hl i hi;let ⟨g3,g4⟩:=h4 i g1;⟨g3,g4.trans g2⟩⟩
theorem EG(hT:dP P T)(hC:Et P C)(hm:P.follows .mixedOrders=true):∀(c:Code) {JC:List (Nat×DJ)} {Q:Exit->DK β} {V:World} {U0 L:Nat->Prop} {B:Nat->Nat} {A:zx} {ts:List DV} {pb:ij} {rw:List DR} {a:Act} {w:World},
 ev aj T C O JC JL c Q ts pb rw=some q->Mem V U0 L B A pb rw w->hL (env U0 B A pb rw w) ts a.tmps.toList->c.wp P (λe a' w'=>a0L e/\Nx V U0 L B pb a (Q e) q a' w'/\fe (writes c) a a') a w
 | .skip,JC,Q,V,U0,L,B,A,ts,pb,rw,a,w,h,m,cH=>by simp only[ev]at h;exact wp_skip ⟨trivial,⟨B,A,ts,pb,rw,m,cH,h,rfl,λi hi=>⟨hi,rfl⟩⟩,fe.refl _ _⟩
 | .label _,JC,Q,V,U0,L,B,A,ts,pb,rw,a,w,h,m,cH=>by simp only[ev]at h;exact wp_label ⟨trivial,⟨B,A,ts,pb,rw,m,cH,h,rfl,λi hi=>⟨hi,rfl⟩⟩,fe.refl _ _⟩
 | .exit id,JC,Q,V,U0,L,B,A,ts,pb,rw,a,w,h,m,cH=>by simp only[ev]at h;exact wp_exit ⟨trivial,⟨B,A,ts,pb,rw,m,cH,h,rfl,λi hi=>⟨hi,rfl⟩⟩,fe.refl _ _⟩
 | .ret,JC,Q,V,U0,L,B,A,ts,pb,rw,a,w,h,m,cH=>by simp only[ev]at h;exact wp_ret ⟨trivial,⟨B,A,ts,pb,rw,m,cH,h,rfl,λi hi=>⟨hi,rfl⟩⟩,fe.refl _ _⟩
 | .seq x y,JC,Q,V,U0,L,B,A,ts,pb,rw,a,w,h,m,cH=>by
  have hwx:∀i∈writes x,i∈writes (.seq x y):=λi hi=>by simp[writes,hi]
  have hwy:∀i∈writes y,i∈writes (.seq x y):=λi hi=>by simp[writes,hi]
  unfold ev at h;split at h
  .refine wp_seq (sS (EG hT hC hm x h m cH) λe a1 w1 hq=>?_);obtain⟨he,hn,zB⟩:=hq;cases e with
   |normal=>
    obtain⟨B1,A1,Hm,iy,ju,m1,yQ,h1,hd,hl⟩:=hn;refine sS (EG hT hC hm y h1 m1 yQ) λe a2 w2 hq=>?_
    exact⟨hq.1,hq.2.1.more hl hd,(zB.mono hwx).trans (hq.2.2.mono hwy)⟩
   |exit i=>exact⟨he,hn,zB.mono hwx⟩
   |ret=>exact⟨he,hn,zB.mono hwx⟩
   |_=>exact he.elim
  .rename_i j hj;split at h
   .rename_i oM;obtain⟨ma,sa⟩:=m.anchor
    have h:=h
    refine wp_seq (sS (EG hT hC hm x h ma (nS sa cH)) λe a1 w1 hq=>?_);obtain⟨he,⟨B1,A1,Hm,iy,ju,mx,hx,h1,hd,hl⟩,zB⟩:=hq;have hl:∀i,live pb i->live iy i/\B1 i=B i:=λi hi=>hl i (EF.2 hi)
    have out:∀{K:DK β},K Hm (Vt pb iy) ju=some q->Nx V U0 L B pb a K q a1 w1:=by
     intro K hK;obtain⟨mo,so⟩:=m.ayP (λ_=>IY) mx λi hi=>(hl i hi).2
     exact⟨B1,A1,Hm,_,ju,mo,nS so hx,hK,hd,λi hi=>⟨T7.2 (hl i hi).1,(hl i hi).2⟩⟩
    cases e with
    |normal=>
     obtain⟨z,hk,hh⟩:=ZR m cH oM (λ_=>IY) mx hx zB hl h1;obtain⟨A2,ts2,P6,uX,m2,acK,h2,g1,g2⟩:=hh hk;refine sS (EG hT hC hm y h2 m2 acK) λe a2 w2 hq=>?_
     exact⟨hq.1,hq.2.1.more (λi hi=>⟨(g1 i).2 hi,g2 i hi⟩) hd,(zB.mono hwx).trans (hq.2.2.mono hwy)⟩
    |exit i=>exact⟨he,out h1,zB.mono hwx⟩
    |ret=>exact⟨he,out h1,zB.mono hwx⟩
    |_=>exact he.elim
   .cases h
 | .cond c x y,JC,Q,V,U0,L,B,A,ts,pb,rw,a,w,h,m,cH=>by
  have hwx:∀i∈writes x,i∈writes (.cond c x y):=λi hi=>by simp[writes,hi]
  have hwy:∀i∈writes y,i∈writes (.cond c x y):=λi hi=>by simp[writes,hi]
  unfold ev at h;split at h
  .rename_i hc;have hc:=gD hc cH;simp only[DV.h]at hc;exact wp_cond_true hc (sS (EG hT hC hm x h m cH) λe a1 w1 hq=>⟨hq.1,hq.2.1,hq.2.2.mono hwx⟩)
  .rename_i hc;have hc:=gD hc cH;simp only[DV.h]at hc;exact wp_cond_false hc (sS (EG hT hC hm y h m cH) λe a1 w1 hq=>⟨hq.1,hq.2.1,hq.2.2.mono hwy⟩)
  .rename_i b hc;have hc:=gD hc cH;simp only[DV.h]at hc;rcases anX h with⟨rfl,h⟩|⟨rfl,h⟩
   .exact wp_cond_true hc (sS (EG hT hC hm x h m cH) λe a1 w1 hq=>⟨hq.1,hq.2.1,hq.2.2.mono hwx⟩)
   .exact wp_cond_false hc (sS (EG hT hC hm y h m cH) λe a1 w1 hq=>⟨hq.1,hq.2.1,hq.2.2.mono hwy⟩)
  .cases h
 | .block id x,JC,Q,V,U0,L,B,A,ts,pb,rw,a,w,h,m,cH=>by
  simp only[ev]at h;refine wp_block (sS (EG hT hC hm x h m cH) λe a1 w1 hq=>?_);obtain⟨he,hn,zB⟩:=hq;cases e with
  |normal=>exact⟨he,hn,zB⟩
  |ret=>exact⟨he,hn,zB⟩
  |exit i=>
   unfold Exit.inBlock;obtain⟨B1,A1,Hm,iy,ju,m1,yQ,h1,hd,hl⟩:=hn;by_cases hi:i=id
   .subst hi;simp only[sR];simp only[show Nat.beq i i=true from Nat.beq_refl i]at h1;exact⟨trivial,⟨B1,A1,Hm,iy,ju,m1,yQ,h1,hd,hl⟩,zB⟩
   .simp only[hi,oG];simp only[show Nat.beq i id=false from by cases hb:Nat.beq i id with|false=>rfl|true=>exact absurd (aE hb) hi]at h1;exact⟨trivial,⟨B1,A1,Hm,iy,ju,m1,yQ,h1,hd,hl⟩,zB⟩
  |_=>exact he.elim
 | .scope x,JC,Q,V,U0,L,B,A,ts,pb,rw,a,w,h,m,cH=>by
  simp only[ev]at h;refine wp_scope_straight (sS (EG hT hC hm x h m cH) λe a1 w1 hq=>?_);cases e with
  |normal=>exact hq
  |ret=>exact hq
  |exit i=>exact hq
  |_=>exact hq.1.elim
 | .region id ops draw,JC,Q,V,U0,L,B,A,ts,pb,rw,a,w,h,m,cH=>by
  unfold ev at h;cases draw with
  |false=>exact wp_region_list (OZ (al:=λ_=>true) hT (acA hC) ops.toList h m cH λa' w' hn zB=>⟨trivial,hn.nx,zB⟩)
  |true=>exact aoB hT (acA hC) hm h m cH λa' w' hn zB=>⟨trivial,hn,zB⟩
 | .loop x,JC,Q,V,U0,L,B,A,ts,pb,rw,a,w,h,m,cH=>by
  unfold ev at h;split at h
  .generalize 5=N at h
   refine wp_loop_ghost (λn a1 w1=>∃B1 A1 Hm iy ju,unr (λn again ts pb rw=>ev aj T C O (au1 JC n) JL x (λe ts pb rw=>match e with
    | .normal=>again ts pb rw
    | .exit i=>Q (.exit i) ts pb rw
    | .ret=>Q .ret ts pb rw
    |_=>none) ts pb rw) n Hm iy ju=some q/\Mem V U0 L B1 A1 iy ju w1/\hL (env U0 B1 A1 iy ju w1) Hm a1.tmps.toList/\fe (writes x) a a1/\a1.defers=a.defers/\∀i,live pb i->live iy i/\B1 i=B i) N ⟨B,A,ts,pb,rw,h,m,cH,fe.refl _ _,rfl,λi hi=>⟨hi,rfl⟩⟩ ?_
   rintro n a1 w1 ⟨B1,A1,Hm,iy,ju,hn,m1,yQ,zB,hd,hl⟩;cases n with
   |zero=>cases hn
   |succ n=>
    simp only[unr]at hn;refine sS (EG hT hC hm x hn m1 yQ) λe a2 w2 hq=>?_
    obtain⟨he,hx,acR⟩:=hq;cases e with
    |normal=>obtain⟨B2,A2,ts2,P6,uX,m2,acK,h2,hd2,hl2⟩:=hx;exact⟨n,Nat.lt_succ_self n,B2,A2,ts2,P6,uX,h2,m2,acK,zB.trans acR,hd2.trans hd,λi hi=>let ⟨g1,g2⟩:=hl i hi;let ⟨g3,g4⟩:=hl2 i g1;⟨g3,g4.trans g2⟩⟩
    |exit i=>exact⟨he,hx.more hl hd,zB.trans acR⟩
    |ret=>exact⟨he,hx.more hl hd,zB.trans acR⟩
    |_=>exact he.elim
  .rename_i j hj;split at h
   .rename_i oM;obtain⟨ma,sa⟩:=m.anchor;have ayQ:okJ j x ts (qW pb)=true:=by rw[asm];exact oM
    have hLx:∀b,Ow B A pb rw b↔Ow B A (qW pb) rw b:=λb=>⟨λ⟨k,i,h⟩=>⟨k,i,(tB λi=>EF).2 h⟩,λ⟨k,i,h⟩=>⟨k,i,(tB λi=>EF).1 h⟩⟩
    have aws:=nS sa cH;rw[<-acM]at h;obtain⟨z0,h,hh0⟩:=ZR ma aws ayQ hLx ma aws (fe.refl _ _) (λi hi=>⟨hi,rfl⟩) h
    have h:yO FU (λz again=>headD j x ts (qW pb) z λHm iy ju=>
     ev aj T C O JC JL x (λe pe pb' rw'=>match e with
      | .normal=>TK j pb pe pb' rw' again
      | .exit i=>Q (.exit i) pe (Vt pb pb') rw'
      | .ret=>Q .ret pe (Vt pb pb') rw'
      |_=>none) Hm iy ju) z0=some q:=h
    generalize FU=N at h
    refine wp_loop_ghost (λn a1 w1=>∃z B1,yO n (λz again=>headD j x ts (qW pb) z λHm iy ju=>
     ev aj T C O JC JL x (λe pe pb' rw'=>match e with
      | .normal=>TK j pb pe pb' rw' again
      | .exit i=>Q (.exit i) pe (Vt pb pb') rw'
      | .ret=>Q .ret pe (Vt pb pb') rw'
      |_=>none) Hm iy ju) z=some q/\fe (writes x) a a1/\a1.defers=a.defers/\
     ∀{K:DK β},headD j x ts (qW pb) z K=some q->∃A2 Hm iy ju,Mem w U0 (Ow B A pb rw) B1 A2 iy ju w1/\hL (env U0 B1 A2 iy ju w1) Hm a1.tmps.toList/\K Hm iy ju=some q/\(∀i,live iy i↔live (qW pb) i)/\∀i,live (qW pb) i->B1 i=B i) N ⟨z0,B,h,fe.refl _ _,rfl,λh=>hh0 h⟩ ?_
    rintro n a1 w1 ⟨z,B1,hn,zB,hd,hh⟩;cases n with
    |zero=>cases hn
    |succ n=>
     simp only[yO]at hn;obtain⟨A2,Hm,iy,ju,m1,yQ,h1,Cn,hB1⟩:=hh hn;refine sS (EG hT hC hm x h1 m1 yQ) λe a2 w2 hq=>?_
     obtain⟨he,⟨B2,A3,ts2,P6,uX,mx,hx,h2,hd2,hl2⟩,acR⟩:=hq;have hl:∀i,live (qW pb) i->live P6 i/\B2 i=B i:=λi hi=>let ⟨g1,g2⟩:=hl2 i ((Cn i).2 hi);⟨g1,g2.trans (hB1 i hi)⟩
     have Ti:∀i,live pb i->live P6 i/\B2 i=B i:=λi hi=>hl i (EF.2 hi)
     have out:∀{K:DK β},K ts2 (Vt pb P6) uX=some q->Nx V U0 L B pb a K q a2 w2:=by
      intro K hK;obtain⟨mo,so⟩:=m.ayP (λ_=>IY) mx λi hi=>(Ti i hi).2
      exact⟨B2,A3,ts2,_,uX,mo,nS so hx,hK,hd2.trans hd,λi hi=>⟨T7.2 (Ti i hi).1,(Ti i hi).2⟩⟩
     cases e with
     |normal=>have h2:TK j pb ts2 P6 uX _=some q:=h2;rw[<-acM]at h2;obtain⟨z2,hk,hh2⟩:=ZR ma aws ayQ hLx mx hx (zB.trans acR) hl h2;exact⟨n,Nat.lt_succ_self n,z2,B2,hk,zB.trans acR,hd2.trans hd,λh=>hh2 h⟩
     |exit i=>exact⟨he,out h2,zB.trans acR⟩
     |ret=>exact⟨he,out h2,zB.trans acR⟩
     |_=>exact he.elim
   .cases h
 | .goto _,JC,Q,V,U0,L,B,A,ts,pb,rw,a,w,h,m,cH=>by simp only[ev]at h;cases h
end
end Go.Vc
namespace Go.Vc
open Go Go.RowKit
section
variable {β : Type} {q : β}
mutual
theorem QT.x_s{am}{E}:(Q:QT)->(p:DV)->(m:MS)->(rw0:List DR)->(y:Q.den)->(mF:MS)->Q.x am p m=some (y,mF)->MI E m rw0->
 MI E mF (Q.mk y rw0).2/\(∃a,mF.rs=m.rs++a)/\∀E0 v XF,(∃a,XF=mF.rs++a)->TrI am XF E E0->p.h E v->(Q.mk y rw0).1.h E0 v
 | .v t,p,m,rw0,y,mF,h,hm=>by
  simp only[QT.x]at h;split at h
  .rename_i x hx;simp only[ak,bV]at h;obtain⟨rfl,rfl⟩:=h;exact⟨hm,⟨[],by simp⟩,λE0 v XF _ s hp=>t.acb (DT.RT s.sl (DT.Xt hx hp))⟩
  .cases h
 | .own e t,p,m,rw0,y,mF,h,hm=>by
  simp only[QT.x]at h;split at h
  .rename_i j;split at h
   .rename_i e' t' xs hj;rw[gU]at hj;split at h
    .rename_i hh he hs;simp only[ak,bV]at h;obtain⟨rfl,rfl⟩:=h;have he:=aE he;subst he hh;obtain⟨hm',hE⟩:=hm.take hj;refine⟨hm',⟨_,rfl⟩,λE0 v XF ⟨a,ha⟩ s hp=>?_⟩;have hn:XF[rw0.length]?=some (some j):=by rw[ha];simp[<-hm.len]
     obtain⟨g1,g2⟩:=s.row _ _ _ _ _ hn hE;simp only[DV.h]at hp;obtain⟨e2,t2,l2,hj2,rfl⟩:=hp;rw[hE]at hj2;simp only[ak,DR.own.injEq]at hj2;obtain⟨rfl,rfl,hl2⟩:=hj2;cases hl2;simp only[QT.mk,DV.h];exact⟨_,_,_,g1,by rw[g2]⟩
    .cases h
   .cases h
  .simp only[ak,bV]at h;obtain⟨rfl,rfl⟩:=h;refine⟨hm.emp e t,⟨_,rfl⟩,λE0 v XF ⟨a,ha⟩ s hp=>?_⟩;have hn:XF[rw0.length]?=some none:=by rw[ha];simp[<-hm.len]
   obtain⟨⟨e1,t1,g1⟩,g2⟩:=s.nil _ hn;simp only[DV.h]at hp;subst hp;simp only[QT.mk,DV.h];exact⟨_,_,_,g1,by rw[g2];rfl⟩
  .cases h
 | .ptr n,p,m,rw0,y,mF,h,hm=>by
  simp only[QT.x]at h;split at h
  .rename_i i o;split at h
   .rename_i i' hl;split at h
    .rename_i hb;have hb:=aE hb;subst hb;simp only[ak,bV]at h;obtain⟨_,rfl⟩:=h;refine⟨hm,⟨[],by simp⟩,λE0 v XF _ s hp=>?_⟩;simp only[DV.h]at hp;obtain⟨g1,rfl⟩:=hp;obtain⟨g2,g3⟩:=s.bx _ _ hl g1;simp only[QT.mk,DV.h];exact⟨g2,by rw[g3]⟩
    .cases h
   .cases h
  .cases h
 | .nil n,p,m,rw0,y,mF,h,hm=>by
  simp only[QT.x]at h;split at h
  .rename_i z;split at h
   .rename_i hb;simp only[ak,bV]at h;obtain⟨_,rfl⟩:=h;refine⟨hm,⟨[],by simp⟩,λE0 v XF _ s hp=>?_⟩;simp only[DV.h]at hp;subst hp;simp only[QT.mk,DV.h];exact NK.ayF hb
   .cases h
  .cases h
 | .unit,p,m,rw0,y,mF,h,hm=>by
  simp only[QT.x]at h;split at h
  .simp only[ak,bV]at h;obtain⟨_,rfl⟩:=h;refine⟨hm,⟨[],by simp⟩,λE0 v XF _ s hp=>?_⟩;simp only[DV.h,hL]at hp;obtain⟨vs,rfl,hp⟩:=hp;simp only[QT.mk,DV.h,hL];exact⟨vs,rfl,hp⟩
  .cases h
 | .pair a b,p,m,rw0,y,mF,h,hm=>by
  simp only[QT.x]at h;split at h
  .rename_i p ps;split at h
   .rename_i x m1 hx;split at h
    .rename_i y2 m2 hy;simp only[ak,bV]at h;obtain⟨rfl,rfl⟩:=h;obtain⟨h1,⟨a1,h2⟩,h3⟩:=QT.x_s a p m rw0 x m1 hx hm;obtain⟨k1,⟨a2,k2⟩,k3⟩:=QT.ayR b ps m1 _ y2 m2 hy h1;refine⟨k1,⟨a1++a2,by rw[k2,h2,bq]⟩,λE0 v XF ⟨c,hc⟩ s hp=>?_⟩;simp only[DV.h,hL]at hp;obtain⟨vs,rfl,u,us,hv,KL,Ss⟩:=hp;simp only[QT.mk,DV.h,hL];exact⟨vs,rfl,u,us,hv,h3 E0 u XF ⟨a2++c,by rw[hc,k2,bq]⟩ s KL,k3 E0 us XF ⟨c,hc⟩ s Ss⟩
    .cases h
   .cases h
  .cases h
theorem QT.ayR{am}{E}:(Q:QT)->(ps:List DV)->(m:MS)->(rw0:List DR)->(y:Q.den)->(mF:MS)->Q.xs am ps m=some (y,mF)->MI E m rw0->
 MI E mF (Q.mks y rw0).2/\(∃a,mF.rs=m.rs++a)/\∀E0 vs XF,(∃a,XF=mF.rs++a)->TrI am XF E E0->hL E ps vs->hL E0 (Q.mks y rw0).1 vs
 | .unit,ps,m,rw0,y,mF,h,hm=>by
  simp only[QT.xs]at h;split at h
  .simp only[ak,bV]at h;obtain⟨_,rfl⟩:=h;exact⟨hm,⟨[],by simp⟩,λE0 vs XF _ s hp=>by simpa only[QT.mks,hL]using hp⟩
  .cases h
 | .pair a b,ps,m,rw0,y,mF,h,hm=>by
  simp only[QT.xs]at h;split at h
  .rename_i p ps;split at h
   .rename_i x m1 hx;split at h
    .rename_i y2 m2 hy;simp only[ak,bV]at h;obtain⟨rfl,rfl⟩:=h;obtain⟨h1,⟨a1,h2⟩,h3⟩:=QT.x_s a p m rw0 x m1 hx hm;obtain⟨k1,⟨a2,k2⟩,k3⟩:=QT.ayR b ps m1 _ y2 m2 hy h1;refine⟨k1,⟨a1++a2,by rw[k2,h2,bq]⟩,λE0 v XF ⟨c,hc⟩ s hp=>?_⟩;simp only[hL]at hp;obtain⟨u,us,hv,KL,Ss⟩:=hp;simp only[QT.mks,hL];exact⟨u,us,hv,h3 E0 u XF ⟨a2++c,by rw[hc,k2,bq]⟩ s KL,k3 E0 us XF ⟨c,hc⟩ s Ss⟩
    .cases h
   .cases h
  .cases h
 | .v _,ps,m,rw0,y,mF,h,_=>by simp[QT.xs]at h
 | .own _ _,ps,m,rw0,y,mF,h,_=>by simp[QT.xs]at h
 | .ptr _,ps,m,rw0,y,mF,h,_=>by simp[QT.xs]at h
 | .nil _,ps,m,rw0,y,mF,h,_=>by simp[QT.xs]at h
end
theorem ait{am}:∀{n:Nat},ahV am n=true->∀{k:Nat},k<n->Gi am k=some k
 |0,_,k,hk=>by omega
 |n+1,h,k,hk=>by
  simp only[ahV,aB]at h;by_cases hkn:k=n
  .subst hkn;have h1:=h.1;split at h1
   .rename_i i hi;rw[hi,aE h1]
   .cases h1
  .exact ait h.2 (by omega)
end
end Go.Vc




namespace Go.Vc
open Go Go.RowKit
theorem aiu:∀(l:List BK) (r:DT) (z:(Ge l r).den) (rw:List DR),(zP l r z rw).1.length=l.length
 |[],_,_,_=>rfl
 |Bk::l,r,z,rw=>by simp only[zP,aJ];rw[aiu l r]
section
variable {V : World} {U0 L : Nat -> Prop} {B : Nat -> Nat} {A : zx} {pb : ij} {rw : List DR} {w : World}
theorem acS{σ}{rs}{pb0}{rw0}(hb:∀(k:Nat) (b0:DB),pb0[k]?=some (some b0)->∃i b,σ k=some i/\pb[i]?=some (some b)/\b0.ty=b.ty/\b0.w=true)
 (hr:∀(n:Nat) (r:DR),rw0[n]?=some r->(∃j e t l,rs[n]?=some (some j)/\rw[j]?=some r/\r=.own e t l)\/(rs[n]?=some none/\∃e t,r=.own e t [])):
 (∀n b,iK (lB B σ) (lA A rs) pb0 rw0 true n b->∃j,rs[n]?=some (some j)/\iK B A pb rw true j b)/\(∀k b,iK (lB B σ) (lA A rs) pb0 rw0 false k b->∃i,σ k=some i/\iK B A pb rw false i b):=by
 constructor
 .rintro n b ⟨r,ad,g1,g2,g3,g4⟩;rcases hr n r g1 with⟨j,e,t,l,k1,k2,k3⟩|⟨k1,_⟩
  .refine⟨j,k1,r,ad,k2,g2,?_,g4⟩;simpa only[lA,k1]using g3
  .simp only[lA,k1]at g3;cases g3
 .rintro k b ⟨⟨b0,g1⟩,g2⟩;obtain⟨i,b1,k1,k2,_⟩:=hb k b0 g1;exact⟨i,k1,⟨b1,k2⟩,by simpa only[lB,k1,gM]using g2⟩
theorem Mem.leave(m:Mem V U0 L B A pb rw w){σ:Nat->Option Nat}{rs:List (Option Nat)}{pb0:ij}{rw0:List DR}
 (hb:∀(k:Nat) (b0:DB),pb0[k]?=some (some b0)->∃i b,σ k=some i/\pb[i]?=some (some b)/\b0.ty=b.ty/\b0.w=true)
 (hc:∀(k:Nat) (b0:DB) (i:Nat) (b:DB),pb0[k]?=some (some b0)->σ k=some i->pb[i]?=some (some b)->∀vs,hL (env U0 B A pb rw w) b.cells vs->hL (env U0 (lB B σ) (lA A rs) pb0 rw0 w) b0.cells vs)
 (hσ:∀(k k' i:Nat),σ k=some i->σ k'=some i->k=k')
 (hr:∀(n:Nat) (r:DR),rw0[n]?=some r->(∃j e t l,rs[n]?=some (some j)/\rw[j]?=some r/\r=.own e t l)\/(rs[n]?=some none/\∃e t,r=.own e t []))
 (hρ:∀(n n' j:Nat),rs[n]?=some (some j)->rs[n']?=some (some j)->n=n'):Mem V U0 L (lB B σ) (lA A rs) pb0 rw0 w:=by
 obtain⟨h1,h2⟩:=acS (B:=B) (A:=A) hb hr
 have h3:∀k i b,iK (lB B σ) (lA A rs) pb0 rw0 k i b->∃i',iK B A pb rw k i' b:=by
  intro k i b h;cases k with
  |true=>obtain⟨j,_,h⟩:=h1 i b h;exact⟨j,h⟩
  |false=>obtain⟨j,_,h⟩:=h2 i b h;exact⟨j,h⟩
 have hU:∀b,Us U0 (lB B σ) (lA A rs) pb0 rw0 b->Us U0 B A pb rw b:=by
  rintro b (h|⟨k,i,h⟩)
  .exact .inl h
  .obtain⟨i',h⟩:=h3 k i b h;exact .inr ⟨k,i',h⟩
 refine⟨m.os,m.tape,m.output,m.size,m.same,m.u0,λk i b h=>?_,λk i k' i' b h h'=>?_,λk b0 h=>?_,λn e t l h=>?_,λn d h=>?_⟩
 .obtain⟨i',g⟩:=h3 k i b h;exact m.low k i' b g
 .cases k with
  |true=>
   obtain⟨j,g1,g2⟩:=h1 i b h;cases k' with
   |true=>obtain⟨j',g3,g4⟩:=h1 i' b h';have:=(m.inj _ _ _ _ _ g2 g4).2;subst this;exact⟨rfl,hρ _ _ _ g1 g3⟩
   |false=>obtain⟨j',g3,g4⟩:=h2 i' b h';have:=(m.inj _ _ _ _ _ g2 g4).1;cases this
  |false=>
   obtain⟨j,g1,g2⟩:=h2 i b h;cases k' with
   |true=>obtain⟨j',g3,g4⟩:=h1 i' b h';have:=(m.inj _ _ _ _ _ g2 g4).1;cases this
   |false=>obtain⟨j',g3,g4⟩:=h2 i' b h';have:=(m.inj _ _ _ _ _ g2 g4).2;subst this;exact⟨rfl,hσ _ _ _ g1 g3⟩
 .obtain⟨i,b,g1,g2,g3,g4⟩:=hb k b0 h;obtain⟨cs,k1,k2,_⟩:=m.box i b g2;exact⟨cs,by simp only[lB,g1,gM,g3];exact k1,hc k b0 i b h g1 g2 cs k2,λhw=>by rw[g4]at hw;cases hw⟩
 .rcases hr n _ h with⟨j,e',t',l',k1,k2,k3⟩|⟨k1,e',t',k3⟩
  .obtain⟨xs,g1,g2⟩:=m.row j e t l k2;refine⟨xs,by simp only[lA,k1];exact g1,DT.kw ⟨λ_ _ _=>rfl,au _,λb _ h=>hU b h⟩ g2⟩
  .simp only[DR.own.injEq]at k3;obtain⟨rfl,rfl,k3⟩:=k3;cases k3;exact⟨[],by simp only[lA,k1];exact wJ w 0 e t.size,DT.FB⟩
 .rcases hr n _ h with⟨j,e',t',l',k1,k2,k3⟩|⟨k1,e',t',k3⟩<;>cases k3
theorem aoE(m:Mem V U0 L B A pb rw w){El:List BK}{Q:QT}{am:List (Nat×Nat)}{e:(Ge El .unit).den}{y:Q.den}{p:DV}{v:Value}{ms ms':MS}(hp:p.h (env U0 B A pb rw w) v)
 (hnd:Hk (QX am)=true) (hkl:ON am El.length=true) (hX:bkX am pb El 0 .unit ⟨[],rw⟩ (λm=>some ((),m))=some (e,ms)) (hQ:Q.x am p ms=some (y,ms')):
 ∃A',Mem V U0 L (lB B (Gi am)) A' (zP El .unit e []).1 (Q.mk y (zP El .unit e []).2.2).2 w/\(Q.mk y (zP El .unit e []).2.2).1.h (env U0 (lB B (Gi am)) A' (zP El .unit e []).1 (Q.mk y (zP El .unit e []).2.2).2 w) v/\(zP El .unit e []).1.length=El.length/\∀k,k<El.length->live (zP El .unit e []).1 k:=by
 obtain⟨z0,m1,ju,g1,g2,g3,⟨a1,g4⟩,⟨b1,g5⟩,g6,g7,g8⟩:=aoy (am:=am) (E:=env U0 B A pb rw w) El 0 .unit ⟨[],rw⟩ _ [] e ms hX (MI.nil (env U0 B A pb rw w));simp only[ak,bV]at g1;obtain⟨_,rfl⟩:=g1;obtain⟨k1,⟨a2,k2⟩,k3⟩:=QT.x_s (am:=am) (E:=env U0 B A pb rw w) Q p m1 ju y ms' hQ g3;have e1:(zP El .unit e []).2.2=ju:=by rw[g2]
 rw[e1];generalize a0E:(zP El .unit e []).1=pb0 at g6 g7 g8;generalize a1u:(Q.mk y ju).2=uX at k1;have hbw:∀(k:Nat) (b0:DB),pb0[k]?=some (some b0)->∃i b,Gi am k=some i/\pb[i]?=some (some b)/\b0.ty=b.ty/\b0.w=true:=λk b0 h=>by obtain⟨i,b,h1,h2,h3,h4,_⟩:=g7 k b0 h;rw[cg]at h1;exact⟨i,b,h1,h2,h3,h4⟩
 have hr:=k1.row;obtain⟨h1,h2⟩:=acS (B:=B) (A:=A) hbw hr
 have tri:TrI am ms'.rs (env U0 B A pb rw w) (env U0 (lB B (Gi am)) (lA A ms'.rs) pb0 uX w):=by
  refine⟨⟨λ_ _ _=>rfl,au _,λb _ hu=>?_⟩,λk i hk hl=>?_,λn j e t l hn hj=>?_,λn hn=>?_⟩
  .rcases hu with hu|⟨k,i,hu⟩
   .exact .inl hu
   .cases k with
    |true=>obtain⟨j,_,h⟩:=h1 i b hu;exact .inr ⟨_,j,h⟩
    |false=>obtain⟨j,_,h⟩:=h2 i b hu;exact .inr ⟨_,j,h⟩
  .obtain⟨b0,hb0⟩:=g8 k (MX hkl hk);refine⟨⟨b0,hb0⟩,?_⟩;show lB B (Gi am) k=B i;simp only[lB,hk,gM]
  .obtain⟨n',GO⟩:∃r,uX[n]?=some r:=⟨_,aw (by rw[<-k1.len];exact(ay.1 hn).1)⟩;rcases hr n n' GO with⟨j',e',t',l',c1,c2,c3⟩|⟨c1,_⟩
   .rw[hn]at c1;simp only[ak]at c1;subst c1;rw[hj]at c2;simp only[ak]at c2;refine⟨by rw[c2];exact GO,?_⟩;show lA A ms'.rs n=A j;simp only[lA,hn]
   .rw[hn]at c1;cases c1
  .obtain⟨n',GO⟩:∃r,uX[n]?=some r:=⟨_,aw (by rw[<-k1.len];exact(ay.1 hn).1)⟩;rcases hr n n' GO with⟨j',e',t',l',c1,c2,c3⟩|⟨_,e,t,c1⟩
   .rw[hn]at c1;cases c1
   .refine⟨⟨e,t,by rw[<-c1];exact GO⟩,?_⟩;show lA A ms'.rs n=(none,0);simp only[lA,hn]
 refine⟨lA A ms'.rs,m.leave hbw (λk b0 i b c1 c2 c3 us hu=>?_) (λk k' i h h'=>RW hnd h h') hr k1.inj,k3 _ v ms'.rs ⟨[],by simp⟩ tri hp,g6,g8⟩;obtain⟨i',b',d1,d2,_,_,d5⟩:=g7 k b0 c1;rw[cg,c2]at d1;simp only[ak]at d1;subst d1;have d2:pb[i]?=some (some b'):=d2;rw[c3]at d2;simp only[ak]at d2;subst d2;have pre:∀(n:Nat) (x:Option Nat),m1.rs[n]?=some x->ms'.rs[n]?=some x:=λn x hn=>by rw[k2,bB (ay.1 hn).1];exact hn
 exact d5 _ ⟨[],by simp⟩ ⟨tri.sl,tri.bx,λn j e t l hn hj=>tri.row n j e t l (pre n _ hn) hj,λn hn=>tri.nil n (pre n _ hn)⟩ us hu
end
section
variable {P : Program} {T : List TI} {V : World} {U0 L : Nat -> Prop} {B : Nat -> Nat} {A : zx} {ts : List DV} {pb : ij} {rw : List DR} {a : Act} {w : World} {β : Type} {q : β} {C : GK} {O : DTs} {JC JL : List (Nat × DJ)}
def T9(tmps:Array Value):ResultVar->Sem Value
 | .tmp t=>pure (tmps.getD t undef)
 | .cell c t=>do loadVar t (<-asAddr (tmps.getD c undef))
theorem afG(hT:dP P T)(m:Mem V U0 L B A pb rw w)(cH:hL (env U0 B A pb rw w) ts a.tmps.toList):∀(rs:List ResultVar) {K:List DV->Option β},Q0 aj T rs ts pb rw K=some q->
 ∃xs vs,K xs=some q/\hL (env U0 B A pb rw w) xs vs/\(rs.mapM (T9 a.tmps)).run P w=.ok vs w
 |[],K,h=>⟨[],[],h,by simp[hL],by simp⟩
 | .tmp t::rs,K,h=>by
  simp only[Q0]at h;split at h
  .rename_i x hx;obtain⟨xs,vs,h1,h2,h3⟩:=afG hT m cH rs h;have hv:=MN hx cH;refine⟨x::xs,((a.tmps.toList[t]?).getD undef)::vs,h1,?_,?_⟩
   .simp only[hL];exact⟨_,_,rfl,hv,h2⟩
   .have e:a.tmps.getD t undef=(a.tmps.toList[t]?).getD undef:=by simp
    simp only[List.mapM_cons,T9,aP,bG,bn,h3,e]
  .cases h
 | .cell c t::rs,K,h=>by
  simp only[Q0]at h;split at h
  .rename_i x hx;have hv:=MN hx cH;obtain⟨r,u,ad,e1,g1,g2,g3,_⟩:=MP (P:=P) hT m h hv;obtain⟨xs,vs,h1,h2,h3⟩:=afG hT m cH rs g1;refine⟨r::xs,u::vs,h1,?_,?_⟩
   .simp only[hL];exact⟨_,_,rfl,g2,h2⟩
   .have hr:=g3 w rfl;have e:a.tmps.getD c undef=.pointer (some ad):=by rw[<-e1];simp
    rw[e1]at hr;simp only[Instr.loadAt,Instr.sureAddr,aP,bG,bn]at hr;simp only[List.mapM_cons,T9,aP,e,asAddr,bG,bn,hr,h3]
  .cases h
def asn(vs:List Value):Value:=match vs with|[v]=>v|vs=>.tuple vs.toArray
theorem XG(hT:dP P T)(m:Mem V U0 L B A pb rw w)(cH:hL (env U0 B A pb rw w) ts a.tmps.toList){fn:Func}{K:List DV->Option β}(h:Q0 aj T fn.results.toList ts pb rw K=some q):
 ∃xs v,K xs=some q/\(Q' xs).h (env U0 B A pb rw w) v/\(results fn a.tmps).run P w=.ok v w:=by
 obtain⟨xs,vs,h1,h2,h3⟩:=afG hT m cH _ h;refine⟨xs,asn vs,h1,?_,?_⟩
 .cases xs with
  |nil=>simp only[hL]at h2;subst h2;simp only[Q',DV.h];exact⟨#[],rfl,by simp[hL]⟩
  |cons x xs=>
   cases xs with
   |nil=>simp only[hL]at h2;obtain⟨v,Cz,rfl,h4,rfl⟩:=h2;exact h4
   |cons y xs=>have h4:=h2;simp only[hL]at h4;obtain⟨v,Cz,rfl,_,v2,vs2,rfl,_⟩:=h4;simp only[Q',DV.h];exact⟨_,rfl,h2⟩
 .unfold results;rw[aP,Array.mapM_eq_mapM_toList,Sem.run_map];have e:∀f:ResultVar->Sem Value,f=T9 a.tmps->(fn.results.toList.mapM f).run P w=(fn.results.toList.mapM (T9 a.tmps)).run P w:=λf h=>by rw[h]
  rw[e _ (by funext x;cases x<;>rfl),h3];simp only[bn]
  match vs with
  |[]=>simp[asn]
  |[x]=>simp[asn]
  |x::y::zs=>simp[asn]
theorem aiv:∀(xs:List DV) (n:Nat) {K:List DV->Option β},TM xs n K=some q->K (xs++List.replicate (n-xs.length) .OJ)=some q/\xs.length<=n
 |[],n,K,h=>⟨by simpa[TM]using h,by simp⟩
 |x::xs,n+1,K,h=>by have:=aiv xs n h;simpa using this
 |_::_,0,_,h=>by simp[TM]at h
theorem aoF{E}:∀n,hL E (List.replicate n .OJ) (List.replicate n undef)
 |0=>by simp[hL]
 |n+1=>by simp only[pk,hL,DV.h];exact⟨_,_,rfl,rfl,aoF n⟩
theorem aiw[rB β](hT:dP P T)(hC:Et P C)(hm:P.follows .mixedOrders=true){f}{fn}{c}(hf:P.funcs[f]?=some fn)(hb:fn.body=some c)(hn:(fn.name== "runtime.NumGoroutine")=false)
 {args} {R:Exit->DK β} {G:Value->World->Prop} {vs:List Value} (h:TM args fn.ntmps (λts=>ev aj T C O JC JL c R ts pb rw)=some q) (m:Mem V U0 L B A pb rw w) (hargs:hL (env U0 B A pb rw w) args vs)
 (hR:∀(e:Exit),¬(e=.normal\/e=.ret)->∀ts pb rw,R e ts pb rw≠some q)
 (hG:∀(e:Exit),(e=.normal\/e=.ret)->∀(B':Nat->Nat) (A':zx) (pe:List DV) (pb':ij) (rw':List DR) (a':Act) (w':World),Mem V U0 L B' A' pb' rw' w'->hL (env U0 B' A' pb' rw' w') pe a'.tmps.toList->(∀i,live pb i->live pb' i/\B' i=B i)->R e pe pb' rw'=some q->∃v,(results fn a'.tmps).run P w'=.ok v w'/\G v w'):nz P f vs.toArray w G:=by
 refine⟨.inl ⟨⟨fn,hf,hn,by simp[hb]⟩,?_⟩⟩;obtain⟨h,hlen⟩:=aiv _ _ h;have e:({ tmps:=vs.toArray++Array.replicate (fn.ntmps - vs.toArray.size) undef,defers:=[] }:Act).tmps.toList=vs++List.replicate (fn.ntmps - args.length) undef:=by simp[ql hargs]
 have cH:hL (env U0 B A pb rw w) (args++List.replicate (fn.ntmps - args.length) .OJ) ({ tmps:=vs.toArray++Array.replicate (fn.ntmps - vs.toArray.size) undef,defers:=[] }:Act).tmps.toList:=by rw[e]; exact af3 hargs (aoF _)
 refine calls_of_wp hf hb (sS (EG hT hC hm c h m cH) λe a' w' hq=>?_);obtain⟨he,⟨B',A',pe,pb',rw',m',h1,h2,h3,h4⟩,_⟩:=hq;cases e with
 |normal=>obtain⟨v,k1,k2⟩:=hG _ (.inl rfl) _ _ _ _ _ _ _ m' h1 h4 h2;exact⟨h3,v,k1,v,rfl,k2⟩
 |ret=>obtain⟨v,k1,k2⟩:=hG _ (.inr rfl) _ _ _ _ _ _ _ m' h1 h4 h2;exact⟨h3,v,k1,v,rfl,k2⟩
 |exit i=>exact absurd h2 (hR _ (by simp) _ _ _)
 |_=>exact he.elim
theorem arw(hT:dP P T)(hC:Et P C)(hm:P.follows .mixedOrders=true){f:FuncId}{fn:Func}{c:Code}(hf:P.funcs[f]?=some fn)(hb:fn.body=some c)(hn:(fn.name== "runtime.NumGoroutine")=false) {s:LS}
 (h:∀z o,s.fn z=some o->arv aj T C O JC JL fn s z=some o):J7 P f s:=by
 intro z o hz U0 B A vs w m hargs;have h:=h z o hz;unfold arv at h;rw[hb]at h;have hlen:(zP s.B (Jt s.P .unit) z []).1.length=s.B.length:=aiu _ _ _ _;generalize zP s.B (Jt s.P .unit) z []=bm at h m hargs hlen ⊢;obtain⟨pb,y,rw0⟩:=bm;dsimp only at h m hargs hlen ⊢;generalize Hl s.P .unit y rw0=pm at h m hargs ⊢;obtain⟨args,u,rw⟩:=pm;dsimp only at h m hargs ⊢;have hB:∀i,live pb i->i<s.B.length:=λi hi=>by rw[<-hlen]; exact aip hi
 letI:=s.Q.eqb
 letI:=(Ge s.E .unit).eqb
 have h:=h;refine aiw hT hC hm hf hb hn h m hargs (λe he ts pb rw hh=>?_) λe he B' A' pe pb' rw' a' w' m' cH hl hh=>?_
 .cases e<;>first|exact he (.inl rfl)|exact he (.inr rfl)|(simp only[ay3]at hh; cases hh)
 .have hh:Q0 aj T fn.results.toList pe pb' rw' (λxs=>arO s pe pb' rw' (Q' xs))=some o:=by rcases he with rfl|rfl<;>exact hh
  obtain⟨xs,v,h1,h2,h3⟩:=XG (P:=P) hT m' cH hh;refine⟨v,h3,?_⟩;unfold arO at h1;generalize arF s.E 0 pb' (s.Q.ids (Q' xs) (idA s.B.length))=am at h1;dsimp only at h1;obtain⟨ts2,P6,uX,ps,h4,m2,_,h5,e2,_⟩:=xC (al:=λ_=>true) _ h1 m' cH (ps:=[Q' xs]) (us:=[v]) (by simp only[hL]; exact⟨_,_,rfl,h2,rfl⟩);split at h4
  .rename_i p;simp only[hL]at h5;obtain⟨v',Cz,e5,h5,rfl⟩:=h5;simp only[dO,oA]at e5; subst e5;split at h4
   .rename_i ee ms hck hX;simp only[aB]at hck;split at h4
    .rename_i y2 ms' hQ;simp only[ak]at h4; subst h4;obtain⟨A3,m3,k1,k2,k3⟩:=aoE m2 h5 hck.1.1 hck.1.2 hX hQ;refine⟨_,A3,_,_,_,m3,k1,λi hi=>?_,rfl,rfl⟩;have hi2:=hB i hi;have hlk:=ait hck.2 hi2;refine⟨k3 i (MX hck.1.2 hlk),?_⟩;simp only[lB,hlk,gM];exact(hl i hi).2
    .cases h4
   .cases h4
  .cases h4
theorem avD(hT:dP P T)(hC:Et P C)(hm:P.follows .mixedOrders=true){f:FuncId}{fn:Func}{c:Code}(hf:P.funcs[f]?=some fn)(hb:fn.body=some c)(hn:(fn.name== "runtime.NumGoroutine")=false) {s:ES}
 (h:∀x q,s.fn x=some q->evF aj T C O JC JL fn s.P s.Q x=some q):anl P f s:=by
 intro x o hx U0 B A vs w m hargs;have h:=h x o hx;unfold evF at h;rw[hb]at h
 letI:=s.Q.eqb
 have h:=h;refine aiw hT hC hm hf hb hn h m hargs (λe he ts pb rw hh=>?_) λe he B' A' pe pb' rw' a' w' m' cH hl hh=>?_
 .cases e<;>first|exact he (.inl rfl)|exact he (.inr rfl)|(simp only[ay4]at hh; cases hh)
 .have hh:Q0 aj T fn.results.toList pe pb' rw' (λxs=>arP s.Q pe pb' rw' (Q' xs))=some o:=by rcases he with rfl|rfl<;>exact hh
  obtain⟨xs,v,h1,h2,h3⟩:=XG (P:=P) hT m' cH hh;refine⟨v,h3,?_⟩;unfold arP at h1;obtain⟨ts2,P6,uX,ps,h4,m2,_,h5,e2,_⟩:=xC (al:=λ_=>true) _ h1 m' cH (ps:=[Q' xs]) (us:=[v]) (by simp only[hL]; exact⟨_,_,rfl,h2,rfl⟩);split at h4
  .rename_i p;simp only[hL]at h5;obtain⟨v',Cz,e5,h5,rfl⟩:=h5;simp only[dO,oA]at e5; subst e5;split at h4
   .rename_i y2 ms' hQ;simp only[ak]at h4; subst h4;obtain⟨A3,m3,k1,k2,k3⟩:=aoE (El:=[]) (am:=[]) (e:=()) m2 h5 rfl rfl rfl hQ;exact⟨_,A3,_,_,_,m3,k1,λi hi=>(by obtain⟨b,hb⟩:=hi; simp at hb),rfl,rfl⟩
   .cases h4
  .cases h4
end
def ofL:List (Nat×Bool)->OT
 |[]=>.nil
 |(i,true)::l=>.rd i (ofL l)
 |(i,false)::l=>.op i (ofL l)
def oX(n:Nat)(f:List Nat):OT:=ofL ((List.range n).map λi=>(i,!Bp i f))
def oI(n:Nat):OT:=oX n []
def oN(l:List Nat):OT:=ofL (l.map λn=>(n / 2,Nat.beq (n % 2) 1))
abbrev DS.i:DS:=.t (.int .i64)
abbrev DS.b:DS:=.t .bool
abbrev PK.i:PK:=.v (.int .i64)
abbrev PK.b:PK:=.v .bool
abbrev QT.i:QT:=.v (.int .i64)
abbrev QT.b:QT:=.v .bool
abbrev DT.p1(a:DT):DT:=.pair a .unit
abbrev DT.p2(a b:DT):DT:=.pair a (.pair b .unit)
abbrev DT.p3(a b c:DT):DT:=.pair a (.pair b (.pair c .unit))
abbrev DT.p4(a b c d:DT):DT:=.pair a (.pair b (.pair c (.pair d .unit)))
abbrev DT.p5(a b c d e:DT):DT:=.pair a (.pair b (.pair c (.pair d (.pair e .unit))))
abbrev DT.p6(a b c d e f:DT):DT:=.pair a (.pair b (.pair c (.pair d (.pair e (.pair f .unit)))))
abbrev QT.p1(a:QT):QT:=.pair a .unit
abbrev QT.p2(a b:QT):QT:=.pair a (.pair b .unit)
abbrev QT.p3(a b c:QT):QT:=.pair a (.pair b (.pair c .unit))
abbrev QT.p4(a b c d:QT):QT:=.pair a (.pair b (.pair c (.pair d .unit)))
abbrev QT.p5(a b c d e:QT):QT:=.pair a (.pair b (.pair c (.pair d (.pair e .unit))))
abbrev QT.p6(a b c d e f:QT):QT:=.pair a (.pair b (.pair c (.pair d (.pair e (.pair f .unit)))))
structure KC(P:Program) where
 n:Nat
 c:Wd->EC
 ok:ani P n (c aj)
def kcs{P:Program}:List (KC P)->Wd->GK
 |[],_=>[]
 |k::l,W=>(k.n,k.c W)::kcs l W
theorem afk{P}:∀l:List (KC P),Et P (kcs l aj)
 |[]=>trivial
 |k::l=>⟨k.ok,afk l⟩
def atN{P:Program}:KC P:=⟨2000000,λ_=>.es ⟨.unit,.unit,λ_=>none⟩,λ_ _ h=>by cases h⟩
structure anj(P:Program)(T:List TI):Prop where
 tab:dP P T
 mixed:P.follows .mixedOrders=true
def kes{P:Program}{T:List TI}(kp:anj P T)(n:Nat)(A:DT)(Q:QT)(F:Wd->A.den->Option Q.den)(l:List (KC P))(O:DTs)(JC JL:List (Nat×DJ)){fn:Func}{c:Code}(hf:P.funcs[n]?=some fn)(hb:fn.body=some c)(hn:(fn.name== "runtime.NumGoroutine")=false:=by decide +kernel)
 (h:∀W x,evF W T (kcs l W) O JC JL fn A Q x=F W x):KC P:=
 ⟨n,λW=>.es ⟨A,Q,F W⟩,avD kp.tab (afk l) kp.mixed hf hb hn λx _ hx=>(h aj x).trans hx⟩
def kls{P:Program}{T:List TI}(kp:anj P T)(n:Nat)(B:List BK)(A:List PK)(E:List BK)(Q:QT)(F:Wd->(Ge B (Jt A .unit)).den->Option (Q.den×(Ge E .unit).den))(l:List (KC P))(O:DTs)(JC JL:List (Nat×DJ)){fn:Func}{c:Code}(hf:P.funcs[n]?=some fn)(hb:fn.body=some c)(hn:(fn.name== "runtime.NumGoroutine")=false:=by decide +kernel)
 (h:∀W z,arv W T (kcs l W) O JC JL fn ⟨B,A,E,Q,F W⟩ z=F W z):KC P:=
 ⟨n,λW=>.ls ⟨B,A,E,Q,F W⟩,arw kp.tab (afk l) kp.mixed hf hb hn λz _ hz=>(h aj z).trans hz⟩
section
variable {β : Type} {r : β}
theorem aiL{X:Type}{f:X->(X->Option β)->Option β}(μ:X->Nat)(R:X->Prop)(g:X->Option β)
 (h:∀z,R z->∀again:X->Option β,(∀z',R z'->μ z'<μ z->again z'=g z')->f z again=g z):∀(n:Nat) (z:X),R z->μ z<n->yO n f z=g z
 |0,z,_,hm=>by omega
 |n+1,z,hz,hm=>h z hz _ λz' Wz hm'=>aiL μ R g h n z' Wz (by omega)
theorem iH{X:Type}{f:X->(X->Option β)->Option β}(μ:X->Nat)(R:X->Prop)(g:X->Option β){z:X}(hz:R z)(hm:μ z<18446744073709551616)
 (h:∀z,R z->∀again:X->Option β,(∀z',R z'->μ z'<μ z->again z'=g z')->f z again=g z):aj.aY f z=g z:=
 aiL μ R g h FU z hz (by rw[PZ];exact hm)
theorem RZ[rB β](a:Option β):Gh a a=a:=by
 unfold Gh;cases a with
 |none=>rfl
 |some x=>show(bif rB.eq x x then some x else none)=some x;rw[(rB.iff x x).2 rfl];rfl
theorem idx_eq{α:Type}{l:List α}{i:Nat}(h:i<l.length)(K:α->Option β):acu l (i:Int) K=K l[i]:=by unfold acu;rw[aU,aw h];simp
theorem azq{b:Int}(h:b≠0)(K:Option β):nzF b K=K:=by unfold nzF;simp[h]
theorem az0{b:Int}(h:0<=b)(K:Option β):nnF b K=K:=by unfold nnF;simp[h]
theorem asO{n b:Nat}(h:n<=281474976710656)(h2:n*b<=140737488355328)(K:Option β):acv n b K=K:=by unfold acv;simp[h,h2]
theorem awY{i:Int}{n:Nat}(h:0<=i)(h2:i<=n)(K:Nat->Option β):afx i n K=K i.toNat:=by unfold afx;simp[h,h2]
theorem yj[rB β]{e:Bool}{f:Bool->Option β}{b:Option β}(h0:f false=b)(h1:e=true->f true=b):akq e f=b:=by
 unfold akq;cases e
 .exact h0
 .simp only[cond_true];rw[h0,h1 rfl,RZ]
end
theorem age{α:Type}(l:List α)(i:Nat)(h:i<l.length):l.drop i=l[i]::l.drop (i+1):=ck h
def bitsOf(n:Nat):List Int:=if h:n=0 then[]else((n % 2:Nat):Int)::bitsOf (n / 2)
termination_by n
decreasing_by omega
theorem az1:bitsOf 0=[]:=by rw[bitsOf];rfl
theorem az2{n:Nat}(h:n≠0):bitsOf n=((n % 2:Nat):Int)::bitsOf (n / 2):=by rw[bitsOf];simp[h]
def az3:List Int->Nat
 |[]=>0
 |x::l=>x.toNat+2*az3 l
def az4(l:List Int):Prop:=∀x∈l,x=0\/x=1
def Nrm(l:List Int):Prop:=bitsOf (az3 l)=l
theorem akO(n:Nat):az4 (bitsOf n):=by
 induction n using Nat.strongRecOn with
 |ind n ih=>
  by_cases h:n=0
  .subst h;rw[az1];intro x hx;cases hx
  .rw[az2 h];intro x hx;rcases aF.1 hx with rfl|hx
   .omega
   .exact ih (n / 2) (by omega) x hx
theorem Nrm.bits{l:List Int}(h:Nrm l):az4 l:=h▸akO _
theorem Hs(i:Nat)(h:0<i)(h2:i<=maxLen):IntKind.i64.wrap ((i:Int)-(1))=((i-1:Nat):Int):=by rw[ic]at h2;rw[bI _ (by omega)];omega
theorem Sm(z:Int)(h:0<=z/\z<18446744073709551616):IntKind.u64.wrap z=z:=by simp only[IntKind.wrap,IntKind.signed,IntKind.bits];simp;omega
theorem apr(i:Nat)(h:i<9223372036854775807):IntKind.i64.wrap ((i:Int)+1)=((i+1:Nat):Int):=by rw[bI _ (by omega)];omega
end Go.Vc
namespace Go.Vc
open Go Go.RowKit
variable {β : Type}
theorem ib{α S:Type}{l:List α}(hl:l.length<=9223372036854775807){f:Int×S->(Int×S->Option β)->Option β}(Inv:Nat->S->Prop)(g:List α->S->Option β){s0:S}(h0:Inv 0 s0)
 (Dw:∀s (again:Int×S->Option β),Inv l.length s->f ((l.length:Int),s) again=g [] s)
 (tC:∀i (h:i<l.length) s,Inv i s->∀again:Int×S->Option β,(∀s',Inv (i+1) s'->again (((i+1:Nat):Int),s')=g (l.drop (i+1)) s')->f ((i:Int),s) again=g (l[i]::l.drop (i+1)) s):
 aj.aY f (0,s0)=g l s0:=by
 refine(iH (λz=>(l.length+1)-z.1.toNat) (λz=>∃i:Nat,z.1=(i:Int)/\i<=l.length/\Inv i z.2) (λz=>g (l.drop z.1.toNat) z.2) ⟨0,rfl,by omega,h0⟩ (by show l.length+1-0<_;omega) ?_).trans ?_
 .rintro⟨z,s⟩ ⟨i,hi,hle,hs⟩ again ha;dsimp only at hi hs;subst hi;simp only[aU];by_cases h:i<l.length
  .rw[age l i h];refine tC i h s hs again λs' hs'=>?_
   have:=ha (((i+1:Nat):Int),s') ⟨i+1,rfl,by omega,hs'⟩ (by simp only[aU];omega);simpa only[aU]using this
  .obtain rfl:i=l.length:=by omega
   rw[fH];exact Dw s again hs
 .simp
theorem dE{i n:Nat}(h:i<n)(a b:Option β):aj.af (decide ((i:Int)<(n:Int))) a b=a:=by rw[aq (by omega)];rfl
theorem dZ{n:Nat}(a b:Option β):aj.af (decide ((n:Int)<(n:Int))) a b=b:=by rw[an (by omega)];rfl
theorem azs{p:Prop}[Decidable p](a b:Option β):aj.af (decide p) a b=if p then a else b:=by by_cases h:p<;>simp[h]
theorem aQ{c:Bool}(h:c=true)(a b:Option β):aj.af c a b=a:=by subst h;rfl
theorem az{c:Bool}(h:c=false)(a b:Option β):aj.af c a b=b:=by subst h;rfl
theorem bO{α:Type}{l:List α}{i:Nat}(h:i<l.length)(K:α->Option β):aj.aI l (i:Int) K=K l[i]:=idx_eq h K
theorem iR{α:Type}{l:List α}{i:Nat}(h:i<l.length)(K:α->Option β):aj.cr l (Int.toNat (i:Int)) K=K l[i]:=by show an3 l _ K=_;unfold an3;rw[aU,aw h]
theorem dm{n b:Nat}(h:n<=281474976710656)(h2:n*b<=140737488355328)(K:Option β):aj.bi n b K=K:=asO h h2 K
theorem vj{b:Int}(h:0<=b)(K:Option β):aj.i7 b K=K:=az0 h K
theorem alN[rB β](a:Option β):aj.gJ a a=a:=RZ a
theorem ja[rB β](a:Option β):aj.two a=a:=RZ a
theorem xk{X:Type}(k:X->Option β)(f:(X->Option β)->Option β):aj.aH k f=f k:=rfl
theorem Jo{i:Int}{n:Nat}(h:0<=i)(h2:i<=n)(K:Nat->Option β):aj.kY i n K=K i.toNat:=awY h h2 K
theorem cU(i:Nat)(h:i<9223372036854775807):IntKind.i64.wrap ((i:Int)+1)=((i+1:Nat):Int):=apr i h
end Go.Vc
namespace Go.Vc
variable {β : Type}
theorem K6{S:Type}{N:Nat}(hN:N<9223372036854775807){f:Int×S->(Int×S->Option β)->Option β}(Inv:Nat->S->Prop)(r:Option β){s0:S}(h0:Inv 0 s0)
 (Dw:∀s (again:Int×S->Option β),Inv N s->f (((N:Nat):Int),s) again=r)
 (tC:∀i,i<N->∀s,Inv i s->∀again:Int×S->Option β,(∀s',Inv (i+1) s'->again (((i+1:Nat):Int),s')=r)->f ((i:Int),s) again=r):
 aj.aY f (0,s0)=r:=by
 refine(iH (λz=>(N+1)-z.1.toNat) (λz=>∃i:Nat,z.1=(i:Int)/\i<=N/\Inv i z.2) (λ_=>r) ⟨0,rfl,by omega,h0⟩ (by show N+1-0<_;omega) ?_);rintro⟨z,s⟩ ⟨i,hi,hle,hs⟩ again ha;dsimp only at hi hs;subst hi;by_cases h:i<N
 .refine tC i h s hs again λs' hs'=>?_
  exact ha (((i+1:Nat):Int),s') ⟨i+1,rfl,by omega,hs'⟩ (by simp only[aU];omega)
 .obtain rfl:i=N:=by omega
  exact Dw s again hs
def iM{α:Type}(f:α->Int)(l:List α):Int:=(l.map f).sum
theorem EJ{α:Type}(f:α->Int):iM f []=0:=rfl
theorem gB{α:Type}(f:α->Int)(x:α)(l:List α):iM f (x::l)=f x+iM f l:=by simp[iM]
theorem sm{α:Type}(f:α->Int)(a b:List α):iM f (a++b)=iM f a+iM f b:=by simp[iM]
theorem ad1{α:Type}{f:α->Int}{B:Int}:∀{l:List α},(∀x∈l,-B<=f x/\f x<=B) -> -(B*(l.length:Int))<=iM f l/\iM f l<=B*(l.length:Int)
 |[],_=>by simp[iM]
 |x::l,h=>by
  have h1:=h x (by simp);have h2:=ad1 (l:=l) λw hw=>h w (by simp[hw])
  rw[gB,aJ,Gu,zm];omega
theorem ad6{α:Type}(p:α->Bool)(l:List α)(i:Nat)(h:i<l.length):(l.take (i+1)).filter p=(l.take i).filter p++(if p l[i]=true then[l[i]]else[]):=by rw[show l.take (i+1)=l.take i++[l[i]]by simp,fu];congr 1;by_cases hp:p l[i]=true<;>simp[hp]
theorem dX{α β:Type}{o:Option α}{a:α}(h:o=some a)(K:α->Option β):aj.ae o K=K a:=by subst h;rfl
end Go.Vc



namespace Go.Vc
open Go Go.RowKit
section
variable {β : Type}
theorem eR{p:Prop}[Decidable p](h:p)(a b:Option β):aj.af (decide p) a b=a:=aQ (aq h) a b
theorem cY{p:Prop}[Decidable p](h:¬p)(a b:Option β):aj.af (decide p) a b=b:=az (an h) a b
theorem oO{α:Type}[BEq α][LawfulBEq α]{x y:α}(h:x=y)(a b:Option β):aj.af (x==y) a b=a:=aQ (by simpa using h) a b
theorem py{α:Type}[BEq α][LawfulBEq α]{x y:α}(h:¬x=y)(a b:Option β):aj.af (x==y) a b=b:=az (by simpa using h) a b
theorem fV{α:Type}[BEq α][LawfulBEq α]{x y:α}(h:¬x=y)(a b:Option β):aj.af (x != y) a b=a:=aQ (by simpa using h) a b
theorem iZ{α:Type}[BEq α][LawfulBEq α]{x y:α}(h:x=y)(a b:Option β):aj.af (x != y) a b=b:=az (by simpa using h) a b
theorem du{p:Prop}[Decidable p]{a b r:Option β}(h:p->a=r)(k:¬p->b=r):aj.af (decide p) a b=r:=(F4 p).elim (λq=>(eR q a b).trans (h q)) λq=>(cY q a b).trans (k q)
theorem dQ{α:Type}[BEq α][LawfulBEq α]{x y:α}{a b r:Option β}(h:x=y->a=r)(k:¬x=y->b=r):aj.af (x==y) a b=r:=(F4 _).elim (λq=>(oO q a b).trans (h q)) λq=>(py q a b).trans (k q)
theorem iY{α:Type}[BEq α][LawfulBEq α]{x y:α}{a b r:Option β}(h:x=y->b=r)(k:¬x=y->a=r):aj.af (x != y) a b=r:=(F4 _).elim (λq=>(iZ q a b).trans (h q)) λq=>(fV q a b).trans (k q)
theorem VA{c:Bool}{a b r:Option β}(h:c=true)(k:a=r):aj.af c a b=r:=(aQ h a b).trans k
theorem AP{c:Bool}{a b r:Option β}(h:c=false)(k:b=r):aj.af c a b=r:=(az h a b).trans k
theorem tdy{p:Prop}[Decidable p]{a b r:Option β}(h:p)(k:a=r):aj.af (decide p) a b=r:=(eR h a b).trans k
theorem tdn{p:Prop}[Decidable p]{a b r:Option β}(h:¬p)(k:b=r):aj.af (decide p) a b=r:=(cY h a b).trans k
theorem tqy{α:Type}[BEq α][LawfulBEq α]{x y:α}{a b r:Option β}(h:x=y)(k:a=r):aj.af (x==y) a b=r:=(oO h a b).trans k
theorem tqn{α:Type}[BEq α][LawfulBEq α]{x y:α}{a b r:Option β}(h:¬x=y)(k:b=r):aj.af (x==y) a b=r:=(py h a b).trans k
theorem tby{α:Type}[BEq α][LawfulBEq α]{x y:α}{a b r:Option β}(h:¬x=y)(k:a=r):aj.af (x != y) a b=r:=(fV h a b).trans k
theorem tbn{α:Type}[BEq α][LawfulBEq α]{x y:α}{a b r:Option β}(h:x=y)(k:b=r):aj.af (x != y) a b=r:=(iZ h a b).trans k
theorem tix{α:Type}{l:List α}{i:Nat}{K:α->Option β}{r:Option β}(h:i<l.length)(k:K l[i]=r):aj.aI l (i:Int) K=r:=(bO h K).trans k
theorem tnt{α:Type}{l:List α}{i:Nat}{K:α->Option β}{r:Option β}(h:i<l.length)(k:K l[i]=r):aj.cr l (Int.toNat (i:Int)) K=r:=(iR h K).trans k
theorem yu{α:Type}{o:Option α}{a:α}{K:α->Option β}{r:Option β}(h:o=some a)(k:K a=r):aj.ae o K=r:=by subst h;exact k
theorem IZ{n:Nat}{a b r:Option β}(k:b=r):aj.af (decide ((n:Int)<(n:Int))) a b=r:=(dZ a b).trans k
theorem Jp{i n:Nat}{a b r:Option β}(h:i<n)(k:a=r):aj.af (decide ((i:Int)<(n:Int))) a b=r:=(dE h a b).trans k
end
theorem ni{α X S β}{l}(hN:l.length<9223372036854775808){f:X->(X->Option β)->Option β}(st:Nat->S->X)(Inv:Nat->S->Prop)(G:List α->S->Option β){z0:X}{s0:S}(hz:z0=st 0 s0)(h0:Inv 0 s0)
 (Dw:∀s,Inv l.length s->∀again:X->Option β,f (st l.length s) again=G [] s)
 (tC:∀(i:Nat) (hi:i<l.length) (s:S),Inv i s->∀again:X->Option β,(∀s',Inv (i+1) s'->again (st (i+1) s')=G (l.drop (i+1)) s')->f (st i s) again=G (l[i]::l.drop (i+1)) s):aj.aY f z0=G l s0:=by
 subst hz
 have key:∀n i s,i<=l.length->l.length-i<n->Inv i s->yO n f (st i s)=G (l.drop i) s:=by
  intro n;induction n with
  |zero=>intro i s _ h;omega
  |succ n ih=>
   intro i s hi hn hv;by_cases h:i<l.length
   .rw[ck h];exact tC i h s hv _ λs' hv'=>ih (i+1) s' (by omega) (by omega) hv'
   .have:i=l.length:=by omega
    subst this;rw[fH];exact Dw s hv _
 have:=key FU 0 s0 (bE _) (by rw[PZ];omega) h0
 rwa [sj]at this
section
variable {β : Type}
def zX{α:Type}(p:α->Bool)(s:List α):Int:=match s.findIdx? p with|some k=>((k:Nat):Int)|none => -1
theorem ve{α C}{s}(hl:s.length<=1000000)(p)(fn:α->C->Option (Bool×C))(c:C)(h:∀x∈s,fn x c=some (p x,c)):
 aj.aY (λz (again:Int×C->Option (Int×C))=>aj.af (decide (z.1<(s.length:Int))) (aj.aI s z.1 λx=>aj.ae (fn x z.2) λv=>aj.af v.1 (some (z.1,v.2)) (again (IntKind.i64.wrap (z.1+1),v.2))) (some ((-1:Int),z.2))) (0,c)=some (zX p s,c):=by
 refine ni (l:=s) (s0:=()) (by omega) (λi (_:Unit)=>((i:Int),c)) (λi _=>∀j,∀h:j<s.length,j<i->p s[j]=false) (λ_ _=>some (zX p s,c)) rfl (λj _ h=>by omega) ?_ ?_
 .intro _ NX again;refine IZ ?_;have:s.findIdx? p=none:=by rw[gz];intro x hx;obtain⟨j,hj,rfl⟩:=dJ.1 hx;exact NX j hj hj
  unfold zX;rw[this]
 .intro i hi _ NX again ha;refine Jp hi ?_;rw[bO hi,dX (h _ (aG hi))];by_cases hp:p s[i]=true
  .rw[hp,aQ rfl];have:s.findIdx? p=some i:=by rw[eM];exact⟨hi,hp,λj hj=>by rw[NX j (by omega) hj];simp⟩
   unfold zX;rw[this]
  .have hp:p s[i]=false:=by simpa using hp
   rw[hp,az rfl];rw[cU i (by omega)]
   exact ha () λj hj R8=>by
    by_cases auP:j=i
    .subst auP;exact hp
    .exact NX j hj (by omega)
theorem agX{α}(p)(s:List α):decide (0<=zX p s)=s.any p:=by
 unfold zX;cases h:s.findIdx? p with
 |none=>
  rw[gz]at h;have:s.any p=false:=by rw[kS];intro x hx;simp[h x hx]
  rw[this];rfl
 |some k=>obtain⟨h1,h2,_⟩:=eM.1 h;have:=jr.2 ⟨_,aG h1,h2⟩;rw[this];simp
theorem lx{α}(p)(s:List α):(zX p s = -1/\s.find? p=none)\/∃k:Nat,∃h:k<s.length,zX p s=(k:Int)/\s.find? p=some s[k]/\p s[k]=true:=by
 unfold zX;cases h:s.findIdx? p with
 |none=>refine .inl ⟨rfl,?_⟩;rw[gz]at h;rw[nh];intro x hx;simp[h x hx]
 |some k=>obtain⟨h1,h2,h3⟩:=eM.1 h;refine .inr ⟨k,h1,rfl,?_,h2⟩;rw[xY];exact⟨h2,k,h1,rfl,λj hj=>by simpa using h3 j hj⟩
theorem zr{k0}{f}{r}(c)(h:∀k:Bool×Unit->Option β,f k=k (c,()))(hr:k0 (c,())=r):aj.aH k0 f=r:=by show f k0=r;rw[h];exact hr
end
end Go.Vc
namespace Go.Proofs.YthghpahghjppjaaGreat
open Go Go.Vc Go.RowKit
@[reducible] def tU0:DT:=(.pair (.int .i64) (.pair (.int .i64) .unit))
@[reducible] def tF0:DT:=(.pair tU0 (.pair (.int .i64) .unit))
@[reducible] def Y0:DT:=(.pair tU0 (.pair (.slc tU0) .unit))
abbrev U0':=Int×Int×Unit
abbrev F0':=U0'×Int×Unit
def I8(x:U0'):List U0'->List U0'
 |[]=>[x]
 |y::l=>bif decide (x.1<y.1)||(x.1==y.1&&decide (x.2.1<y.2.1))then x::y::l else bif x.1==y.1&&x.2.1==y.2.1 then y::l else y::I8 x l
def lS(l:List F0'):List U0':=l.foldl (λs x=>I8 x.1 s) []
def VC{α:Type}(l:List α)(i j:Int):Option (List α×Unit):=bif decide (0<=i)&&decide (i<j)&&decide (j<=l.length)then some (l.take i.toNat++l.drop j.toNat,())else none
def JW{α:Type}(bytes:Nat)(l:List α)(i:Int)(v:List α):Option (List α×Unit):=bif decide (0<=i)&&decide (i<=l.length)&&Nat.ble ((l.length+1)*bytes) 140737488355328 then(match v with|[x]=>some (l.take i.toNat++x::l.drop i.toNat,())|_=>none)else none
def Er(l:List Y0.den)(i j:Int):Option (List Y0.den×Unit):=VC l i j
def Es(l:List Y0.den)(i:Int)(v:List Y0.den):Option (List Y0.den×Unit):=JW 40 l i v
def Jw(x y c:Int):Option (Int×Int×Unit):=if 0<=x/\0<=y/\0<=c/\c<=1 then some ((x+y+c) % 18446744073709551616,(x+y+c) / 18446744073709551616,())else none
def Hf(x y b:Int):Option (Int×Int×Unit):=if 0<=x/\0<=y/\y<18446744073709551616/\0<=b/\b<=1 then some ((x-y-b) % 18446744073709551616,if x<y+b then 1 else 0,())else none
abbrev KU2:=Int×Int×Unit
def leK(x y:KU2):Bool:=decide (x.1<y.1)||(x.1==y.1&&decide (x.2.1<=y.2.1))
def afr(x:KU2):List KU2->List KU2
 |[]=>[x]
 |y::l=>bif leK x y then x::y::l else y::afr x l
def Zh:List KU2->List KU2
 |[]=>[]
 |x::l=>afr x (Zh l)
def Bs(l:List KU2):Option (List KU2):=bif Nat.blt l.length 4611686018427387904 then some (Zh l)else none
def Mw(l:List F0')(n:Int):Option (List F0'×Unit):=bif decide (0<=n)&&decide ((l.length+n)*24<=140737488355328)then some (l,())else none
theorem OH(x:KU2):∀l,(afr x l).Perm (x::l)
 |[]=>.refl _
 |y::l=>by
  unfold afr;cases leK x y with
  |true=>exact .refl _
  |false=>exact((OH x l).cons y).trans (.swap x y l)
theorem Ew:∀l,(Zh l).Perm l
 |[]=>.refl _
 |x::l=>(OH x _).trans ((Ew l).cons x)
theorem anu{x y z:KU2}(h1:leK x y=true)(h2:leK y z=true):leK x z=true:=by simp only[leK,fI,aB,bb,fP]at *;omega
theorem ahF{x y:KU2}(h:leK x y=false):leK y x=true:=by simp only[leK,oB,Bool.and_eq_false_imp,pQ,fP,fI,aB,bb]at *;omega
theorem acn(x:KU2):∀{l:List KU2},l.Pairwise (λa b=>leK a b=true)->(afr x l).Pairwise λa b=>leK a b=true
 |[],_=>by simp[afr]
 |y::l,h=>by
  obtain⟨h1,h2⟩:=bD.1 h;unfold afr;cases hxy:leK x y with
  |true=>exact bD.2 ⟨λz hz=>(aF.1 hz).elim (λe=>e▸hxy) λhz=>anu hxy (h1 z hz),h⟩
  |false=>exact bD.2 ⟨λz hz=>(aF.1 ((OH x l).mem_iff.1 hz)).elim (λe=>e▸ahF hxy) (h1 z),acn x h2⟩
theorem Tm:∀l,(Zh l).Pairwise λa b=>leK a b=true
 |[]=>.nil
 |x::l=>acn x (Tm l)
namespace Lot
@[reducible] def YY:DT:=(.pair (.int .i64) (.pair (.int .i64) (.pair (.int .i64) .unit)))
def Ed(l:List YY.den)(i j:Int):Option (List YY.den×Unit):=VC l i j
def Ik(l:List YY.den)(i:Int)(v:List YY.den):Option (List YY.den×Unit):=JW 24 l i v
end Lot
theorem anb{α:Type}{l:List α}{i j:Int}{o:List α×Unit}(h:VC l i j=some o):∃a b:Nat,i=a/\j=b/\a<b/\b<=l.length/\o=(l.take a++l.drop b,()):=by
 unfold VC at h;rcases yN h with⟨hc,h⟩|⟨_,h⟩
 .simp only[aB,bb]at hc;obtain⟨⟨h0,h1⟩,h2⟩:=hc;obtain⟨a,rfl⟩:=cS h0;obtain⟨b,rfl⟩:=cS (by omega:0<=j);have h:=cJ h;exact⟨a,b,rfl,rfl,by omega,by omega,by rw[<-h];rfl⟩
 .cases h
end Go.Proofs.YthghpahghjppjaaGreat
namespace Go.Vc
open Go
def Js(x:Int):List Int->List Int
 |[]=>[x]
 |y::l=>bif decide (x<=y)then x::y::l else y::Js x l
def yG:List Int->List Int
 |[]=>[]
 |x::l=>Js x (yG l)
def ajN(p:Option Int)(x:Int):Bool:=match p with|some y=>x==y|none=>false
def yH:Option Int->List Int->List Int
 |_,[]=>[]
 |p,x::l=>bif ajN p x then yH (some x) l else x::yH (some x) l
def vv(l:List Int):List Int:=yH none l
def Th(l:List Int):Option (List Int):=bif Nat.blt l.length 4611686018427387904 then some (yG l)else none
def PV(l:List Int):Option (List Int×Unit):=some (vv l,())
end Go.Vc
namespace Go.Proofs.YthghpahghjppjaaGreat.Ay
open Go Go.Vc Go.RowKit Go.Proofs.YthghpahghjppjaaGreat
@[reducible] def Ak:DT:=(.pair (.int .i64) (.pair (.int .i64) (.pair (.int .i64) (.pair (.int .i64) (.pair (.slc (.int .i64)) .unit)))))
def Bo(l:List Ak.den)(i:Int)(v:List Ak.den):Option (List Ak.den×Unit):=JW 56 l i v
end Go.Proofs.YthghpahghjppjaaGreat.Ay
namespace Go.Proofs.YthghpahghjppjaaGreat.Az
open Go Go.Vc Go.RowKit Go.Proofs.YthghpahghjppjaaGreat
@[reducible] def Ak:DT:=(.pair (.int .i64) (.pair (.int .i64) (.pair (.int .i64) .unit)))
def CO(l:List Ak.den)(i:Int)(v:List Ak.den):Option (List Ak.den×Unit):=JW 24 l i v
end Go.Proofs.YthghpahghjppjaaGreat.Az
namespace Go.Proofs.YthghpahghjppjaaGreat.AA
open Go Go.Vc Go.RowKit Go.Proofs.YthghpahghjppjaaGreat
@[reducible] def Ak:DT:=(.pair (.int .i64) (.pair (.int .i64) (.pair (.int .i64) (.pair (.slc (.int .i64)) .unit))))
def yh(l:List Ak.den)(i:Int)(v:List Ak.den):Option (List Ak.den×Unit):=JW 48 l i v
end Go.Proofs.YthghpahghjppjaaGreat.AA
namespace Go.Proofs.YthghpahghjppjaaGreat.AB
open Go Go.Vc Go.RowKit Go.Proofs.YthghpahghjppjaaGreat
@[reducible] def Ak:DT:=(.pair (.pair (.int .i64) (.pair (.int .i64) .unit)) (.pair (.pair (.int .i64) (.pair (.int .i64) .unit)) (.pair .bool .unit)))
def Al(l:List Ak.den)(i:Int)(v:List Ak.den):Option (List Ak.den×Unit):=JW 40 l i v
end Go.Proofs.YthghpahghjppjaaGreat.AB
namespace Go.Proofs.YthghpahghjppjaaGreat.AD
open Go Go.Vc Go.RowKit Go.Proofs.YthghpahghjppjaaGreat
@[reducible] def Ak:DT:=(.int .i64)
def Iw(l:List Ak.den)(i:Int)(v:List Ak.den):Option (List Ak.den×Unit):=JW 8 l i v
end Go.Proofs.YthghpahghjppjaaGreat.AD
namespace Go.Proofs.YthghpahghjppjaaGreat
open Go Go.Vc Go.RowKit
def YP(l:List Int):Option (List Int):=Th l
def Tk(l:List Int):Option (List Int×Unit):=PV l
end Go.Proofs.YthghpahghjppjaaGreat



namespace Go.Proofs.YthghpahghjppjaaGreat
open Go Go.Vc Go.RowKit
abbrev Ev:=Int×Int×Int×Unit
@[reducible] def tQ0:DT:=.pair (.int .i64) (.pair (.int .i64) (.pair (.int .i64) .unit))
def leQ(x y:Ev):Bool:=decide (y.2.2.1<x.2.2.1)||(x.2.2.1==y.2.2.1&&decide (x.1<=y.1))
def afs(x:Ev):List Ev->List Ev
 |[]=>[x]
 |y::l=>bif leQ x y then x::y::l else y::afs x l
def uf:List Ev->List Ev
 |[]=>[]
 |x::l=>afs x (uf l)
def aft:List Ev->Bool
 |[]=>true
 |x::l=>l.all (λy=>decide (x.1<y.1))&&aft l
def uv(l:List Ev):Option (List Ev):=bif Nat.blt l.length 4611686018427387904&&aft l then some (uf l)else none
theorem OI(x:Ev):∀l,(afs x l).Perm (x::l)
 |[]=>.refl _
 |y::l=>by
  unfold afs;cases leQ x y with
  |true=>exact .refl _
  |false=>exact((OI x l).cons y).trans (.swap x y l)
theorem uw:∀l,(uf l).Perm l
 |[]=>.refl _
 |x::l=>(OI x _).trans ((uw l).cons x)
theorem Iy(x y:Ev):leQ x y=true↔y.2.2.1<x.2.2.1\/(x.2.2.1=y.2.2.1/\x.1<=y.1):=by simp only[leQ,fI,aB,bb,fP]
theorem avJ{x y z:Ev}(h1:leQ x y=true)(h2:leQ y z=true):leQ x z=true:=by rw[Iy]at *;omega
theorem ar5{x y:Ev}(h:leQ x y=false):leQ y x=true:=by rw[Iy];rw[<-xT,Iy]at h;omega
theorem aco(x:Ev):∀{l:List Ev},l.Pairwise (λa b=>leQ a b=true)->(afs x l).Pairwise λa b=>leQ a b=true
 |[],_=>by simp[afs]
 |y::l,h=>by
  obtain⟨h1,h2⟩:=bD.1 h;unfold afs;cases hxy:leQ x y with
  |true=>exact bD.2 ⟨λz hz=>(aF.1 hz).elim (λe=>e▸hxy) λhz=>avJ hxy (h1 z hz),h⟩
  |false=>exact bD.2 ⟨λz hz=>(aF.1 ((OI x l).mem_iff.1 hz)).elim (λe=>e▸ar5 hxy) (h1 z),aco x h2⟩
theorem Tp:∀l,(uf l).Pairwise λa b=>leQ a b=true
 |[]=>.nil
 |x::l=>aco x (Tp l)
theorem Te:∀l,aft l=true↔l.Pairwise λa b:Ev=>a.1<b.1
 |[]=>by simp[aft]
 |x::l=>by rw[aft,aB,mD,bD,Te l];simp
theorem ahI:∀{l:List Ev},l.Pairwise (λa b:Ev=>a.1<b.1)->∀a∈l,∀b∈l,a.1=b.1->a=b
 |[],_,a,ha,_,_,_=>by cases ha
 |x::l,h,a,ha,b,hb,e=>by
  obtain⟨h1,h2⟩:=bD.1 h;rcases aF.1 ha with e1|ha1
  .rcases aF.1 hb with e2|hb1
   .rw[e1,e2]
   .have:=h1 b hb1;rw[e1]at e;omega
  .rcases aF.1 hb with e2|hb1
   .have:=h1 a ha1;rw[e2]at e;omega
   .exact ahI h2 a ha1 b hb1 e
theorem PU{l l':List Ev}(h:uv l=some l'):l.length<4611686018427387904/\aft l=true/\l'=uf l:=by
 unfold uv at h;cases hb:Nat.blt l.length 4611686018427387904&&aft l with
 |false=>rw[hb]at h;cases h
 |true=>rw[hb]at h;obtain⟨h1,h2⟩:=(aB _ _).mp hb;exact⟨bQ h1,h2,(cJ h).symm⟩
theorem ar0{l l':List Ev}(hi:l.Pairwise λa b:Ev=>a.1<b.1)(hp:l'.Perm l)(hs:l'.Pairwise λa b=>leQ a b=true):l'=uf l:=tM (le:=λa b=>leQ a b=true) (λa b ha hb h1 h2=>by rw[Iy]at h1 h2;exact ahI hi a (hp.mem_iff.1 ha) b ((uw l).mem_iff.1 hb) (by omega)) hs (Tp l) (hp.trans (uw l).symm)
end Go.Proofs.YthghpahghjppjaaGreat
namespace Go.Vc
abbrev U17{A0 A1 A2 A3 A4 A5 A6 A7 A8 A9 Gf He Jv MB PW To Xl R T:Type}(e:A0×A1×A2×A3×A4×A5×A6×A7×A8×A9×Gf×He×Jv×MB×PW×To×Xl×R)(t:T):A0×A1×A2×A3×A4×A5×A6×A7×A8×A9×Gf×He×Jv×MB×PW×To×Xl×T:=(e.1,U16 e.2 t)
abbrev U18{A0 A1 A2 A3 A4 A5 A6 A7 A8 A9 Gf He Jv MB PW To Xl A17 R T:Type}(e:A0×A1×A2×A3×A4×A5×A6×A7×A8×A9×Gf×He×Jv×MB×PW×To×Xl×A17×R)(t:T):A0×A1×A2×A3×A4×A5×A6×A7×A8×A9×Gf×He×Jv×MB×PW×To×Xl×A17×T:=(e.1,e.2.1,U16 e.2.2 t)
abbrev U19{A0 A1 A2 A3 A4 A5 A6 A7 A8 A9 Gf He Jv MB PW To Xl A17 A18 R T:Type}(e:A0×A1×A2×A3×A4×A5×A6×A7×A8×A9×Gf×He×Jv×MB×PW×To×Xl×A17×A18×R)(t:T):A0×A1×A2×A3×A4×A5×A6×A7×A8×A9×Gf×He×Jv×MB×PW×To×Xl×A17×A18×T:=(e.1,e.2.1,e.2.2.1,U16 e.2.2.2 t)
abbrev U22{A0 A1 A2 A3 A4 A5 A6 A7 A8 A9 Gf He Jv MB PW To Xl A17 A18 A19 A20 A21 R T:Type}(e:A0×A1×A2×A3×A4×A5×A6×A7×A8×A9×Gf×He×Jv×MB×PW×To×Xl×A17×A18×A19×A20×A21×R)(t:T):A0×A1×A2×A3×A4×A5×A6×A7×A8×A9×Gf×He×Jv×MB×PW×To×Xl×A17×A18×A19×A20×A21×T:=(e.1,e.2.1,e.2.2.1,e.2.2.2.1,e.2.2.2.2.1,e.2.2.2.2.2.1,U16 e.2.2.2.2.2.2 t)
abbrev U24{A0 A1 A2 A3 A4 A5 A6 A7 A8 A9 Gf He Jv MB PW To Xl A17 A18 A19 A20 A21 A22 A23 R T:Type}(e:A0×A1×A2×A3×A4×A5×A6×A7×A8×A9×Gf×He×Jv×MB×PW×To×Xl×A17×A18×A19×A20×A21×A22×A23×R)(t:T):A0×A1×A2×A3×A4×A5×A6×A7×A8×A9×Gf×He×Jv×MB×PW×To×Xl×A17×A18×A19×A20×A21×A22×A23×T:=(e.1,e.2.1,e.2.2.1,e.2.2.2.1,e.2.2.2.2.1,e.2.2.2.2.2.1,e.2.2.2.2.2.2.1,e.2.2.2.2.2.2.2.1,U16 e.2.2.2.2.2.2.2.2 t)
abbrev U27{A0 A1 A2 A3 A4 A5 A6 A7 A8 A9 Gf He Jv MB PW To Xl A17 A18 A19 A20 A21 A22 A23 A24 A25 A26 R T:Type}(e:A0×A1×A2×A3×A4×A5×A6×A7×A8×A9×Gf×He×Jv×MB×PW×To×Xl×A17×A18×A19×A20×A21×A22×A23×A24×A25×A26×R)(t:T):A0×A1×A2×A3×A4×A5×A6×A7×A8×A9×Gf×He×Jv×MB×PW×To×Xl×A17×A18×A19×A20×A21×A22×A23×A24×A25×A26×T:=(e.1,e.2.1,e.2.2.1,e.2.2.2.1,e.2.2.2.2.1,e.2.2.2.2.2.1,e.2.2.2.2.2.2.1,e.2.2.2.2.2.2.2.1,e.2.2.2.2.2.2.2.2.1,e.2.2.2.2.2.2.2.2.2.1,e.2.2.2.2.2.2.2.2.2.2.1,U16 e.2.2.2.2.2.2.2.2.2.2.2 t)
abbrev pd{A0 A1 A2 A3 A4 A5 A6 A7 A8 A9 Gf He Jv MB PW To Xl A17 A18 A19 A20 A21 A22 A23 A24 A25 A26 A27 A28 A29 R T:Type}(e:A0×A1×A2×A3×A4×A5×A6×A7×A8×A9×Gf×He×Jv×MB×PW×To×Xl×A17×A18×A19×A20×A21×A22×A23×A24×A25×A26×A27×A28×A29×R)(t:T):A0×A1×A2×A3×A4×A5×A6×A7×A8×A9×Gf×He×Jv×MB×PW×To×Xl×A17×A18×A19×A20×A21×A22×A23×A24×A25×A26×A27×A28×A29×T:=(e.1,e.2.1,e.2.2.1,e.2.2.2.1,e.2.2.2.2.1,e.2.2.2.2.2.1,e.2.2.2.2.2.2.1,e.2.2.2.2.2.2.2.1,e.2.2.2.2.2.2.2.2.1,e.2.2.2.2.2.2.2.2.2.1,e.2.2.2.2.2.2.2.2.2.2.1,e.2.2.2.2.2.2.2.2.2.2.2.1,e.2.2.2.2.2.2.2.2.2.2.2.2.1,e.2.2.2.2.2.2.2.2.2.2.2.2.2.1,U16 e.2.2.2.2.2.2.2.2.2.2.2.2.2.2 t)
end Go.Vc