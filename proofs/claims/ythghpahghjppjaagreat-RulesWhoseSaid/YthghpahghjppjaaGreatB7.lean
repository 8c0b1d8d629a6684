import Derived.Test.YthghpahghjppjaaGreatB6
namespace Go.Proofs.YthghpahghjppjaaGreat
open Go Go.Vc Go.RowKit
def VB(c:cm):Prop:=uO c.1/\uO c.2.1/\(∀L,∀x∈fm L c,uO x)/\(nv c).length<=1000
def GP(c:cm):List Int:=o4 [c.1,c.2.1]++((fl c.1).flatMap λL=>o4 (fm L c))
theorem alL{u}{b}(h1:uO u.1)(h2:uO u.2.1)(hb:b.length<=1000000):alM true b u=some ((),true,b++o4 [u.1,u.2.1],()):=by show Ax aj true b u=_;unfold Ax;rw[dX (Ry (l:=[u.1,u.2.1]) (by intro n hn;simp at hn;rcases hn with rfl|rfl;exact h1;exact h2) (by simp) (by omega))]
theorem aqA{c}(L){b}(hc:VB c)(hb:b.length<=1000000):ajv true b c (L.code:Int)=some ((),true,b++o4 (fm L c),()):=by
 show xl aj true b c (L.code:Int)=_;unfold xl;have hv:=hc.2.2.1 L;have one:∀x:Int,uO x->zt true b (x::[])=some ((),true,b++o4 [x],()):=λx hx=>Ry (l:=[x]) (by intro n hn;simp at hn;subst hn;exact hx) (by simp) (by omega)
 cases L with
 |M=>rw[aQ (by rfl),dX (one _ (hv _ (by simp[fm])))];rfl
 |U=>rw[az (by rfl),aQ (by rfl),dX (alL (hv _ (by simp[fm])) (hv _ (by simp[fm])) hb)];rfl
 |O=>rw[az (by rfl),az (by rfl),aQ (by rfl),dX (alL (hv _ (by simp[fm])) (hv _ (by simp[fm])) hb)];rfl
 |I=>rw[az (by rfl),az (by rfl),az (by rfl),aQ (by rfl),dX (one _ (hv _ (by simp[fm])))];rfl
 |A=>rw[az (by rfl),az (by rfl),az (by rfl),az (by rfl),aQ (by rfl),dX (one _ (hv _ (by simp[fm])))];rfl
 |T=>rw[az (by rfl),az (by rfl),az (by rfl),az (by rfl),az (by rfl),aQ (by rfl),dX (one _ (hv _ (by simp[fm])))];rfl
 |D=>rw[az (by rfl),az (by rfl),az (by rfl),az (by rfl),az (by rfl),az (by rfl),aQ (by rfl),dX (one _ (hv _ (by simp[fm])))];rfl
 |Q=>rw[az (by rfl),az (by rfl),az (by rfl),az (by rfl),az (by rfl),az (by rfl),az (by rfl),aQ (by rfl),dX (one _ (hv _ (by simp[fm])))];rfl
 |P=>rw[az (by rfl),az (by rfl),az (by rfl),az (by rfl),az (by rfl),az (by rfl),az (by rfl),az (by rfl),aQ (by rfl),dX (one _ (hv _ (by simp[fm])))];rfl
 |N=>
  rw[az (by rfl),az (by rfl),az (by rfl),az (by rfl),az (by rfl),az (by rfl),az (by rfl),az (by rfl),az (by rfl),aQ (by rfl),dX (one _ (hv _ (by simp[fm])))];have hn:=hc.2.2.2;unfold nv at hn;show aj.ae (zt true (b++o4 [(c.2.2.2.2.2.2.2.2.2.2.2.1.length:Int)]) c.2.2.2.2.2.2.2.2.2.2.2.1) _=_;have h10:(o4 [(c.2.2.2.2.2.2.2.2.2.2.2.1.length:Int)]).length<=10:=by have:=GQ (l:=[(c.2.2.2.2.2.2.2.2.2.2.2.1.length:Int)]) (by intro n GO;simp at GO;subst GO;unfold uO;omega);simpa using this
  rw[dX (Ry (λn hn=>hv n (by simp[fm,hn])) (by omega) (by rw[ap];omega)),bq,<-D3];rfl
theorem WD{c}(hc:VB c)(L):(o4 (fm L c)).length<=10010:=by
 have:=GQ (l:=fm L c) (hc.2.2.1 L);have h2:(fm L c).length<=1001:=by have:=hc.2.2.2;unfold nv at this;cases L<;>simp[fm]<;>omega
 omega
theorem ajw{c}(hc:VB c):abe c=some (GP c):=by
 show vh aj c=_;unfold vh;rw[alN,dX (show alO=some ((),true,[],())from rfl)];refine(dX (Ry (l:=[c.1,c.2.1]) (by intro n hn;simp at hn;rcases hn with rfl|rfl;exact hc.1;exact hc.2.1) (by simp) (by simp)) _).trans ?_;rw[dX (WC _)];have hls:=aeN c.1;unfold GP;have h20:(o4 [c.1,c.2.1]).length<=20:=by have:=GQ (l:=[c.1,c.2.1]) (by intro n hn;simp at hn;rcases hn with rfl|rfl;exact hc.1;exact hc.2.1);simpa using this
 generalize fl c.1=ls at*
 have hlen:∀l:List Lt,(l.flatMap λL=>o4 (fm L c)).length<=10010*l.length:=by
  intro l;induction l with
  |nil=>simp
  |cons L l ih=>rw[cw,ap,aJ];have:=WD hc L;omega
 refine(iH (λz=>ls.length-z.2.2.1.2.1.toNat) (λz=>∃i:Nat,z=(true,o4 [c.1,c.2.1]++((ls.take i).flatMap λL=>o4 (fm L c)),(str ls,(i:Int),()),())/\i<=ls.length) (λ_=>some (o4 [c.1,c.2.1]++(ls.flatMap λL=>o4 (fm L c)))) ⟨0,by simp,by omega⟩ (by dsimp only;omega) ?_);rintro _ ⟨i,rfl,hi⟩ again ha;have Cn:=hlen (ls.take i);rw[aX]at Cn;show aj.zZ (str ls) (i:Int) _ _=_;by_cases hlt:i<ls.length
 .rw[alD ls i hlt];refine(dX (aqA ls[i] hc (by rw[ap];omega)) _).trans ?_;refine ha _ ⟨i+1,?_,by omega⟩ (by dsimp only;omega);rw[show ls.take (i+1)=ls.take i++[ls[i]]by simp,jK,bq];simp
 .obtain rfl:i=ls.length:=by omega
  rw[alE ls _ (au _)];refine(dX (avg (by rw[ap];omega)) _).trans ?_;rw[br]
theorem alP{α:Type}[DecidableEq α]{l m:List α}(f:Int×Unit->(Int×Unit->Option Bool)->Option Bool)(hl:l.length<=1000000)(hm:l.length=m.length)
 (hf:∀(i:Nat) (h:i<l.length) (again:Int×Unit->Option Bool),f ((i:Int),()) again=if l[i]=m[i]'(by omega)then again (((i+1:Nat):Int),())else some false) (he:∀again:Int×Unit->Option Bool,f ((l.length:Int),()) again=some true):aj.aY f (0,())=some (decide (l=m)):=by
 refine(ib (l:=l) (by omega) (λi _=>l.take i=m.take i) (λ_ _=>some (decide (l=m))) (s0:=()) (by simp) ?_ ?_)
 .rintro⟨⟩ again h;rw[he];rw[br,hm,br]at h;rw[aq h]
 .rintro i hi ⟨⟩ h again ha;rw[hf i hi];by_cases h1:l[i]=m[i]'(by omega)
  .rw[ah h1,ha ()];rw[show l.take (i+1)=l.take i++[l[i]]by simp,show m.take (i+1)=m.take i++[m[i]'(by omega)]by simp,h,h1]
  .rw[ag h1,an (λe=>h1 (by subst e;rfl))]
theorem ajx{l m:List Int}(hl:l.length<=1000000):D6 l m=some (decide (l=m)):=by
 show i6 aj l m=_;unfold i6;by_cases h:l.length=m.length
 .rw[az (by simp[h])];refine alP _ hl h (λi hi again=>?_) (λagain=>?_)
  .rw[dE hi,bO hi,bO (by omega)];by_cases h1:l[i]=m[i]'(by omega)
   .rw[az (by simp[h1]),ah h1];dsimp only;rw[cU i (by omega)]
   .rw[aQ (by simp[h1]),ag h1]
  .rw[dZ]
 .rw[aQ (by simp;omega),an (λe=>h (by rw[e]))]
def eqC(a b:cm):Bool:=(nv a==nv b)&&((a.1==b.1)&&((a.2.1==b.2.1)&&((a.2.2.1==b.2.2.1)&&(((a.2.2.2.1.1==b.2.2.2.1.1)&&(a.2.2.2.1.2.1==b.2.2.2.1.2.1))&&(((a.2.2.2.2.1.1==b.2.2.2.2.1.1)&&(a.2.2.2.2.1.2.1==b.2.2.2.2.1.2.1))&&((a.2.2.2.2.2.1==b.2.2.2.2.2.1)&&((a.2.2.2.2.2.2.1==b.2.2.2.2.2.2.1)&&((a.2.2.2.2.2.2.2.1==b.2.2.2.2.2.2.2.1)&&((a.2.2.2.2.2.2.2.2.1==b.2.2.2.2.2.2.2.2.1)&&((a.2.2.2.2.2.2.2.2.2.1==b.2.2.2.2.2.2.2.2.2.1)&&(a.2.2.2.2.2.2.2.2.2.2.1==b.2.2.2.2.2.2.2.2.2.2.1)))))))))))
theorem abf{a b}(h:eqC a b=true):a=b:=by obtain⟨a1,a2,a3,⟨a4,a5,⟨⟩⟩,⟨a6,a7,⟨⟩⟩,a8,a9,a10,a11,a12,a13,a14,⟨⟩⟩:=a;obtain⟨b1,b2,b3,⟨b4,b5,⟨⟩⟩,⟨b6,b7,⟨⟩⟩,b8,b9,b10,b11,b12,b13,b14,⟨⟩⟩:=b;simp only[eqC,nv,aB,fP]at h;obtain⟨h14,h1,h2,h3,⟨h4,h5⟩,⟨h6,h7⟩,h8,h9,h10,h11,Sg,h13⟩:=h;subst h1 h2 h3 h4 h5 h6 h7 h8 h9 h10 h11 Sg h13 h14;rfl
theorem abg(a):eqC a a=true:=by simp[eqC]
instance:DecidableEq cm:=λa b=>if h:eqC a b=true then isTrue (abf h)else isFalse (λe=>h (e▸abg a))
theorem alQ(b c):(bif b then some c else some false)=some (b&&c):=by cases b<;>rfl
theorem aqB{a b}(h:(nv a).length<=1000):alR a b=some (eqC a b):=by
 show D7 aj a b=_;unfold D7;unfold nv at h;have e:decide (a.2.2.2.2.2.2.2.2.2.2.2.1=b.2.2.2.2.2.2.2.2.2.2.2.1)=(a.2.2.2.2.2.2.2.2.2.2.2.1==b.2.2.2.2.2.2.2.2.2.2.2.1):=by rw[tW];simp
 rw[dX (ajx (l:=a.2.2.2.2.2.2.2.2.2.2.2.1) (m:=b.2.2.2.2.2.2.2.2.2.2.2.1) (by omega)),e];simp only[alQ];rfl
theorem ahk{l}:Bt (o4 l):=by
 have one:∀u:Nat,Bt (D2 u):=by
  intro u;induction u using Nat.strongRecOn with
  |ind u ih=>
   by_cases h:u<128
   .rw[Rz h];intro b hb;simp at hb;subst hb;omega
   .rw[RA (by omega)];intro b hb;rcases aF.1 hb with rfl|hb
    .omega
    .exact ih (u / 128) (by omega) b hb
 intro b hb;obtain⟨n,_,hb⟩:=eG.1 (show b∈l.flatMap λn=>D2 (fold n)from hb);exact one _ b hb
theorem WE(c):Bt (GP c):=by
 intro b hb;rcases aT.1 (show b∈o4 [c.1,c.2.1]++((fl c.1).flatMap λL=>o4 (fm L c))from hb)with hb|hb
 .exact ahk b hb
 .obtain⟨L,_,hb⟩:=eG.1 hb;exact ahk b hb
theorem aeO{c}(hc:VB c):(GP c).length<=100000:=by
 have h20:(o4 [c.1,c.2.1]).length<=20:=by have:=GQ (l:=[c.1,c.2.1]) (by intro n hn;simp at hn;rcases hn with rfl|rfl;exact hc.1;exact hc.2.1);simpa using this
 have hlen:∀l:List Lt,(l.flatMap λL=>o4 (fm L c)).length<=10010*l.length:=by
  intro l;induction l with
  |nil=>simp
  |cons L l ih=>rw[cw,ap,aJ];have:=WD hc L;omega
 have h1:=hlen (fl c.1);have h2:=aeN c.1;unfold GP;rw[ap];omega
def alS(c:cm):Int:=if(abd (pX (GP c))).2.1=0/\(abd (pX (GP c))).1=c then 0 else 3
theorem alT{b}(hb:Bt b):(nv (abd (pX b)).1).length<=1000:=by
 unfold abd;by_cases h:Yu (pX b).2=0
 .rw[ag (by simp[h])];have:=(aq9 hb h).2.2.2.2;dsimp only;omega
 .rw[ah h];dsimp only;simp[nv,ahi]
theorem alU{c}(hc:VB c):ajy c=some (alS c):=by
 show AU aj c=_;unfold AU alS;refine(dX (ajw hc) _).trans ?_;rw[dX (ava (WE c) (by have:=aeO hc;omega)),xk];have hn:=alT (WE c);generalize abd (pX (GP c))=r at *;by_cases h:r.2.1=0
 .rw[az (by simp[h])];refine(dX (aqB hn) _).trans ?_;show aj.af (!eqC r.1 c) _ _=_;by_cases he:r.1=c
  .rw[he,abg,az (by rfl),ah (show r.2.1=0/\c=c from⟨h,rfl⟩)]
  .have:eqC r.1 c=false:=by cases h2:eqC r.1 c;rfl;exact absurd (abf h2) he
   rw[this,aQ (by rfl),ag (show ¬(r.2.1=0/\r.1=c)from λh=>he h.2)]
 .rw[aQ (by simp[h]),ag (show ¬(r.2.1=0/\r.1=c)from λh'=>h h'.1)];exact VA (by rfl) rfl
set_option synthInstance.maxSize 100000
def wN{α:Type}(f:α->Int)(l:List α)(x:α):List α:=l.takeWhile (λy=>decide (f y<f x))++x::l.dropWhile (λy=>decide (f y<f x))
def qU{α:Type}(f:α->Int)(l:List α):Prop:=(l.map f).Pairwise (· < ·)
theorem asY{α}(f){l:List α}{x:α}{j:Nat}(h1:∀y∈l.take j,f y<f x)(h2:∀y∈l.drop j,¬f y<f x):l.take j++x::l.drop j=wN f l x:=by
 unfold wN
 have key:∀(a b:List α),(∀y∈a,f y<f x)->(∀y∈b,¬f y<f x)->(a++b).takeWhile (λy=>decide (f y<f x))=a/\(a++b).dropWhile (λy=>decide (f y<f x))=b:=by
  intro a;induction a with
  |nil=>
   intro b _ hb;cases b with
   |nil=>exact⟨rfl,rfl⟩
   |cons y b=>have:=hb y (by simp);rw[dA,pn,zW,an this];exact⟨rfl,rfl⟩
  |cons y a ih=>intro b ha hb;have:=ha y (by simp);rw[kh,pn,zW,aq this];obtain⟨e1,e2⟩:=ih b (λz hz=>ha z (by simp[hz])) hb;exact⟨by rw[ah rfl,e1],by rw[ah rfl,e2]⟩
 obtain⟨e1,e2⟩:=key (l.take j) (l.drop j) h1 h2;rw[nk]at e1 e2;rw[e1,e2]
theorem yF{α}{f}{l:List α}{x y:α}:y∈wN f l x↔y=x\/y∈l:=by
 unfold wN;rw[aT,aF];constructor
 .rintro(h|h|h)
  .exact .inr (List.takeWhile_sublist _ |>.subset h)
  .exact .inl h
  .exact .inr (List.dropWhile_sublist _ |>.subset h)
 .rintro(h|h)
  .exact .inr (.inl h)
  .rw[<-jU (p:=λy=>decide (f y<f x)) (l:=l),aT]at h;rcases h with h|h
   .exact .inl h
   .exact .inr (.inr h)
theorem abC{α}(f)(l:List α)(x:α):(wN f l x).length=l.length+1:=by unfold wN;have:=bA List.length (jU (p:=λy=>decide (f y<f x)) (l:=l));rw[ap]at this;rw[ap,aJ];omega
theorem axb{α}{f}{l:List α}(h:qU f l){j:Nat}(hj:j<l.length):(∀y∈l.take j,f y<f l[j])/\∀y∈l.drop j,¬f y<f l[j]:=by
 unfold qU at h;rw[ru,bN]at h;constructor
 .intro y hy;obtain⟨k,hk,rfl⟩:=dJ.1 hy;rw[aX]at hk;rw[kW];exact h k j (by omega) hj (by omega)
 .intro y hy;obtain⟨k,hk,rfl⟩:=dJ.1 hy;rw[dk]at hk;rw[De];rcases fv k with rfl|h0
  .simp
  .have:=h j (j+k) hj (by omega) (by omega);omega
theorem ap7{α}{p}:∀{l:List α} {y:α},y∈l.takeWhile p->p y=true
 |[],_,h=>by cases h
 |a::l,y,h=>by
  rw[pn]at h;by_cases e:p a=true
  .rw[ah e]at h;rcases aF.1 h with rfl|h
   .exact e
   .exact ap7 h
  .rw[ag e]at h;cases h
theorem Ml{α}{f}{l:List α}{x:α}(h:qU f l)(hx:∀y∈l,f y≠f x):qU f (wN f l x):=by
 unfold wN qU;have e:=jU (p:=λy=>decide (f y<f x)) (l:=l);have hp:∀y∈l.takeWhile (λy=>decide (f y<f x)),f y<f x:=λy hy=>by simpa using ap7 hy
 unfold qU at h;rw[<-e,cz]at h;obtain⟨h1,h2,h3⟩:=dM.1 h
 have hd:∀y∈l.dropWhile (λy=>decide (f y<f x)),f x<f y:=by
  intro y hy;have hyl:=List.dropWhile_sublist _ |>.subset hy;have hne:=hx y hyl;cases hdw:l.dropWhile (λy=>decide (f y<f x))with
  |nil=>rw[hdw]at hy;cases hy
  |cons z zs=>
   have hz:¬f z<f x:=by have:=List.head?_dropWhile_not (λy=>decide (f y<f x)) l;rw[hdw]at this;simpa using this
   rw[hdw]at hy h2;rcases aF.1 hy with rfl|hy
   .omega
   .rw[bK,bD]at h2;have:=h2.1 (f y) (dp hy);omega
 rw[cz,bK];refine dM.2 ⟨h1,bD.2 ⟨?_,h2⟩,?_⟩
 .intro k hk;obtain⟨y,hy,rfl⟩:=aN.1 hk;exact hd y hy
 .intro a ha b hb;obtain⟨y,hy,rfl⟩:=aN.1 ha;rcases aF.1 hb with rfl|hb
  .exact hp y hy
  .exact h3 _ ha _ hb
theorem xt{α}{f:α->Int}{l:List α}{id:Int}(h:l.find? (λy=>f y==id)=none):∀y∈l,f y≠id:=λy hy=>by have:=nh.1 h y hy;simpa using this
theorem adG{s}(h:s.length<=1000000):u5 s=some s:=by
 show eE aj s=_;unfold eE;rw[Dy];refine yj ?_ λhe=>?_
 .refine AP (by decide) ?_;rw[dm (by omega) (by omega)];rfl
 .have:s=[]:=by simpa using he
  subst this;rfl
theorem aiR{t}{id}(hl:t.length<=1000000):WA t id=some (zX (λm=>m.1==id) t):=by
 have e1:iv id t=some (zX (λm=>m.1==id) t,id,()):=by show cf aj id t=_;unfold cf;exact ve hl (λm=>m.1==id) (λm (c:Int×Unit)=>PC c.1 m) (id,()) λx _=>rfl
 show qd aj t id=_;unfold qd;rw[ai e1]
theorem Nf(m):qe m=some (if m.2.2.1=0 then 0 else 15):=by
 show iQ aj m=_;unfold iQ;by_cases h:m.2.2.1=0
 .rw[az (by simp[h]),ah h]
 .rw[aQ (by simp[h]),ag h]
def J2(l:List aW)(m:aW):List aW×Int×Unit:=if Af m then(if mG l m.1=none then(wN (·.1) l m,0,())else([],12,()))else([],2,())
theorem ap8{l:List aW}{m:aW}(hl:l.length<=1000)(hs:qU (·.1) l):Uv l m=some (J2 l m):=by
 show y8 aj l m=_;unfold y8 J2;rw[ai (KZ m)];by_cases hm:Af m
 .rw[ah hm,ah hm,az (by rfl),ai (aiR (by omega))];unfold mG;rcases lx (λa:aW=>a.1==m.1) l with⟨h1,h2⟩|⟨k,hk,h1,h2,_⟩
  .rw[h1,ah h2,az (by decide),ja,ai (adG (by omega)),dm (by simp;omega) (by simp;omega)];have hne:=xt (f:=λy:aW=>y.1) h2;refine bw λk5 DX=>?_
   have fin:∀j,j<=l.length->(∀y∈l.take j,y.1<m.1)->(∀y∈l.drop j,m.1<y.1)->k5 (l.take j++m::l.drop j,())=some (wN (·.1) l m,0,()):=by intro j hj a b;subst DX;rw[asY (λy:aW=>y.1) a (λy hy=>by have:=b y hy;omega)]
   have z0:(IntKind.i64.wrap (((l++(m::[])).length:Int)-1),l++(m::[]),())=((l.length:Int),l.take l.length++m::l.drop l.length,()):=by rw[ap,rf,abc (l.length+1) (by omega) (by omega),br,fH];rfl
   rw[z0];refine iH (X:=Int×List aW×Unit) (β:=List aW×Int×Unit) (λz=>z.1.toNat) (λz=>∃j:Nat,j<=l.length/\z=((j:Int),l.take j++m::l.drop j,())/\∀y∈l.drop j,m.1<y.1) (λ_=>some (wN (·.1) l m,0,())) ⟨l.length,au _,rfl,by simp⟩ (by dsimp only;omega) ?_;rintro _ ⟨j,hj,rfl,hd⟩ again ha;show aj.af (decide ((0:Int)<(j:Int))) (aj.aI (l.take j++m::l.drop j) (IntKind.i64.wrap ((j:Int)-1)) λx8=>aj.cr (l.take j++m::l.drop j) (Int.toNat (IntKind.i64.wrap ((j:Int)-1))) _) (k5 (l.take j++m::l.drop j,()))=_;cases j with
   |zero=>rw[az (by rfl)];exact fin 0 (by omega) (by simp) hd
   |succ j=>
    have LY:j<l.length:=by omega
    have lt:(l.take (j+1)).length=j+1:=by rw[aX];omega
    have ll:(l.take (j+1)++m::l.drop (j+1)).length=l.length+1:=by rw[ap,aJ,dk,lt];omega
    have g0:∀h,(l.take (j+1)++m::l.drop (j+1))[j]'h=l[j]:=by intro h;rw[tL (by omega),kW]
    have g1:∀h,(l.take (j+1)++m::l.drop (j+1))[j+1]'h=m:=by intro h;rw[nE (by omega)];simp[lt]
    rw[eR (by omega),abc (j+1) (by omega) (by omega)];have e1:(j+1-1:Nat)=j:=rfl;rw[e1,bO (by omega),iR (by omega),g0];refine du (λhv=>?_) λhv=>?_
    .show aj.aI (l.take (j+1)++m::l.drop (j+1)) ((j+1:Nat):Int) _=_;rw[bO (by omega)];show aj.aI (l.take (j+1)++m::l.drop (j+1)) (j:Int) _=_;rw[bO (by omega)];show aj.cr (l.take (j+1)++m::l.drop (j+1)) (Int.toNat ((j+1:Nat):Int)) _=_;rw[iR (by omega),g1];show aj.cr (l.take (j+1)++m::l.drop (j+1)) (Int.toNat (j:Int)) _=_;rw[iR (by omega),g0];show aj.aI (l.take (j+1)++m::l.drop (j+1)) (j:Int) _=_;rw[bO (by omega)];show aj.cr (l.take (j+1)++m::l.drop (j+1)) (Int.toNat (j:Int)) _=_;rw[iR (by omega)];have sl:((l.take (j+1)++m::l.drop (j+1)).set (Int.toNat (j:Int)) m).length=l.length+1:=by rw[fG,ll]
     show aj.aI ((l.take (j+1)++m::l.drop (j+1)).set (Int.toNat (j:Int)) m) ((j+1:Nat):Int) _=_;rw[bO (by omega)];show aj.cr ((l.take (j+1)++m::l.drop (j+1)).set (Int.toNat (j:Int)) m) (Int.toNat ((j+1:Nat):Int)) _=_;rw[iR (by omega)]
     have er:((l.take (j+1)++m::l.drop (j+1)).set (Int.toNat (j:Int)) m).set (Int.toNat ((j+1:Nat):Int)) l[j]=l.take j++m::l.drop j:=by
      rw[aU,aU,ax LY,ck LY,bq];have lj:(l.take j).length=j:=by rw[aX];omega
      have q1:(l.take j++([l[j]]++m::l.drop (j+1))).set j m=l.take j++([m]++m::l.drop (j+1)):=by rw[q7 _ _ (by omega),lj,Av];rfl
      rw[q1,q7 _ _ (by omega),lj,show j+1-j=1 by omega];rfl
     dsimp only;rw[er];refine ha _ ⟨j,by omega,rfl,?_⟩ (by dsimp only;omega);intro y hy;rw[ck LY]at hy;rcases aF.1 hy with rfl|hy
     .exact hv
     .exact hd y hy
    .refine fin (j+1) hj ?_ hd;intro y hy;have hn:=hne l[j] (aG LY);have hjm:l[j].1<m.1:=by omega
     rw[ax LY,aT]at hy;rcases hy with hy|hy
     .have:=(axb hs LY).1 y hy;exact F1 this hjm
     .simp only[aC]at hy;subst hy;exact hjm
  .rw[h1,ag (by rw[h2];simp),eR (by omega)]
 .rw[ag hm,ag hm,aQ (by rfl)]
def VG{α:Type}(f:α->Int)(l:List α)(x:α):List α:=l.map λy=>if f y=f x then x else y
theorem aiS{α}(f){l}{x:α}(hs:qU f l){k:Nat}(hk:k<l.length)(h:f l[k]=f x):l.set k x=VG f l x:=by
 unfold VG;refine Fh (by simp) λi h1 h2=>?_
 rw[fG]at h1;rw[pR,Fi];by_cases e:k=i
 .subst e;rw[ah rfl,ah h]
 .rw[ag e];unfold qU at hs;rw[ru,bN]at hs;rw[ag];intro e2;rcases Ci e with g|g
  .have:=hs k i hk h1 g;omega
  .have:=hs i k h1 hk g;omega
def Dr(l:List aW)(m:aW):List aW×Int×Unit:=if Af m then(if mG l m.1=none then([],11,())else(VG (·.1) l m,0,()))else([],2,())
theorem adH{l}{m:aW}(hl:l.length<=1000)(hs:qU (·.1) l):Uw l m=some (Dr l m):=by
 show uG aj l m=_;unfold uG Dr;rw[ai (KZ m)];by_cases hm:Af m
 .rw[ah hm,ah hm,az (by rfl),ai (aiR (by omega))];unfold mG;rcases lx (λa:aW=>a.1==m.1) l with⟨h1,h2⟩|⟨k,hk,h1,h2,h3⟩
  .rw[h1,ah h2,aQ (by decide)]
  .rw[h1,ag (by rw[h2];simp),cY (by omega),ai (adG (by omega)),bO hk,iR hk,aU,aiS (λy:aW=>y.1) hs hk (by simpa using h3)]
 .rw[ag hm,ag hm,aQ (by rfl)]
open Lot Ay Az AA AB AD
open Go.IntKind (i64 u64)
def jT{α:Type}(f:α->Int)(l:List α)(k:Int):Nat:=(l.takeWhile λy=>decide (f y<k)).length
theorem CW{α}(f)(l:List α)(k:Int):jT f l k<=l.length:=(List.takeWhile_sublist _).length_le
theorem XX{α}(f)(k):∀l:List α,l.take (jT f l k)=l.takeWhile (λy=>decide (f y<k))/\l.drop (jT f l k)=l.dropWhile (λy=>decide (f y<k))
 |[]=>⟨rfl,rfl⟩
 |a::l=>by
  unfold jT;rw[pn,zW];obtain⟨h1,h2⟩:=XX f k l;by_cases h:f a<k
  .rw[aq h,ah rfl,ah rfl,aJ,pj,tm];exact⟨bA _ h1,h2⟩
  .rw[an h];exact⟨rfl,rfl⟩
theorem Ng{α}(f)(l:List α)(x:α):l.take (jT f l (f x))++x::l.drop (jT f l (f x))=wN f l x:=by obtain⟨h1,h2⟩:=XX f (f x) l;rw[h1,h2];rfl
theorem vX{α}{f}(k):∀{l:List α} (_:qU f l) {j:Nat} (hj:j<l.length),f l[j]<k↔j<jT f l k
 |[],_,j,hj=>by cases hj
 |a::l,hs,j,hj=>by
  unfold qU at hs;rw[bK,bD]at hs;unfold jT;rw[pn];cases j with
  |zero=>
   by_cases h:f a<k
   .rw[aq h,ah rfl];simp[h]
   .rw[an h];simp[h]
  |succ j=>
   have hj':j<l.length:=by simpa using hj
   have ih:=vX (f:=f) k (l:=l) hs.2 hj';by_cases h:f a<k
   .rw[aq h,ah rfl,aJ,wK];unfold jT at ih;omega
   .rw[an h,wK];have:=hs.1 (f l[j]) (dp (aG hj'));simp;omega
theorem Nh{α}{f}{l:List α}(hs:qU f l)(k:Int):
 (∃h:jT f l k<l.length,f l[jT f l k]=k/\l.find? (λy=>f y==k)=some l[jT f l k])\/(l.find? (λy=>f y==k)=none/\∀h:jT f l k<l.length,k<f l[jT f l k]):=by
 by_cases h:jT f l k<l.length
 .have h0:=mt (vX k hs h).1 (by omega);by_cases e:f l[jT f l k]=k
  .refine .inl ⟨h,e,?_⟩;rw[xY];refine⟨by simpa using e,_,h,rfl,λj hj=>?_⟩;have:=(vX k hs (show j<l.length by omega)).2 hj;simp;omega
  .refine .inr ⟨?_,λ_=>by omega⟩;rw[nh];intro y hy;obtain⟨j,hj,rfl⟩:=dJ.1 hy;simp only[fP];intro hk;have h1:=mt (vX k hs hj).2 (by omega);have hs':=hs;unfold qU at hs';rw[ru,bN]at hs';rcases dS (jT f l k) j with g|g
   .have:=hs' _ _ h hj g;omega
   .have:j=jT f l k:=by omega
    subst this;exact e hk
 .refine .inr ⟨?_,λh'=>absurd h' h⟩;rw[nh];intro y hy;obtain⟨j,hj,rfl⟩:=dJ.1 hy;simp only[fP];intro hk;have h1:=mt (vX k hs hj).2 (by omega);omega
theorem axc(x y):Qj x y=some (Ec x y):=Z7 x y
theorem axd{l}{k:Int}(hs:qU (·.1) l)(hl:l.length<=1000):∃b,kA l k=some (((((jT (·.1) l k):Nat):Int),b,()),()):=by
 show ∃b,cD aj l k=_;unfold cD;have hle:=CW (λy:bf=>y.1) l k;have hby:∀x:bf,Lf x k=some (Ec x.1 k):=λx=>by show uH aj x k=_;unfold uH;rw[ai (axc _ _)]
 refine po (X:=Int×Int×Unit) (β:=(Int×Bool×Unit)×Unit) (λo=>∃b,o=some (((((jT (·.1) l k):Nat):Int),b,()),())) (λz=>(z.2.1-z.1).toNat) (λz=>∃i j:Nat,z=((i:Int),(j:Int),())/\i<=jT (·.1) l k/\jT (·.1) l k<=j/\j<=l.length) ⟨0,l.length,rfl,bE _,hle,au _⟩ (by dsimp only;omega) ?_;rintro _ ⟨i,j,rfl,h1,h2,h3⟩ again ha
 show ∃b,aj.af (decide ((i:Int)<(j:Int))) (aj.i7 1 (aj.aI l (i64.wrap (Int.fdiv (u64.wrap (i64.wrap ((i:Int)+(j:Int)))) (2 ^ (min (Int.toNat 1) u64.bits)))) λx3=>aj.ae (Lf x3 k) λv4=>
  aj.af (decide (v4<0)) (again (i64.wrap (i64.wrap (Int.fdiv (u64.wrap (i64.wrap ((i:Int)+(j:Int)))) (2 ^ (min (Int.toNat 1) u64.bits)))+1),(j:Int),())) (again ((i:Int),i64.wrap (Int.fdiv (u64.wrap (i64.wrap ((i:Int)+(j:Int)))) (2 ^ (min (Int.toNat 1) u64.bits))),()))))
  (aj.af (decide ((i:Int)<(l.length:Int))) (aj.aI l (i:Int) λx5=>aj.ae (Lf x5 k) λv6=>some (((i:Int),v6==0,()),())) (some (((i:Int),false,()),())))=_
 rw[avm i j (by omega)];by_cases hij:i<j
 .have hh:(i+j) / 2<l.length:=by omega
  rw[eR (by omega),vj (by decide),bO hh,ai (hby _)];have hla:=vX k hs hh;by_cases hlt:l[(i+j) / 2].1<k
  .have hc:Ec l[(i+j) / 2].1 k<0:=by unfold Ec;rw[ah hlt];decide
   rw[eR hc,cU _ (by omega)];have:=hla.1 hlt;exact ha _ ⟨(i+j) / 2+1,j,rfl,by omega,h2,h3⟩ (by dsimp only;omega)
  .have hc:¬Ec l[(i+j) / 2].1 k<0:=by unfold Ec;rw[ag hlt];split<;>decide
   rw[cY hc];have:¬(i+j) / 2<jT (·.1) l k:=λh=>hlt (hla.2 h)
   exact ha _ ⟨i,(i+j) / 2,rfl,h1,by omega,by omega⟩ (by dsimp only;omega)
 .have hi:i=jT (·.1) l k:=by omega
  subst hi;rw[cY (by omega)];by_cases hi:jT (·.1) l k<l.length
  .rw[eR (by omega),bO hi,ai (hby _)];exact⟨_,rfl⟩
  .rw[cY (by omega)];exact⟨_,rfl⟩
theorem XY{s}(h:s.length<=1000000):wQ s=some s:=by
 show eV aj s=_;unfold eV;rw[Dy];refine yj ?_ λhe=>?_
 .refine AP (by decide) ?_;rw[dm (by omega) (by omega)];rfl
 .have:s=[]:=by simpa using he
  subst this;rfl
def SK(l:List bf)(k:Int):Option bf:=l.find? λy=>y.1==k
def SI(l:List bf)(a:bf):List bf×Int×Unit:=if qf a then(if SK l a.1=none then(wN (·.1) l a,0,())else([],12,()))else([],2,())
theorem XZ(l)(k):l.any (λy=>y.1==k)=!decide (SK l k=none):=by
 unfold SK;cases h:l.find? λy=>y.1==k with
 |none=>rw[aq rfl];exact kS.2 λy hy=>by have:=nh.1 h y hy;simpa using this
 |some y=>rw[an (by simp)];exact jr.2 ⟨y,bT h,by simpa using jP h⟩
theorem asZ{l}{a:bf}(hl:l.length<=1000)(hs:qU (·.1) l):X0 l a=some (SI l a):=by
 show BQ aj l a=_;unfold BQ SI;rw[ai (afH a)];by_cases ha:qf a
 .rw[ah ha,ah ha,az (by rfl)];obtain⟨x,hx⟩:=XI (l:=l) (id:=a.1) (by omega);rw[ai hx,XZ];by_cases hf:SK l a.1=none
  .rw[ah hf,aq hf,az (by rfl)];obtain⟨b,hb⟩:=axd (k:=a.1) hs hl;have hle:=CW (λy:bf=>y.1) l a.1;have hi:CO l ((jT (·.1) l a.1:Nat):Int) [a]=some (wN (·.1) l a,()):=by refine(O6 hle (by omega)).trans ?_;rw[Ng (λy:bf=>y.1) l a]
   rw[ai hb,ja,ai (XY (by omega)),ai hi]
  .rw[ag hf,an hf,aQ (by rfl)]
 .rw[ag ha,ag ha,aQ (by rfl)]
theorem X1{t}{id:Int}(hl:t.length<=1000000)(hs:qU (·.1) t):JK t id=some ((((jT (·.1) t id):Nat):Int),!decide (gP t id=none),()):=by
 show l7 aj t id=_;unfold l7;have hle:=CW (λy:aD=>y.1) t id;have N1:=Nh hs id;refine iH (X:=Int×Unit) (β:=Int×Bool×Unit) (λz=>t.length+1-z.1.toNat) (λz=>∃j:Nat,j<=jT (·.1) t id/\z=((j:Int),())) (λ_=>some ((((jT (·.1) t id):Nat):Int),!decide (gP t id=none),())) ⟨0,bE _,rfl⟩ (by dsimp only;omega) ?_;rintro _ ⟨j,hj,rfl⟩ again ha;show aj.af (decide ((j:Int)<(t.length:Int))) (aj.aI t (j:Int) _) _=_;by_cases h:j<t.length
 .rw[dE h,bO h];have hla:=vX id hs h;by_cases h1:id<=t[j].1
  .have e:j=jT (·.1) t id:=by have:=mt hla.2 (by omega);omega
   subst e;rw[eR h1];dsimp only;rcases N1 with⟨_,e1,e2⟩|⟨e1,e2⟩
   .have:gP t id=some t[jT (·.1) t id]:=e2;rw[this,an (by simp),show(t[jT (·.1) t id].1==id)=true by simpa using e1];rfl
   .have hc:gP t id=none:=e1;have:=e2 h;rw[hc,aq rfl,show(t[jT (·.1) t id].1==id)=false by simp;omega];rfl
  .rw[cY h1];dsimp only;rw[cU j (by omega)];have:=hla.1 (by omega);exact ha _ ⟨j+1,by omega,rfl⟩ (by dsimp only;omega)
 .have e:j=t.length:=by omega
  have e2:jT (·.1) t id=t.length:=by omega
  subst e;rw[dZ,e2];rcases N1 with⟨h',_⟩|⟨e1,_⟩
  .omega
  .have hc:gP t id=none:=e1;rw[hc,aq rfl];rfl
theorem aiT{a}(h:a.2.2.2.1.length<=1000000):LZ a=some a:=by show nF aj a=_;unfold nF;rw[ai (L3 h)]
def SL(l:List aD)(a:aD):List aD×Int×Unit:=if okA a=true then(if gP l a.1=none then(wN (·.1) l a,0,())else([],12,()))else([],2,())
def SM(l:List aD)(a:aD):List aD×Int×Unit:=if okA a=true then(if gP l a.1=none then([],11,())else(VG (·.1) l a,0,()))else([],2,())
theorem ata{l}{a:aD}(hl:rC l)(hs:qU (·.1) l)(ha:a.2.2.2.1.length<=1000):ap9 l a=some (SL l a):=by
 show ER aj l a=_;unfold ER SL;have h2:=hl.2;rw[ai (O4 (by omega))];by_cases h:okA a=true
 .rw[ah h,ah h,az (by rfl),ai (X1 (by omega) hs)];by_cases hf:gP l a.1=none
  .rw[ah hf,aq hf,az (by rfl),ai (NZ hl),ai (aiT (by omega))];have hle:=CW (λy:aD=>y.1) l a.1;have hi:yh l ((jT (·.1) l a.1:Nat):Int) [a]=some (wN (·.1) l a,()):=by refine(O6 hle (by omega)).trans ?_;rw[Ng (λy:aD=>y.1) l a]
   rw[ai hi]
  .rw[ag hf,an hf,aQ (by rfl)]
 .rw[ag h,ag h,aQ (by rfl)]
theorem atb{l}{a:aD}(hl:rC l)(hs:qU (·.1) l)(ha:a.2.2.2.1.length<=1000):apA l a=some (SM l a):=by
 show ET aj l a=_;unfold ET SM;have h2:=hl.2;rw[ai (O4 (by omega))];by_cases h:okA a=true
 .rw[ah h,ah h,az (by rfl),ai (X1 (by omega) hs)];by_cases hf:gP l a.1=none
  .rw[ah hf,aq hf,aQ (by rfl)]
  .rw[ag hf,an hf,az (by rfl),ai (NZ hl),ai (aiT (by omega))];rcases Nh hs a.1 with⟨hi,e1,_⟩|⟨e1,_⟩
   .rw[bO hi,iR hi,aU,aiS (λy:aD=>y.1) hs hi e1]
   .exact absurd e1 hf
 .rw[ag h,ag h,aQ (by rfl)]
def ud(l:List aD)(u:ar):Int:=match l.find? λa=>AN a u with|some a=>a.2.1|none=>0
theorem R0{l}{u}(h:rC l):agn l u=some (ud l u):=by
 show nV aj l u=_;unfold nV;have hl:=h.2;refine ib (l:=l) (by omega) (λi _=>∀a∈l.take i,True) (λt _=>some (ud t u)) (s0:=()) (λ_ _=>trivial) ?_ ?_
 .intro s again _;refine IZ ?_;rfl
 .intro i hi s _ again ha;refine Jp hi ?_;rw[bO hi,ai (R9 (h.1 _ (aG hi)))];unfold ud;rw[List.find?_cons];by_cases hv:AN l[i] u=true
  .rw[hv,aQ (by rfl)]
  .have hv:AN l[i] u=false:=by simpa using hv
   rw[hv,az (by rfl)];dsimp only;rw[cU i (by omega),ha () λ_ _=>trivial];rfl
def VE(l:List bF):Prop:=(∀i∈l,i.2.2.2.2.1.length<=1000)/\l.length<=1000
theorem Ph{l}(h:VE l):Qk l=some l:=by
 show qq aj l=_;unfold qq;have hl:=h.2;refine qi (X:=Int×List bF×Unit) (N:=l.length) (by omega) (λi=>((i:Int),l.take i,())) _ rfl ?_ ?_
 .intro again;refine IZ ?_;rw[br]
 .intro i hi again ha;show aj.af (decide ((i:Int)<(l.length:Int))) (aj.aI l (i:Int) _) _=_;have hm:=h.1 _ (aG hi);rw[dE hi,bO hi,ai (O' (by omega))];show aj.bi ((l.take i).length+1) 56 (again (IntKind.i64.wrap ((i:Int)+1),l.take i++[l[i]],()))=_;rw[dm (by rw[aX];omega) (by rw[aX];omega),cU i (by omega),<-ax hi];exact ha
theorem axe{α}{f}{l:List α}{k:Int}(hs:qU f l)(hne:∀y∈l,f y≠k):(zX (λy=>decide (k<f y)) l = -1/\jT f l k=l.length)\/(jT f l k<l.length/\zX (λy=>decide (k<f y)) l=(jT f l k:Int)):=by
 have hle:=CW f l k;by_cases h:jT f l k<l.length
 .refine .inr ⟨h,?_⟩;unfold zX
  have:l.findIdx? (λy=>decide (k<f y))=some (jT f l k):=by
   rw[eM];refine⟨h,?_,λj hj=>?_⟩
   .have h1:=mt (vX k hs h).1 (by omega);have h2:=hne _ (aG h);simp;omega
   .have:=(vX k hs (show j<l.length by omega)).2 hj;simp;omega
  rw[this]
 .refine .inl ⟨?_,by omega⟩;unfold zX;have:l.findIdx? (λy=>decide (k<f y))=none:=by rw[gz];intro y hy;obtain⟨j,hj,rfl⟩:=dJ.1 hy;have:=(vX k hs hj).2 (by omega);simp;omega
  rw[this]
def J3(l:List bF)(i:bF):List bF×Int×Unit:=if Rw i then(if pq l i.1=none then(wN (·.1) l i,0,())else([],12,()))else([],2,())
theorem apB{l}{i:bF}(hl:VE l)(hs:qU (·.1) l)(hi:i.2.2.2.2.1.length<=1000):adI l i=some (J3 l i):=by
 show EU aj l i=_;unfold EU J3;have h2:=hl.2;rw[ai (RY (by omega))];by_cases ho:Rw i
 .rw[ah ho,ah ho,az (by rfl),ai (Un (by omega))];unfold pq;rcases lx (λa:bF=>a.1==i.1) l with⟨h1,h2⟩|⟨k,hk,h1,h2,_⟩
  .rw[h1,ah h2,az (by decide)];have hne:=xt (f:=λy:bF=>y.1) h2;have e1:pF i.1 i.2.1 i.2.2.1 i.2.2.2.1 i.2.2.2.2.1 l=some (zX (λy=>decide (i.1<y.1)) l,i):=by show dC aj i.1 i.2.1 i.2.2.1 i.2.2.2.1 i.2.2.2.2.1 l=_;unfold dC;exact ve (s:=l) (C:=bF) (by omega) (λy=>decide (i.1<y.1)) (λ(y c:bF)=>ago c.1 c.2.1 c.2.2.1 c.2.2.2.1 c.2.2.2.2.1 y) i λx _=>rfl
   rw[ai e1];refine bw λk8 hk8=>?_
   have fin:k8 ((jT (·.1) l i.1:Nat),())=some (wN (·.1) l i,0,()):=by
    subst hk8;have hle:=CW (λy:bF=>y.1) l i.1;have hi2:Bo l ((jT (·.1) l i.1:Nat):Int) [i]=some (wN (·.1) l i,()):=by refine(O6 hle (by omega)).trans ?_;rw[Ng (λy:bF=>y.1) l i]
    show aj.ae (Qk l) (λv5=>aj.ae (adl i) λv6=>aj.ae (Bo v5 ((jT (·.1) l i.1:Nat):Int) (v6::[])) λv7=>some (v7.1,0,()))=_;rw[ai (Ph hl),ai (O' (by omega)),ai hi2]
   rcases axe hs hne with⟨e1,e2⟩|⟨e1,e2⟩
   .rw[e1,aQ (by rfl),<-e2];exact fin
   .rw[e2,cY (by show ¬((jT (·.1) l i.1:Nat):Int)<0;omega)];exact fin
  .rw[h1,ag (by rw[h2];simp),eR (by omega)]
 .rw[ag ho,ag ho,aQ (by rfl)]
theorem R2{α}(f:α->Int)(g:α->α){l:List α}(hs:qU f l){k:Nat}(hk:k<l.length){id:Int}(h:f l[k]=id):l.set k (g l[k])=l.map λy=>if f y=id then g y else y:=by
 refine Fh (by simp) λi h1 h2=>?_
 rw[fG]at h1;rw[pR,Fi];by_cases e:k=i
 .subst e;rw[ah rfl,ah h]
 .rw[ag e];unfold qU at hs;rw[ru,bN]at hs;rw[ag];intro e2;rcases Ci e with g|g
  .have:=hs k i hk h1 g;omega
  .have:=hs i k h1 hk g;omega
def amF(p:Int)(i:bF):bF:=(i.1,i.2.1,i.2.2.1,p,i.2.2.2.2)
def Fv(l:List bF)(id p:Int):List bF×Int×Unit:=if pq l id=none then([],11,())else if 0<=p/\p<=2147483647 then(l.map λy=>if y.1=id then amF p y else y,0,())else([],2,())
theorem ajX{l:List bF}{id p:Int}(hl:VE l)(hs:qU (·.1) l):akV l id p=some (Fv l id p):=by
 show BR aj l id p=_;unfold BR Fv;have h2:=hl.2;rw[ai (Un (by omega))];unfold pq;rcases lx (λa:bF=>a.1==id) l with⟨h1,h2⟩|⟨k,hk,h1,h2,h3⟩
 .rw[h1,ah h2,aQ (by decide)]
 .rw[h1,ag (by rw[h2];simp),cY (by omega),ai (Ht p)];by_cases hp:0<=p/\p<=2147483647
  .rw[aq hp,ah hp,az (by rfl),ai (Ph hl),bO hk,iR hk,aU];rw[<-R2 (λy:bF=>y.1) (amF p) hs hk (id:=id) (by simpa using h3)];rfl
  .rw[an hp,ag hp,aQ (by rfl)]
def Bg(i:bF):bF:=(i.1,i.2.1,i.2.2.2.1,i.2.2.2)
theorem adJ{l}(hl:VE l):Ql l=some (l.map Bg):=by
 show vY aj l=_;unfold vY;have h2:=hl.2;rw[ai (Ph hl)];refine qi (X:=Int×List bF×Unit) (N:=l.length) (by omega) (λi=>((i:Int),(l.take i).map Bg++l.drop i,())) _ rfl ?_ ?_
 .intro again;refine IZ ?_;rw[br,fH,cy]
 .intro i hi again ha;have ln:((l.take i).map Bg).length=i:=by rw[bh,aX];omega
  have ll:((l.take i).map Bg++l.drop i).length=l.length:=by rw[ap,ln,dk];omega
  have hg:∀h,((l.take i).map Bg++l.drop i)[i]'h=l[i]:=by intro h;rw[nE (by omega),De];congr 1;omega
  show aj.af (decide ((i:Int)<(l.length:Int))) (aj.aI ((l.take i).map Bg++l.drop i) (i:Int) λ_=>aj.cr ((l.take i).map Bg++l.drop i) (Int.toNat (i:Int)) λx5=>aj.aI ((l.take i).map Bg++l.drop i) (i:Int) λ_=>aj.cr ((l.take i).map Bg++l.drop i) (Int.toNat (i:Int)) λx7=>again (IntKind.i64.wrap ((i:Int)+1),((l.take i).map Bg++l.drop i).set (Int.toNat (i:Int)) (x7.1,x7.2.1,x5.2.2.2.1,x7.2.2.2),())) _=_;rw[dE hi,bO (by omega),iR (by omega),bO (by omega),iR (by omega),hg,cU i (by omega),aU];have e:((l.take i).map Bg++l.drop i).set i (l[i].1,l[i].2.1,l[i].2.2.2.1,l[i].2.2.2)=(l.take (i+1)).map Bg++l.drop (i+1):=by rw[q7 _ _ (by omega),ln,Av,ck hi,ax hi,cz,bq];rfl
  rw[e];exact ha
def ah8(p:Int)(a:bf):bf:=(a.1,p,a.2.2)
def Be(l:List bf)(id p:Int):List bf×Int×Unit:=if SK l id=none then([],11,())else if 0<=p/\p<=2147483647 then(l.map λy=>if y.1=id then ah8 p y else y,0,())else([],2,())
theorem adK(p):Mc p=some (decide (0<=p/\p<=2147483647)):=by
 show ko aj p=_;unfold ko;refine du (λh=>?_) λh=>?_
 .congr 1;exact eF.2 (by omega)
 .rw[an (by omega)]
theorem abR{l:List bf}{id p:Int}(hl:l.length<=1000)(hs:qU (·.1) l):Z8 l id p=some (Be l id p):=by
 show tF aj l id p=_;unfold tF Be;obtain⟨x,hx⟩:=XI (l:=l) (id:=id) (by omega);rw[ai hx,XZ];by_cases hf:SK l id=none
 .rw[ah hf,aq hf,aQ (by rfl)]
 .rw[ag hf,an hf,az (by rfl),ai (adK p)];by_cases hp:0<=p/\p<=2147483647
  .rw[aq hp,ah hp,az (by rfl),ai (XY (by omega))];refine bw λk5 DX=>?_
   have k5e:∀t,k5 (t,())=some (t,0,()):=λt=>by subst DX;rfl
   rcases Nh hs id with⟨hi,e1,_⟩|⟨e1,_⟩
   .refine iH (X:=Int×List bf×Unit) (β:=List bf×Int×Unit) (λz=>l.length+1-z.1.toNat) (λz=>∃j:Nat,j<=jT (·.1) l id/\z=((j:Int),l,())) (λ_=>some (l.map λy=>if y.1=id then ah8 p y else y,0,())) ⟨0,bE _,rfl⟩ (by dsimp only;omega) ?_;rintro _ ⟨j,hj,rfl⟩ again ha;have h:j<l.length:=by omega
    refine Jp h ?_;rw[bO h,iR h];refine dQ (λe=>?_) λe=>?_
    .refine tix h ?_;rw[iR h,<-R2 (λy:bf=>y.1) (ah8 p) hs h (id:=id) e];exact k5e _
    .dsimp only;rw[cU j (by omega)];have:j≠jT (·.1) l id:=λq=>e (by subst q;exact e1)
     exact ha _ ⟨j+1,by omega,rfl⟩ (by dsimp only;omega)
   .exact absurd e1 hf
  .rw[an hp,ag hp,aQ (by rfl)]
def CL(l:List bZ)(id:Int):Option bZ:=l.find? λy=>y.1==id
def apC:bZ:=(0,(0,0,()),(0,0,()),(0,0,()),0,0,0,0,())
theorem apD{t}{id}(hl:t.length<=1000000):atc t id=some (zX (λm=>m.1==id) t):=by
 have e1:pV id t=some (zX (λm=>m.1==id) t,id,()):=by show dH aj id t=_;unfold dH;exact ve hl (λm=>m.1==id) (λm (c:Int×Unit)=>akW c.1 m) (id,()) λx _=>rfl
 show EV aj t id=_;unfold EV;rw[ai e1]
theorem Ux{t}{id}(hl:t.length<=1000000):X2 t id=some (match CL t id with|some i=>(i,true,())|none=>(apC,false,())):=by
 show ul aj t id=_;unfold ul;rw[ai (apD hl)];unfold CL;rcases lx (λm:bZ=>m.1==id) t with⟨h1,h2⟩|⟨k,hk,h1,h2,_⟩
 .rw[h1,h2,aQ (by decide)];rfl
 .rw[h1,h2,cY (by omega),bO hk]
theorem apE{s}(h:s.length<=1000000):y9 s=some s:=by
 show gn aj s=_;unfold gn;rw[Dy];refine yj ?_ λhe=>?_
 .refine AP (by decide) ?_;rw[dm (by omega) (by omega)];rfl
 .have:s=[]:=by simpa using he
  subst this;rfl
def Ek(l:List bZ):Int:=match l.getLast? with|some g=>g.1|none=>0
def amB(id:Int)(g:bZ)(day:Int):bZ:=(id,U5 g.2 (day+8,1,()))
def Mp(l:List bZ)(g:bZ)(day:Int):List bZ×Int×Int×Unit:=if g.2.1=g.2.2.1 then([],0,24,())else if g.2.2.2.1.2.1=0\/day<0\/1048576<day then([],0,2,())else if 64<=l.length then([],0,25,())else(l++[amB (1+Ek l) g day],1+Ek l,0,())
theorem atd{l}{g}{day}(hl:l.length<=1000)(hi:∀x∈l,0<=x.1/\x.1<=1048576):apF l g day=some (Mp l g day):=by
 show EW aj l g day=_;unfold EW Mp;rw[vd];by_cases h1:g.2.1=g.2.2.1
 .rw[ah h1,eR h1]
 .rw[ag h1,cY h1];refine bw λk5 DX=>?_
  have k5t:k5 (true,())=some ([],0,2,()):=by subst DX;rfl
  have k5f:(0<=day/\day<=1048576)->k5 (false,())=some (if 64<=l.length then([],0,25,())else(l++[amB (1+Ek l) g day],1+Ek l,0,())):=by
   intro hd;subst DX;refine AP (by rfl) ?_;by_cases h6:64<=l.length
   .rw[eR (by omega),ah h6]
   .rw[cY (by omega),ag h6];have w8:IntKind.i64.wrap (day+8)=day+8:=bI _ (by omega);have fin:∀id:Int,aj.af (((l.length:Int)==(l.length:Int))&&((l.length:Int)==(l.length:Int))) (aj.bi (l.length+((id,U5 g.2 (IntKind.i64.wrap (day+8),(1:Int),()))::[]).length) 88 (some (l++((id,U5 g.2 (IntKind.i64.wrap (day+8),(1:Int),()))::[]),id,(0:Int),()))) none=some (l++[amB id g day],id,(0:Int),()):=by intro id;rw[aQ (by simp),dm (by simp;omega) (by simp;omega),w8];rfl
    refine bw λk3 hk3=>?_
    by_cases h0:0<l.length
    .have e:=abc l.length (by omega) (by omega);have Cn:l.length-1<l.length:=by omega
     have apG:Ek l=l[l.length-1].1:=by unfold Ek;rw[List.getLast?_eq_getElem?,aw Cn]
     have hb:=hi _ (aG Cn);rw[eR (by omega),e,bO Cn,bI (1+l[l.length-1].1) (by omega),<-apG];subst hk3;exact fin (1+Ek l)
    .have:l=[]:=fx (by omega);subst this;rw[az (by rfl)];subst hk3;have e:(1:Int)+Ek []=1:=rfl;rw[e];exact fin 1
  refine dQ (λh2=>?_) λh2=>?_
  .rw[k5t,ah (.inl h2)]
  .refine du (λh3=>?_) λh3=>?_
   .rw[k5t,ah (.inr (.inl h3))]
   .by_cases h4:1048576<day
    .rw[aq h4,k5t,ah (.inr (.inr h4))]
    .rw[an h4,k5f (by omega),ag (show ¬(g.2.2.2.1.2.1=0\/day<0\/1048576<day)by omega)]
def PL(st:Int)(g:bZ):bZ:=U7 g (st,())
def eZ(l:List bZ)(id st:Int):List bZ×Int×Unit:=
 match CL l id with
 |none=>([],11,())
 |some g=>if st<2\/5<st then([],2,())else if g.2.2.2.2.2.2.2.1=1 then(l.map λy=>if y.1=id then PL st y else y,0,())else([],13,())
theorem adL{l}{id st:Int}(hl:l.length<=1000)(hs:qU (·.1) l):akX l id st=some (eZ l id st):=by
 show xL aj l id st=_;unfold xL eZ CL;rw[ai (apD (by omega))];rcases lx (λm:bZ=>m.1==id) l with⟨h1,h2⟩|⟨k,hk,h1,h2,h3⟩
 .rw[h1,h2,aQ (by decide)]
 .rw[h1,h2,cY (by omega)];refine bw λk7 I0=>?_
  have k7t:k7 (true,())=some ([],2,()):=by subst I0;rfl
  have ZV:k7 (false,())=some (if l[k].2.2.2.2.2.2.2.1=1 then(l.map λy=>if y.1=id then PL st y else y,0,())else([],13,())):=by
   subst I0;refine AP (by rfl) ?_;rw[bO hk];by_cases h:l[k].2.2.2.2.2.2.2.1=1
   .rw[ah h,iZ h,ai (apE (by omega)),bO hk,iR hk,aU,<-R2 (λy:bZ=>y.1) (PL st) hs hk (id:=id) (by simpa using h3)];rfl
   .rw[ag h,fV h]
  show aj.af (decide (st<2)) _ _=some (if st<2\/5<st then([],2,())else if l[k].2.2.2.2.2.2.2.1=1 then(l.map λy=>if y.1=id then PL st y else y,0,())else([],13,()));refine du (λh4=>?_) λh4=>?_
  .rw[k7t,ah (.inl h4)]
  .by_cases h5:5<st
   .rw[aq h5,k7t,ah (.inr h5)]
   .rw[an h5,ZV,ag (show ¬(st<2\/5<st)by omega)]
def yI(l:List bZ)(p:bZ->Bool):List Int:=(l.filter λg=>(g.2.2.2.2.2.2.2.1==1)&&p g).map (·.1)
theorem Uy(l)(p)(g):yI (l++[g]) p=if((g.2.2.2.2.2.2.2.1==1)&&p g)=true then yI l p++[g.1]else yI l p:=by
 unfold yI;rw[fu,bu,qN];split
 .rw[cz];rfl
 .rw[cy]
theorem Em(l)(p):(yI l p).length<=l.length:=by unfold yI;rw[bh];exact cW _ _
theorem apH{l}{day}(hl:l.length<=1000):X3 l day=some (yI l λg=>decide (g.2.2.2.2.2.2.1<day)):=by
 show BS aj l day=_;unfold BS
 have e:HD day l=some (yI l λg=>decide (g.2.2.2.2.2.2.1<day),day,()):=by
  show jX aj day l=_;unfold jX;refine qi (X:=Int×Int×List Int×Unit) (N:=l.length) (by omega) (λi=>((i:Int),day,yI (l.take i) λg=>decide (g.2.2.2.2.2.2.1<day),())) _ rfl ?_ ?_
  .intro again;refine IZ ?_;rw[br]
  .intro i hi again ha;refine Jp hi ?_;rw[ax hi,Uy]at ha;have Vz:=Em (l.take i) (λg=>decide (g.2.2.2.2.2.2.1<day));rw[aX]at Vz;generalize yI (l.take i) (λg=>decide (g.2.2.2.2.2.2.1<day))=P at *;refine bw λk4 Vp=>?_
   have k4e:∀Q,k4 (day,Q,())=again (((i+1:Nat):Int),day,Q,()):=λQ=>by subst Vp;dsimp only;rw[cU i (by omega)]
   clear Vp;refine tix hi ?_;refine bw λk7 I0=>?_
   have k7t:k7 (true,day,P,())=again (((i+1:Nat):Int),day,P++[l[i].1],()):=by subst I0;show aj.af true (aj.bi (P.length+1) 8 (k4 (day,P++[l[i].1],()))) _=_;rw[aQ rfl,dm (by omega) (by omega),k4e]
   have ZV:k7 (false,day,P,())=again (((i+1:Nat):Int),day,P,()):=by subst I0;show aj.af false _ (k4 (day,P,()))=_;rw[az rfl,k4e]
   clear I0;refine dQ (λh=>?_) λh=>?_
   .show k7 (decide (l[i].2.2.2.2.2.2.1<day),day,P,())=_;by_cases h2:l[i].2.2.2.2.2.2.1<day
    .rw[aq h2,k7t];rw[ah (by simp[h,h2])]at ha;exact ha
    .rw[an h2,ZV];rw[ag (by simp[h2])]at ha;exact ha
   .dsimp only;rw[ZV];rw[ag (by simp[h])]at ha;exact ha
 rw[ai e]
theorem avw{l}{u}(hl:l.length<=1000):ah5 l u=some (yI l λg=>decide (g.2.1=u)||decide (g.2.2.1=u)):=by
 show HE aj l u=_;unfold HE
 have hof:∀g:bZ,akY u.1 u.2.1 g=some ((decide (g.2.1=u)||decide (g.2.2.1=u)),u):=by
  intro g;show BU aj u.1 u.2.1 g=_;unfold BU;rw[vd g.2.1 u,vd g.2.2.1 u];by_cases h:g.2.1=u
  .rw[aq h,aQ rfl];rfl
  .rw[an h,az rfl];rfl
 have e:Lg u.1 u.2.1 l=some (yI l λg=>decide (g.2.1=u)||decide (g.2.2.1=u),u):=by
  show lF aj u.1 u.2.1 l=_;unfold lF;refine qi (X:=Int×Int×Int×List Int×Unit) (N:=l.length) (by omega) (λi=>((i:Int),u.1,u.2.1,yI (l.take i) λg=>decide (g.2.1=u)||decide (g.2.2.1=u),())) _ rfl ?_ ?_
  .intro again;refine IZ ?_;rw[br]
  .intro i hi again ha;refine Jp hi ?_;rw[ax hi,Uy]at ha;have Vz:=Em (l.take i) (λg=>decide (g.2.1=u)||decide (g.2.2.1=u));rw[aX]at Vz;generalize yI (l.take i) (λg=>decide (g.2.1=u)||decide (g.2.2.1=u))=P at *;refine bw λk4 Vp=>?_
   have k4e:∀Q,k4 (u.1,u.2.1,Q,())=again (((i+1:Nat):Int),u.1,u.2.1,Q,()):=λQ=>by subst Vp;dsimp only;rw[cU i (by omega)]
   clear Vp;refine tix hi ?_;refine bw λk7 I0=>?_
   have k7t:k7 (true,u.1,u.2.1,P,())=again (((i+1:Nat):Int),u.1,u.2.1,P++[l[i].1],()):=by subst I0;show aj.af true (aj.bi (P.length+1) 8 (k4 (u.1,u.2.1,P++[l[i].1],()))) _=_;rw[aQ rfl,dm (by omega) (by omega),k4e]
   have ZV:k7 (false,u.1,u.2.1,P,())=again (((i+1:Nat):Int),u.1,u.2.1,P,()):=by subst I0;refine AP rfl ?_;rw[k4e]
   clear I0;refine dQ (λh=>?_) λh=>?_
   .refine yu (hof _) ?_;dsimp only;cases h2:(decide (l[i].2.1=u)||decide (l[i].2.2.1=u))with
    |true=>rw[k7t];rw[h2,ah (by simp[h])]at ha;exact ha
    |false=>rw[ZV];rw[h2,ag (by simp)]at ha;exact ha
   .dsimp only;rw[ZV];rw[ag (by simp[h])]at ha;exact ha
 rw[ai e]
def Ba(l:List bP)(id:Int):Option bP:=l.find? λy=>y.1==id
def auH:bP:=(0,(0,0,()),0,0,0,())
theorem agp{t}{id}(hl:t.length<=1000000):apI t id=some (zX (λm=>m.1==id) t):=by
 have e1:oT id t=some (zX (λm=>m.1==id) t,id,()):=by show dr aj id t=_;unfold dr;exact ve hl (λm=>m.1==id) (λm (c:Int×Unit)=>agq c.1 m) (id,()) λx _=>rfl
 show xM aj t id=_;unfold xM;rw[ai e1]
theorem adM{t}{id}(hl:t.length<=1000000):agr t id=some (match Ba t id with|some i=>(i,true,())|none=>(auH,false,())):=by
 show uI aj t id=_;unfold uI;rw[ai (agp hl)];unfold Ba;rcases lx (λm:bP=>m.1==id) t with⟨h1,h2⟩|⟨k,hk,h1,h2,_⟩
 .rw[h1,h2,aQ (by decide)];rfl
 .rw[h1,h2,cY (by omega),bO hk]
theorem adN{s}(h:s.length<=1000000):oZ s=some s:=by
 show eW aj s=_;unfold eW;rw[Dy];refine yj ?_ λhe=>?_
 .refine AP (by decide) ?_;rw[dm (by omega) (by omega)];rfl
 .have:s=[]:=by simpa using he
  subst this;rfl
def l9(q:Int):Prop := -1099511627776<=q/\q<=1099511627776
instance (q:Int):Decidable (l9 q):=by unfold l9;infer_instance
theorem Uz(q):Z9 q=some (decide (l9 q)):=by
 show oU aj q=_;unfold oU;by_cases h : -1099511627776<=q
 .rw[eR h];congr 1;exact eF.2 ⟨λh2=>⟨h,h2⟩,λh=>h.2⟩
 .rw[cY h,an λq=>h q.1]
def kv(q:Int)(g:bP):bP:=U4 g (q,())
theorem adO{l}{k}{q id:Int}(hl:l.length<=1000)(hs:qU (·.1) l)(hk:k<l.length)(h:l[k].1=id):ags l (k:Int) q=some (l.map λy=>if y.1=id then kv q y else y):=by show uJ aj l (k:Int) q=_;unfold uJ;rw[ai (adN (by omega)),bO hk,iR hk,aU,<-R2 (λy:bP=>y.1) (kv q) hs hk h];rfl
def xN(l:List bP)(id q:Int):List bP×Int×Unit:=
 match Ba l id with
 |none=>([],11,())
 |some g=>if cu (g.2.2.2.2.1+q)/\l9 (g.2.2.2.2.1+q)then(l.map λy=>if y.1=id then kv (g.2.2.2.2.1+q) y else y,0,())else([],7,())
theorem apJ{l}{id q}(hl:l.length<=1000)(hs:qU (·.1) l)(hI:∀g∈l,cu g.2.2.2.2.1)(hq:cu q):agt l id q=some (xN l id q):=by
 show za aj l id q=_;unfold za xN Ba;rw[ai (agp (by omega))];rcases lx (λm:bP=>m.1==id) l with⟨h1,h2⟩|⟨k,hk,h1,h2,h3⟩
 .rw[h1,h2,aQ (by decide)]
 .have hg:=hI _ (aG hk);rw[h1,h2,cY (by omega),bO hk,ai (tZ (l:=[l[k].2.2.2.2.1,q]) (λx hx=>by simp at hx;rcases hx with rfl|rfl;exact hg;exact hq) (by simp))];have es:([l[k].2.2.2.2.1,q]:List Int).sum=l[k].2.2.2.2.1+q:=by simp
  rw[es];refine bw λk6 F8=>?_
  have k6t:k6 (true,())=some ([],7,()):=by subst F8;rfl
  have k6f:(cZ (l[k].2.2.2.2.1+q)).1=l[k].2.2.2.2.1+q->k6 (false,())=some (l.map λy=>if y.1=id then kv (l[k].2.2.2.2.1+q) y else y,0,()):=by intro e;subst F8;refine AP rfl ?_;rw[e,ai (adO hl hs hk (by simpa using h3))]
  show _=some (if cu (l[k].2.2.2.2.1+q)/\l9 (l[k].2.2.2.2.1+q)then(l.map λy=>if y.1=id then kv (l[k].2.2.2.2.1+q) y else y,0,())else([],7,()));by_cases h:cu (l[k].2.2.2.2.1+q)
  .have ef:cZ (l[k].2.2.2.2.1+q)=(l[k].2.2.2.2.1+q,0,()):=by unfold cZ;rw[ah h]
   rw[az (by rw[ef];rfl),ai (Uz _)];by_cases h5:l9 (l[k].2.2.2.2.1+q)
   .have:l9 (cZ (l[k].2.2.2.2.1+q)).1:=by rw[ef];exact h5
    rw[aq this,ah ⟨h,h5⟩];exact k6f (by rw[ef])
   .have:¬l9 (cZ (l[k].2.2.2.2.1+q)).1:=by rw[ef];exact h5
    rw[an this,ag λq=>h5 q.2];exact k6t
  .have ef:(cZ (l[k].2.2.2.2.1+q)).2.1≠0:=by unfold cZ;rw[ag h];decide
   rw[fV ef,k6t,ag λq=>h q.1]
def kO(l:List bP)(id q:Int):List bP×Int×Unit:=
 match Ba l id with
 |none=>([],11,())
 |some g=>if q=0\/(g.2.2.2.2.1≠0/\decide (q<0)≠decide (g.2.2.2.2.1<0))then([],2,())else if(0<q/\g.2.2.2.2.1<q)\/(q<0/\q<g.2.2.2.2.1)then([],23,())else(l.map λy=>if y.1=id then kv (g.2.2.2.2.1-q) y else y,0,())
theorem akZ{l}{id q}(hl:l.length<=1000)(hs:qU (·.1) l)(hI:∀g∈l,cu g.2.2.2.2.1)(hq:cu q):Qm l id q=some (kO l id q):=by
 show vZ aj l id q=_;unfold vZ kO Ba;rw[ai (agp (by omega))];rcases lx (λm:bP=>m.1==id) l with⟨h1,h2⟩|⟨k,hk,h1,h2,h3⟩
 .rw[h1,h2,aQ (by decide)]
 .have hg:=hI _ (aG hk);rw[h1,h2,cY (by omega),bO hk];refine bw λk7 I0=>?_
  have k7t:k7 (true,())=some ([],2,()):=by subst I0;rfl
  have ZV:(q≠0/\(l[k].2.2.2.2.1=0\/decide (q<0)=decide (l[k].2.2.2.2.1<0)))->k7 (false,())=some (if(0<q/\l[k].2.2.2.2.1<q)\/(q<0/\q<l[k].2.2.2.2.1)then([],23,())else(l.map λy=>if y.1=id then kv (l[k].2.2.2.2.1-q) y else y,0,())):=by
   intro hz;subst I0;refine AP rfl ?_;refine bw λk6 F8=>?_
   have k6t:k6 (true,())=some ([],23,()):=by subst F8;rfl
   have k6f:(¬((0<q/\l[k].2.2.2.2.1<q)\/(q<0/\q<l[k].2.2.2.2.1)))->k6 (false,())=some (l.map λy=>if y.1=id then kv (l[k].2.2.2.2.1-q) y else y,0,()):=by
    intro hn
    have hw:IntKind.i64.wrap (l[k].2.2.2.2.1-q)=l[k].2.2.2.2.1-q:=bI _ (by
     unfold cu at hg hq;rcases hz.2 with h|h
     .omega
     .rw[eF]at h;omega)
    subst F8;refine AP rfl ?_;rw[hw,ai (adO hl hs hk (by simpa using h3))]
   refine du (λh4=>?_) λh4=>?_
   .refine du (λh5=>?_) λh5=>?_
    .rw[k6t,ah (.inl ⟨h4,h5⟩)]
    .rw[cY (by omega),k6f (by omega),ag (by omega)]
   .rw[eR (by omega)];by_cases h5:q<l[k].2.2.2.2.1
    .rw[aq h5,k6t,ah (.inr ⟨by omega,h5⟩)]
    .rw[an h5,k6f (by omega),ag (by omega)]
  show aj.af (q==0) _ _=some (if q=0\/(l[k].2.2.2.2.1≠0/\decide (q<0)≠decide (l[k].2.2.2.2.1<0))then([],2,())else if(0<q/\l[k].2.2.2.2.1<q)\/(q<0/\q<l[k].2.2.2.2.1)then([],23,())else(l.map λy=>if y.1=id then kv (l[k].2.2.2.2.1-q) y else y,0,()));refine dQ (λh4=>?_) λh4=>?_
  .rw[k7t,ah (.inl h4)]
  .refine iY (λh5=>?_) λh5=>?_
   .rw[ZV ⟨h4,.inl h5⟩,ag (show ¬(q=0\/(l[k].2.2.2.2.1≠0/\decide (q<0)≠decide (l[k].2.2.2.2.1<0)))from λh=>h.elim h4 λh=>h.1 h5)]
   .have en:dq true (decide (q<0)==decide (l[k].2.2.2.2.1<0))=decide (decide (q<0)≠decide (l[k].2.2.2.2.1<0)):=by cases decide (q<0)<;>cases decide (l[k].2.2.2.2.1<0)<;>rfl
    rw[en];by_cases h6:decide (q<0)=decide (l[k].2.2.2.2.1<0)
    .rw[an (not_not_intro h6),ZV ⟨h4,.inr h6⟩,ag (show ¬(q=0\/(l[k].2.2.2.2.1≠0/\decide (q<0)≠decide (l[k].2.2.2.2.1<0)))from λh=>h.elim h4 λh=>h.2 h6)]
    .rw[aq h6,k7t,ah (.inr ⟨h5,h6⟩)]
def G4(l:List bP):Int:=match l.getLast? with|some g=>g.1|none=>0
def G7(l:List bP)(g:bP):List bP×Int×Int×Unit:=if g.2.2.2.2.1=0\/¬l9 g.2.2.2.2.1 then([],0,2,())else if 64<=l.length then([],0,25,())else(l++[(G4 l+1,g.2)],G4 l+1,0,())
theorem apK{l}{g}(hl:l.length<=1000)(hi:∀x∈l,0<=x.1/\x.1<=1048576):UB l g=some (G7 l g):=by
 show zb aj l g=_;unfold zb G7;refine bw λk7 I0=>?_
 have k7t:k7 (true,())=some ([],0,2,()):=by subst I0;rfl
 have ZV:k7 (false,())=some (if 64<=l.length then([],0,25,())else(l++[(G4 l+1,g.2)],G4 l+1,0,())):=by
  subst I0;refine AP (by rfl) ?_;by_cases h6:64<=l.length
  .rw[eR (by omega),ah h6]
  .rw[cY (by omega),ag h6];refine bw λk5 DX=>?_
   have fin:∀id:Int,k5 (id,g.2.1.1,g.2.1.2.1,g.2.2)=some (l++[(id,g.2)],id,0,()):=by intro id;subst DX;show aj.two (aj.ae (oZ l) λv3=>aj.bi (v3.length+1) 48 (some (v3++[(id,g.2)],id,0,())))=_;rw[ja,ai (adN (by omega)),dm (by omega) (by omega)]
   by_cases h0:0<l.length
   .have e:=abc l.length (by omega) (by omega);have Cn:l.length-1<l.length:=by omega
    have apG:G4 l=l[l.length-1].1:=by unfold G4;rw[List.getLast?_eq_getElem?,aw Cn]
    have hb:=hi _ (aG Cn);rw[eR (by omega),e,bO Cn,bI (l[l.length-1].1+1) (by omega),<-apG];exact fin _
   .have:l=[]:=fx (by omega);subst this;rw[az (by rfl)];exact fin 1
 refine dQ (λh2=>?_) λh2=>?_
 .rw[k7t,ah (.inl h2)]
 .rw[ai (Uz _)];by_cases h3:l9 g.2.2.2.2.1
  .rw[aq h3,ag (show ¬(g.2.2.2.2.1=0\/¬l9 g.2.2.2.2.1)from λh=>h.elim h2 λh=>h h3)];exact ZV
  .rw[an h3,ah (.inr h3)];exact k7t
def wY(m:aW)(day fr:Int):aW×Int×Unit:=if ¬Af m\/day<0\/1048576<day then(CE,2,())else if m.2.2.1=fr then((m.1,m.2.1,m.2.2.1+1,m.2.2.2),0,())else(CE,13,())
theorem UC(m)(day fr):agu m day fr=some (wY m day fr):=by
 show rU aj m day fr=_;unfold rU wY;refine bw λk2 yd=>?_
 have k2t:k2 (true,())=some (CE,2,()):=by subst yd;rfl
 have k2f:Af m->k2 (false,())=some (if m.2.2.1=fr then((m.1,m.2.1,m.2.2.1+1,m.2.2.2),0,())else(CE,13,())):=by
  intro hm;subst yd;refine AP rfl ?_;by_cases h:m.2.2.1=fr
  .have hw:IntKind.i64.wrap (m.2.2.1+1)=m.2.2.1+1:=bI _ (by unfold Af at hm;omega);rw[iZ h,ah h,hw]
  .rw[fV h,ag h];rfl
 rw[ai (KZ m)];by_cases h1:Af m
 .rw[ah h1,az (by rfl)];refine du (λh2=>?_) λh2=>?_
  .rw[k2t,ah (.inr (.inl h2))]
  .by_cases h3:1048576<day
   .rw[aq h3,k2t,ah (.inr (.inr h3))]
   .rw[an h3,k2f h1,ag (show ¬(¬Af m\/day<0\/1048576<day)from λh=>h.elim (λh=>h h1) (by omega))]
 .rw[ag h1,aQ (by rfl),k2t,ah (.inl h1)]
def amD(m:aW)(day n:Int):aW×Int×Unit:=if n<0\/16<n then(CE,2,())else if(wY m day 0).2.1=0 then(U3 (wY m day 0).1 (day+n,()),(wY m day 0).2)else wY m day 0
theorem amE(m)(day n):SS m day n=some (amD m day n):=by
 show zc aj m day n=_;unfold zc amD;refine bw λk5 DX=>?_
 have k5t:k5 (true,())=some (CE,2,()):=by subst DX;rfl
 have k5f:(0<=n/\n<=16)->k5 (false,())=some (if(wY m day 0).2.1=0 then(U3 (wY m day 0).1 (day+n,()),(wY m day 0).2)else wY m day 0):=by
  intro hn;subst DX;refine AP rfl ?_;rw[ai (UC m day 0)];refine bw λk4 Vp=>?_
  by_cases h:(wY m day 0).2.1=0
  .have hd:0<=day/\day<=1048576:=by
    unfold wY at h;by_cases c:¬Af m\/day<0\/1048576<day
    .rw[ah c]at h;exact absurd h (by decide)
    .have:¬(day<0\/1048576<day):=λq=>c (.inr q)
     omega
   rw[oO h,ah h,show IntKind.i64.wrap (day+n)=day+n from bI _ (by omega)];subst Vp;rfl
  .rw[py h,ag h];subst Vp;rfl
 refine du (λh2=>?_) λh2=>?_
 .rw[k5t,ah (.inl h2)]
 .by_cases h3:16<n
  .rw[aq h3,k5t,ah (.inr h3)]
  .rw[an h3,k5f (by omega),ag (show ¬(n<0\/16<n)by omega)]
def aiU(m:aW)(day:Int):aW×Int×Unit:=if(wY m day 1).2.1=0 then(if day<=m.2.2.2.1 then(CE,18,())else((wY m day 1).1,0,()))else(CE,(wY m day 1).2)
theorem apL(m)(day):UD m day=some (aiU m day):=by
 show zd aj m day=_;unfold zd aiU;rw[ai (UC m day 1)];refine iY (λh=>?_) λh=>?_
 .rw[ah h];refine du (λh2=>?_) λh2=>?_
  .rw[ah h2];rfl
  .rw[ag h2]
 .rw[ag h];rfl
theorem ajQ(m)(day):PO m day=some (wY m day 2):=by show wa aj m day=_;unfold wa;rw[ai (UC m day 2)]
def ajU(n:Nat)(v:Int):Nat:=if v<0 then n else v.toNat
def Ms(d:List bz)(f t:ar):List bz:=d.take (ajU d.length (zX (λc=>decide (oJ f c.1)) d))++(f,t,false,())::d.drop (ajU d.length (zX (λc=>decide (oJ f c.1)) d))
def Fy(l:List bz)(f t:ar):List bz×Int×Unit:=if Dx l (chP l)=true then(if f=t then([],24,())else(Ms (G9 l f) f t,0,()))else([],3,())
theorem ala{l}{f t}(hl:l.length<=1000):adP l f t=some (Fy l f t):=by
 show wb aj l f t=_;unfold wb Fy;rw[ai (aiy (by omega))];by_cases h:Dx l (chP l)=true
 .rw[ah h,h,az (by rfl),vd];by_cases TX:f=t
  .rw[aq TX,aQ rfl,ah TX]
  .rw[an TX,az rfl,ag TX,ai (aiI (by omega))];have hdl:(G9 l f).length<=1000:=cp (cW _ _) hl;unfold Ms;generalize G9 l f=d at*
   have e1:mq f.1 f.2.1 d=some (zX (λc=>decide (oJ f c.1)) d,f):=by
    show db aj f.1 f.2.1 d=_;unfold db;refine ve (s:=d) (C:=ar) (by omega) (λc=>decide (oJ f c.1)) (λc (u:ar)=>VV u.1 u.2.1 c) f λx _=>?_
    exact yu (CT _ _) rfl
   rw[ai e1];refine bw λk6 F8=>?_
   have fin:∀p:Nat,p<=d.length->k6 ((p:Int),d,())=some (d.take p++(f,t,false,())::d.drop p,0,()):=by
    intro p hp;subst F8;have hi:Al d (p:Int) [(f,t,false,())]=some (d.take p++(f,t,false,())::d.drop p,()):=by exact(O6 hp (by omega)).trans rfl
    exact yu hi rfl
   clear F8;rcases lx (λc:bz=>decide (oJ f c.1)) d with⟨h1,h2⟩|⟨k,hk,h1,h2,_⟩
   .rw[h1,aQ (by rfl)];show k6 ((d.length:Int),d,())=_;rw[fin _ (au _)];rfl
   .rw[h1,az (an (by show ¬(k:Int)<0;omega))];dsimp only;have e:ajU d.length (k:Int)=k:=by unfold ajU;rw[ag (by omega)];omega
    rw[fin _ (by omega),e]
 .have h:Dx l (chP l)=false:=by simpa using h
  rw[h,aQ (by rfl),ag (by decide)]
theorem axf{l}{u}(hl:l.length<=1000000):ads l u=some (zX (λc=>decide (c.1=u)) l):=by
 have e1:iN u.1 u.2.1 l=some (zX (λc=>decide (c.1=u)) l,u):=by
  show cj aj u.1 u.2.1 l=_;unfold cj;refine ve hl (λc=>decide (c.1=u)) (λm (c:ar)=>Uq c.1 c.2.1 m) u λx _=>?_
  show some (dq false ((x.1.1==u.1)&&(x.1.2.1==u.2.1)),u)=_;rw[vd]
 show uD aj l u=_;unfold uD;rw[ai e1]
def ard(c:bz):bz:=(c.1,c.2.1,true,())
def Fz(l:List bz)(f t:ar):List bz×Int×Unit:=if Dx l (chP l)=true then(if zX (λc=>decide (c.1=f)) l<0 then([],19,())else if(l.getD (zX (λc=>decide (c.1=f)) l).toNat abO).2.1=t then(l.set (zX (λc=>decide (c.1=f)) l).toNat (ard (l.getD (zX (λc=>decide (c.1=f)) l).toNat abO)),0,())else([],11,()))else([],3,())
theorem alb{l}{f t}(hl:l.length<=1000):adQ l f t=some (Fz l f t):=by
 show wc aj l f t=_;unfold wc Fz;rw[ai (axf (by omega)),ai (aiy (by omega))];by_cases h:Dx l (chP l)=true
 .rw[ah h,h,az (by rfl)];rcases lx (λc:bz=>decide (c.1=f)) l with⟨h1,h2⟩|⟨k,hk,h1,h2,h3⟩
  .rw[h1,aQ (by rfl)];rfl
  .rw[h1,cY (by omega),bO hk,ag (by omega)];conv=>rhs;rw[aU,show l.getD k abO=l[k]from by rw[eQ,aw hk];rfl]
   have en:dq true ((l[k].2.1.1==t.1)&&(l[k].2.1.2.1==t.2.1))=!decide (l[k].2.1=t):=by rw[<-vd];cases((l[k].2.1.1==t.1)&&(l[k].2.1.2.1==t.2.1))<;>rfl
   rw[en];by_cases ht:l[k].2.1=t
   .rw[aq ht,az (show(!true)=false from rfl),ah ht,ai (adw (by omega)),bO hk,iR hk,aU];rfl
   .rw[an ht,aQ (show(!false)=true from rfl),ag ht]
 .have h:Dx l (chP l)=false:=by simpa using h
  rw[h,aQ (by rfl),ag (by decide)]
theorem ate(x y):adR x y=some (decide (x<y)):=by show EX aj x y=_;unfold EX;rw[ai (show XW x=some (x != x)from rfl),az (by simp)]
theorem azB{l}{k}(hs:qU (λx:Int=>x) l)(hl:l.length<=1000):BV l k=some (((jT (λx:Int=>x) l k:Nat):Int),decide (k∈l),()):=by
 show gV aj l k=_;unfold gV;have hle:=CW (λy:Int=>y) l k;refine iH (X:=Int×Int×Unit) (β:=Int×Bool×Unit) (λz=>(z.2.1-z.1).toNat) (λz=>∃i j:Nat,z=((i:Int),(j:Int),())/\i<=jT (λx:Int=>x) l k/\jT (λx:Int=>x) l k<=j/\j<=l.length) (λ_=>some (((jT (λx:Int=>x) l k:Nat):Int),decide (k∈l),())) ⟨0,l.length,rfl,bE _,hle,au _⟩ (by dsimp only;omega) ?_;rintro _ ⟨i,j,rfl,h1,h2,h3⟩ again ha
 show aj.af (decide ((i:Int)<(j:Int))) (aj.i7 1 (aj.aI l (i64.wrap (Int.fdiv (u64.wrap (i64.wrap ((i:Int)+(j:Int)))) (2 ^ (min (Int.toNat 1) u64.bits)))) λx3=>aj.ae (adR x3 k) λv4=>
  aj.af v4 (again (i64.wrap (i64.wrap (Int.fdiv (u64.wrap (i64.wrap ((i:Int)+(j:Int)))) (2 ^ (min (Int.toNat 1) u64.bits)))+1),(j:Int),())) (again ((i:Int),i64.wrap (Int.fdiv (u64.wrap (i64.wrap ((i:Int)+(j:Int)))) (2 ^ (min (Int.toNat 1) u64.bits))),()))))
  (aj.af (decide ((i:Int)<(l.length:Int))) (aj.aI l (i:Int) λx5=>aj.af (x5==k) (some ((i:Int),true,())) (aj.aI l (i:Int) λx6=>aj.ae (Ni x6) λv7=>aj.af v7 _ (some ((i:Int),false,())))) (some ((i:Int),false,())))=_
 rw[avm i j (by omega)];by_cases hij:i<j
 .have hh:(i+j) / 2<l.length:=by omega
  rw[eR (by omega),vj (by decide),bO hh,ai (ate _ _)];have hla:=vX k hs hh;refine du (λhlt=>?_) λhlt=>?_
  .rw[cU _ (by omega)];have:=hla.1 hlt;exact ha _ ⟨(i+j) / 2+1,j,rfl,by omega,h2,h3⟩ (by dsimp only;omega)
  .have:¬(i+j) / 2<jT (λx:Int=>x) l k:=λh=>hlt (hla.2 h)
   exact ha _ ⟨i,(i+j) / 2,rfl,h1,by omega,by omega⟩ (by dsimp only;omega)
 .have hi:i=jT (λx:Int=>x) l k:=by omega
  subst hi;rw[cY (by omega)];rcases Nh hs k with⟨hi,e1,_⟩|⟨e1,e2⟩
  .have:k∈l:=by have:=aG hi;rw[e1]at this;exact this
   rw[eR (by omega),bO hi,oO e1,aq this]
  .have hn:¬k∈l:=λh=>by have:=nh.1 e1 k h;simp at this
   rw[an hn];by_cases hi:jT (λx:Int=>x) l k<l.length
   .have:=e2 hi;rw[eR (by omega),bO hi,az (by simp;omega),bO hi,ai (show Ni l[jT (λx:Int=>x) l k]=some (l[jT (λx:Int=>x) l k] != l[jT (λx:Int=>x) l k])from rfl),az (by simp)]
   .rw[cY (by omega)]
def apM(k:Int):Int:=if k=1 then 0 else if k=4 then 1 else 16
def uc(a:aD)(c:Int):aD×Int×Unit:=if okA a=true then(if a.2.2.1=1 then(wU,17,())else if c<1\/16<c then(wU,2,())else if c∈a.2.2.2.1 then(wU,12,())else if apM a.2.2.1<=a.2.2.2.1.length then(wU,10,())else((a.1,a.2.1,a.2.2.1,wN (λx:Int=>x) a.2.2.2.1 c,()),0,()))else(wU,2,())
theorem apN{a}{c}(hl:a.2.2.2.1.length<=1000)(hs:qU (λx:Int=>x) a.2.2.2.1):X4 a c=some (uc a c):=by
 show BW aj a c=_;unfold BW uc;rw[ai (O4 (by omega))];by_cases ho:okA a=true
 .rw[ah ho,ah ho,az (by rfl),ai (azB hs hl)];by_cases hk:a.2.2.1=1
  .rw[ah hk,oO hk];rfl
  .rw[ag hk,py hk];refine bw λk7 I0=>?_
   have k7t:k7 (true,())=some (wU,2,()):=by subst I0;rfl
   have ZV:k7 (false,())=some (if c∈a.2.2.2.1 then(wU,12,())else if apM a.2.2.1<=a.2.2.2.1.length then(wU,10,())else((a.1,a.2.1,a.2.2.1,wN (λx:Int=>x) a.2.2.2.1 c,()),0,())):=by
    subst I0;refine AP rfl ?_;by_cases hc:c∈a.2.2.2.1
    .rw[aq hc,aQ rfl,ah hc];rfl
    .rw[an hc,az rfl,ag hc,ai (show XH a.2.2.1=some (apM a.2.2.1)from aix _)];refine du (λhm=>?_) λhm=>?_
     .rw[ah hm];rfl
     .rw[ag hm,ai (L3 (by omega))];have hle:=CW (λy:Int=>y) a.2.2.2.1 c;have hi:Iw a.2.2.2.1 ((jT (λx:Int=>x) a.2.2.2.1 c:Nat):Int) [c]=some (wN (λx:Int=>x) a.2.2.2.1 c,()):=by refine(O6 hle (by omega)).trans ?_;have:=Ng (λy:Int=>y) a.2.2.2.1 c;rw[this]
      rw[ai hi]
   refine du (λh1=>?_) λh1=>?_
   .rw[k7t,ah (.inl h1)]
   .by_cases h2:16<c
    .rw[aq h2,k7t,ah (.inr h2)]
    .rw[an h2,ZV,ag (show ¬(c<1\/16<c)by omega)]
 .rw[ag ho,ag ho,aQ (by rfl)];rfl
def Lh:List Int->List ar
 |a::b::l=>(a,b,())::Lh l
 |_=>[]
def zF(l:List Int):List ar:=if l.length % 2=0 then Lh l else[]
theorem UE:∀l:List Int,(Lh l).length<=l.length
 |[]=>au _
 |[_]=>bE _
 |a::b::l=>by have:=UE l;show(Lh l).length+1<=l.length+1+1;omega
theorem atf{l}(hl:l.length<=1000):adS l=some (zF l):=by
 show we aj l=_;unfold we;refine iH (X:=Int×List ar×Unit) (β:=List ar) (λz=>l.length+1-z.1.toNat) (λz=>∃(k:Nat) (acc:List ar),2*k<=l.length/\acc.length=k/\acc++Lh (l.drop (2*k))=Lh l/\z=(((2*k:Nat):Int),acc,())) (λ_=>some (zF l)) ⟨0,[],by omega,rfl,rfl,rfl⟩ (by dsimp only;omega) ?_;rintro _ ⟨k,acc,hk,ha,he,rfl⟩ again I2;show aj.af (decide ((IntKind.i64.wrap (((2*k:Nat):Int)+1))<(l.length:Int))) (aj.aI l ((2*k:Nat):Int) λx3=>aj.aI l (IntKind.i64.wrap (((2*k:Nat):Int)+1)) λx4=>aj.bi (acc.length+1) 16 (again (IntKind.i64.wrap (((2*k:Nat):Int)+2),acc++[(x3,x4,())],()))) (aj.Ey 2 (aj.af ((Int.tmod (l.length:Int) 2) != 0) (some []) (some acc)))=_;rw[cU (2*k) (by omega)];by_cases h:2*k+1<l.length
 .have h0:2*k<l.length:=by omega
  rw[dE h,bO h0,bO h,dm (by omega) (by omega),show IntKind.i64.wrap (((2*k:Nat):Int)+2)=((2*(k+1):Nat):Int)by rw[bI _ (by omega)];omega];refine I2 _ ⟨k+1,_,by omega,by rw[ap];simp;omega,?_,rfl⟩ (by dsimp only;omega);rw[<-he,ck h0,ck h,bq,show 2*(k+1)=2*k+1+1 by omega];rfl
 .rw[cY (by omega),Yx (by decide)]
  have hf:Lh (l.drop (2*k))=[]:=by
   have hd:(l.drop (2*k)).length<=1:=by rw[dk];omega
   match hh:l.drop (2*k)with
   |[]=>rfl
   |[_]=>rfl
   |a::b::m=>rw[hh]at hd;simp at hd
  rw[hf,cy]at he;unfold zF;rw[sf (by omega)];by_cases hm:l.length % 2=0
  .rw[ah hm,az (by simp;omega),he]
  .rw[ag hm,aQ (by simp;omega)]
def qY(f:ar):Bool:=decide (f.2.1<0)||(decide (2147483647<f.2.1)||(decide (f.1=0)||!decide (l9 f.1)))
theorem atg(f):adT f=some (qY f):=by
 show wg aj f=_;unfold wg qY;refine du (λh1=>?_) λh1=>?_
 .rw[aq h1];rfl
 .rw[an h1];refine du (λh2=>?_) λh2=>?_
  .rw[aq h2];rfl
  .rw[an h2];refine dQ (λh3=>?_) λh3=>?_
   .rw[aq h3];rfl
   .rw[an h3,ai (Uz _)];rfl
theorem agv{s}(hs:s.length<=1000000):nC s=some (s.any qY,()):=by
 have key:∃i:Int,o8 s=some (i,())/\decide (0<=i)=s.any qY:=by
  show ∃i,dw aj s=_/\_;unfold dw;refine po (X:=Int×Unit) (β:=Int×Unit) (λo=>∃i:Int,o=some (i,())/\decide (0<=i)=s.any qY) (λz=>s.length+1-z.1.toNat) (λz=>∃j:Nat,j<=s.length/\z=((j:Int),())/\(s.take j).any qY=false) ⟨0,bE _,rfl,by simp⟩ (by dsimp only;omega) ?_;rintro _ ⟨j,hj,rfl,hp⟩ again ha;show ∃i,aj.af (decide ((j:Int)<(s.length:Int))) (aj.aI s (j:Int) _) _=_/\_;by_cases h:j<s.length
  .rw[dE h,bO h,ai (atg _)];cases hv:qY s[j]with
   |false=>rw[az rfl];dsimp only;rw[cU j (by omega)];refine ha _ ⟨j+1,by omega,rfl,?_⟩ (by dsimp only;omega);rw[ax h,Gs,hp];simp[hv]
   |true=>rw[aQ rfl];refine⟨(j:Int),rfl,?_⟩;have:=jr.2 ⟨s[j],aG h,hv⟩;rw[this,aq (by omega)]
  .have:j=s.length:=by omega
   subst this;rw[dZ];rw[br]at hp;exact⟨-1,rfl,by rw[hp];rfl⟩
 obtain⟨i,e,h⟩:=key;show di aj s=_;unfold di;rw[ai e];dsimp only;rw[h]
def Ap(a:Int):Int:=if a<0 then -a else a
def wh(l:List ar):Int:=(l.map λf=>Ap f.1).sum
def Nj(l:List ar):Int:=(l.map λf=>Ap f.1*f.2.1).sum
def Qn(l:List ar):Bool:=l.any λf=>decide (f.1<0) != decide ((l.headD (0,0,())).1<0)
def alc(l:List ar):Prop:=l=[]\/16<l.length\/l.any qY=true\/Qn l=true
instance (l:List ar):Decidable (alc l):=by unfold alc;infer_instance
def kQ(l:List ar):Int×Int×Int:=if alc l then(0,0,2)else if 1099511627776<wh l then(0,0,25)else(wh l,Nj l,0)
theorem adU{f}(h:qY f=false):(0<=f.2.1/\f.2.1<=2147483647)/\f.1≠0/\l9 f.1:=by unfold qY at h;simp only[oB,pQ,Bool.not_eq_false',bb]at h;obtain⟨h1,h2,h3,h4⟩:=h;exact⟨by omega,h3,h4⟩
theorem Z'{f}(h:qY f=false):(1<=Ap f.1/\Ap f.1<=1099511627776)/\0<=Ap f.1*f.2.1/\Ap f.1*f.2.1<=Ap f.1*2147483647:=by
 obtain⟨h1,h2,h3⟩:=adU h;unfold l9 at h3;have ha:1<=Ap f.1/\Ap f.1<=1099511627776:=by unfold Ap;split<;>omega
 exact⟨ha,jc (by omega) h1.1,gy h1.2 (by omega)⟩
theorem R3:∀{l:List ar},l.any qY=false->((l.length:Int)<=wh l/\wh l<=1099511627776*l.length)/\0<=Nj l/\Nj l<=wh l*2147483647
 |[],_=>by unfold wh Nj;simp
 |f::l,h=>by rw[List.any_cons,oB]at h;obtain⟨⟨a1,a2⟩,a3,a4⟩:=Z' h.1;obtain⟨⟨b1,b2⟩,b3,b4⟩:=R3 h.2;unfold wh Nj at *;rw[bK,gN,bK,gN,aJ];rw[oC];omega
def UF(l:List ar):List bU:=l.map λf=>wide (Ap f.1*f.2.1)
theorem ath(l):UF l=(l.map λf=>Ap f.1*f.2.1).map wide:=by unfold UF;rw[hJ];rfl
theorem axg{a}(h:l9 a):Md a=some (Ap a,0,()):=by
 unfold l9 at h;rw[aeS (by unfold cu;omega)];unfold Ap;by_cases h1:a<0
 .rw[ah h1,ah h1];unfold cZ;rw[ah (by unfold cu;omega)]
 .rw[ag h1,ag h1]
theorem ati{l}(hl:l.length<=1000):agw l=some ((kQ l).1,wide (kQ l).2.1,(kQ l).2.2,()):=by
 show ze aj l=_;unfold ze;refine bw λk9 RC=>?_
 have k9t:k9 (true,())=some (0,wide 0,2,()):=by subst RC;rfl
 have k9f:l≠[]->l.length<=16->l.any qY=false->k9 (false,())=some (if Qn l=true then(0,wide 0,2,())else if 1099511627776<wh l then(0,wide 0,25,())else(wh l,wide (Nj l),0,())):=by
  intro h0 h16 hw;subst RC;refine AP rfl ?_;have hlp:0<l.length:=ga.2 h0
  have hhd:l.headD (0,0,())=l[0]:=by
   cases l with
   |nil=>exact absurd rfl h0
   |cons a t=>rfl
  have wr:∀f∈l,qY f=false:=λf hf=>by
   cases e:qY f with
   |false=>rfl
   |true=>have:=jr.2 ⟨f,hf,e⟩;rw[hw]at this;exact absurd this (by decide)
  refine iH (X:=Int×Int×List bU×Unit) (β:=Int×bU×Int×Unit) (λz=>l.length+1-z.2.1.toNat) (λz=>∃k:Nat,k<=l.length/\z=(wh (l.take k),(k:Int),UF (l.take k),())/\∀f∈l.take k,decide (f.1<0)=decide (l[0].1<0)) (λ_=>some (if Qn l=true then(0,wide 0,2,())else if 1099511627776<wh l then(0,wide 0,25,())else(wh l,wide (Nj l),0,()))) ⟨0,bE _,rfl,by simp⟩ (by dsimp only;omega) ?_;rintro _ ⟨k,hk,rfl,hsg⟩ again ha;show aj.af (decide ((k:Int)<(l.length:Int))) _ (aj.af (decide (1099511627776<wh (l.take k))) _ (aj.ae (yC (UF (l.take k))) _))=_;by_cases h:k<l.length
  .rw[dE h];show aj.aI l (k:Int) (λx4=>aj.aI l ((0:Nat):Int) _)=_;rw[bO h,bO hlp];have hwk:=wr _ (aG h);obtain⟨p1,p2,p3⟩:=adU hwk;obtain⟨⟨a1,a2⟩,a3,a4⟩:=Z' hwk;have en:dq true (decide (l[k].1<0)==decide (l[0].1<0))=(decide (l[k].1<0) != decide (l[0].1<0)):=by cases decide (l[k].1<0)<;>cases decide (l[0].1<0)<;>rfl
   rw[en];by_cases hs:decide (l[k].1<0)=decide (l[0].1<0)
   .rw[az (by rw[hs];simp),ai (axg p3),ai (Fp (a:=Ap l[k].1) (b:=l[k].2.1) (by unfold cu;omega) (by unfold cu;omega))];have bt:=R3 (l:=l.take k) (kS.2 λf hf=>by rw[wr f (fh hf)];decide);rw[aX]at bt;have em:wh (l.take (k+1))=wh (l.take k)+Ap l[k].1:=by unfold wh;rw[ax h,cz,nJ];simp
    have ew:UF (l.take (k+1))=UF (l.take k)++[wide (Ap l[k].1*l[k].2.1)]:=by unfold UF;rw[ax h,cz];rfl
    have lw:(UF (l.take k)).length=k:=by unfold UF;rw[bh,aX];omega
    show aj.bi ((UF (l.take k)).length+1) 16 (again (IntKind.i64.wrap (wh (l.take k)+Ap l[k].1),IntKind.i64.wrap ((k:Int)+1),UF (l.take k)++[wide (Ap l[k].1*l[k].2.1)],()))=_;rw[dm (by omega) (by omega),cU k (by omega),bI _ (by omega),<-em,<-ew];refine ha _ ⟨k+1,by omega,rfl,?_⟩ (by dsimp only;omega);intro f hf;rw[ax h,aT]at hf;rcases hf with hf|hf
    .exact hsg f hf
    .simp only[aC]at hf;subst hf;exact hs
   .rw[aQ (by simpa using hs)];have:Qn l=true:=by unfold Qn;rw[hhd];exact jr.2 ⟨l[k],aG h,by simpa using hs⟩
    rw[ah this];rfl
  .have e:k=l.length:=by omega
   subst e;rw[dZ];rw[br]at hsg ⊢;have hns:¬Qn l=true:=by intro hc;unfold Qn at hc;rw[hhd]at hc;obtain⟨f,hf,hne⟩:=jr.1 hc;rw[hsg f hf]at hne;simp at hne
   rw[ag hns];refine du (λhm=>?_) λhm=>?_
   .rw[ah hm];rfl
   .rw[ag hm,ath];have ba:∀x∈(l.map λf=>Ap f.1*f.2.1),0<=x/\x<=1099511627776*2147483647:=by intro x hx;obtain⟨f,hf,rfl⟩:=aN.1 hx;obtain⟨⟨a1,a2⟩,a3,a4⟩:=Z' (wr f hf);exact⟨a3,by omega⟩
    have e:yC ((l.map λf=>Ap f.1*f.2.1).map wide)=some (wide (Nj l),0,()):=by have hlm:(l.map λf=>Ap f.1*f.2.1).length=l.length:=bh _;rw[Su _ (λw hw=>by obtain⟨x,hx,rfl⟩:=aN.1 hw;have:=ba x hx;exact nL _ (by unfold eN;omega)) (by rw[bh];omega),XQ];have bt:=R3 hw;unfold fit;rw[ah (show eN (l.map λf=>Ap f.1*f.2.1).sum from by have h1:Nj l=(l.map λf=>Ap f.1*f.2.1).sum:=rfl;rw[<-h1];unfold eN;omega)];rfl
    rw[ai e]
 clear RC;have bad:alc l->kQ l=(0,0,2):=λh=>ah h
 by_cases h0:l=[]
 .rw[bad (.inl h0)];subst h0;rw[aQ (by rfl),k9t]
 .have hlp:0<l.length:=ga.2 h0;rw[az (an (by omega))];by_cases h16:16<l.length
  .rw[aQ (aq (by omega)),k9t,bad (.inr (.inl h16))]
  .rw[az (an (by omega)),ai (agv (by omega))];cases hw:l.any qY with
   |true=>rw[bad (.inr (.inr (.inl hw))),k9t]
   |false=>
    rw[k9f h0 (by omega) hw];cases hs:Qn l with
    |true=>rw[bad (.inr (.inr (.inr hs))),ah rfl]
    |false=>
     have Xe:¬alc l:=by
      intro h;rcases h with h|h|h|h
      .exact h0 h
      .exact h16 h
      .rw[hw]at h;exact absurd h (by decide)
      .rw[hs]at h;exact absurd h (by decide)
     rw[ag (by decide)];unfold kQ;rw[ag Xe];by_cases hm:1099511627776<wh l
     .rw[ah hm,ah hm]
     .rw[ag hm,ag hm]
def Li(l:List ar):Int×Int×Int×Int:=if(kQ l).2.2=0 then((if(l.headD (0,0,())).1<0 then -(kQ l).1 else(kQ l).1),(kQ l).2.1 / (kQ l).1,(kQ l).2.1 % (kQ l).1,0)else(0,0,0,(kQ l).2.2)
theorem X5{l}(h:(kQ l).2.2=0):l≠[]/\(1<=(kQ l).1/\(kQ l).1<=1099511627776)/\0<=(kQ l).2.1/\(kQ l).2.1<=(kQ l).1*2147483647:=by
 unfold kQ at h ⊢;by_cases hb:alc l
 .rw[ah hb]at h;exact absurd h (by decide)
 .rw[ag hb]at h ⊢;by_cases hm:1099511627776<wh l
  .rw[ah hm]at h;exact absurd h (by decide)
  .rw[ag hm];have h0:l≠[]:=λe=>hb (.inl e)
   have hw:l.any qY=false:=by
    cases e:l.any qY with
    |false=>rfl
    |true=>exact absurd (.inr (.inr (.inl e))) hb
   have hlp:=ga.2 h0;obtain⟨⟨a1,a2⟩,a3,a4⟩:=R3 hw;exact⟨h0,⟨by omega,by omega⟩,a3,a4⟩
theorem atG{l}(h:(Li l).2.2.2=0):(kQ l).2.2=0/\(-1099511627776<=(Li l).1/\(Li l).1<=1099511627776)/\(0<=(Li l).2.1/\(Li l).2.1<=2147483647)/\0<=(Li l).2.2.1/\(Li l).2.2.1<1099511627776:=by
 unfold Li at h ⊢;by_cases h0:(kQ l).2.2=0
 .rw[ah h0];obtain⟨_,⟨a1,a2⟩,a3,a4⟩:=X5 h0;generalize (kQ l).1=m at *;generalize (kQ l).2.1=c at *;refine⟨h0,?_,⟨fJ a3 (by omega),?_⟩,jg _ (by omega),?_⟩
  .have q:∀(b:Prop) [Decidable b],-1099511627776<=(if b then -m else m)/\(if b then -m else m)<=1099511627776:=by intro b _;split<;>omega
   exact q _
  .exact Int.ediv_le_of_le_mul (by omega) (by rw[iE];exact a4)
  .have:=gC c (show 0<m by omega);dsimp only;omega
 .rw[ag h0]at h;exact absurd h h0
theorem X6{l}(hl:l.length<=1000):VW l=some ((Li l).1,(Li l).2.1,(Li l).2.2.1,(Li l).2.2.2,()):=by
 show pG aj l=_;unfold pG;rw[ai (ati hl)];by_cases h:(kQ l).2.2=0
 .have e:Li l=((if(l.headD (0,0,())).1<0 then -(kQ l).1 else(kQ l).1),(kQ l).2.1 / (kQ l).1,(kQ l).2.1 % (kQ l).1,0):=ah h;obtain⟨h0,⟨a1,a2⟩,a3,a4⟩:=X5 h;rw[e];have hlp:=ga.2 h0
  have hhd:l.headD (0,0,())=l[0]:=by
   cases l with
   |nil=>exact absurd rfl h0
   |cons a t=>rfl
  rw[hhd,iZ h];generalize (kQ l).1=m at *;generalize (kQ l).2.1=c at *;have q1:0<=c / m:=fJ a3 (by omega);have q2:c / m<=2147483647:=Int.ediv_le_of_le_mul (by omega) (by rw[iE];exact a4);have hI:cu (c / m):=by unfold cu;omega
  rw[ai (Yy a3 (by unfold eN;omega) (by omega) (by unfold cu;omega) (by omega)),ai (JU (vk hI))];have ef:cZ (c / m)=(c / m,0,()):=by unfold cZ;rw[ah hI]
  rw[ef];refine bw λk5 DX=>?_
  show aj.aI l ((0:Nat):Int) _=_;rw[bO hlp];refine du (λhn=>?_) λhn=>?_
  .rw[ah hn,show IntKind.i64.wrap (0-m) = -m by rw[bI _ (by omega)];omega];subst DX;rfl
  .rw[ag hn];subst DX;rfl
 .have e:Li l=(0,0,0,(kQ l).2.2):=ag h;rw[e,aQ (by simpa using h)]
def aiV(mult:Int)(l:List ar):Int×Int×Unit:=if(Li l).2.2.2=0 then(if mult<1\/65536<mult then(0,2,())else cZ ((if(Li l).1<0 then -(Li l).2.2.1 else(Li l).2.2.1)*mult))else(0,(Li l).2.2.2,())
theorem atj{mult}{l}(hl:l.length<=1000):agx mult l=some (aiV mult l):=by
 show zf aj mult l=_;unfold zf aiV;rw[ai (X6 hl)];refine bw λk4 Vp=>?_
 by_cases h:(Li l).2.2.2=0
 .obtain⟨_,_,_,a5,a6⟩:=atG h;rw[ah h,iZ h];refine bw λk6 F8=>?_
  have k6t:k6 (true,())=some (0,2,()):=by subst F8;rfl
  have k6f:(1<=mult/\mult<=65536)->k6 (false,())=some (cZ ((if(Li l).1<0 then -(Li l).2.2.1 else(Li l).2.2.1)*mult)):=by
   intro hm;have kk:∀r,cu r->k4 (r,())=some (cZ (r*mult)):=by intro r hr;subst Vp;exact yu (Sq hr (by unfold cu;omega)) rfl
   subst F8;refine AP rfl ?_;refine du (λhn=>?_) λhn=>?_
   .rw[ah hn];dsimp only;rw[show IntKind.i64.wrap (0-(Li l).2.2.1) = -(Li l).2.2.1 by rw[bI _ (by omega)];omega];exact kk _ (by unfold cu;omega)
   .rw[ag hn];dsimp only;exact kk _ (by unfold cu;omega)
  refine du (λh1=>?_) λh1=>?_
  .rw[k6t,ah (.inl h1)]
  .by_cases h2:65536<mult
   .rw[aq h2,k6t,ah (.inr h2)]
   .rw[an h2,k6f (by omega),ag (show ¬(mult<1\/65536<mult)by omega)]
 .rw[ag h,fV h]
theorem axh{w}(h:FH w):∃v e,apO w=some (v,e)/\FH v:=by
 show ∃v e,EY aj w=_/\_;unfold EY;have hv:=aps w h;have hz:0<=km (wv w)/\km (wv w)<340282366920938463463374607431768211456:=by unfold eN at hv;unfold km;split<;>omega
 rw[ai (JQ w h),ai (yc w),ai (GS _ _ hz),ai (Um _ _)];by_cases h1:eN (if(!decide (w.1<0))=true then -km (wv w)else km (wv w))
 .rw[ah (aq h1)];exact⟨_,_,rfl,by dsimp only;rw[L9 _ h1];exact nL _ h1⟩
 .rw[ag (by simpa using h1)];exact⟨_,_,rfl,by unfold FH;decide⟩
theorem axi(z):FH (fit z).1:=by
 unfold fit;by_cases h:eN z
 .rw[ah h];exact nL _ h
 .rw[ag h];unfold FH;decide
theorem Pj(z):cu (cZ z).1:=by
 unfold cZ;by_cases h:cu z
 .rw[ah h];exact h
 .rw[ag h];unfold cu;decide
theorem adV{t}{k}{i}(h:pq t k=some i):i∈t:=bT h
theorem apP{i}{q k:Int}(hi:i.2.2.2.2.1.length<=1000)(hm:∀x∈i.2.2.2.2.1,cu x)(hq:cu q):∃v,UG i q k=some v/\FH v:=by
 show ∃v,zg aj i q k=_/\_;unfold zg;show ∃v,aj.aH _ _=_/\_;rw[xk];have z:FH ((0,0,()):bU):=by unfold FH;decide
 rw[ai (RY (by omega))];by_cases ho:Rw i
 .rw[ah ho,az (by rfl)];by_cases h1:k<0
  .rw[aQ (aq h1)];exact⟨_,rfl,z⟩
  .rw[az (an h1)];by_cases h2:(i.2.2.2.2.1.length:Int)<=k
   .rw[aq h2];exact⟨_,rfl,z⟩
   .rw[an h2];obtain⟨n,rfl⟩:=cS (show 0<=k by omega);have hn:n<i.2.2.2.2.1.length:=by omega
    show ∃v,aj.af false _ (aj.aI i.2.2.2.2.1 (n:Int) _)=_/\_;have hmul:cu i.2.1:=by have:=ho.2.1;unfold cu;omega
    rw[az rfl,bO hn,ai (Sq (hm _ (aG hn)) hmul),ai (Fp (Pj _) hq)];exact⟨_,rfl,nL _ (YB (Pj _) hq)⟩
 .rw[ag ho,aQ (by rfl)];exact⟨_,rfl,z⟩
structure OkT(t:List bF):Prop where
 l:t.length<=1000
 m:∀i∈t,i.2.2.2.2.1.length<=1000/\∀x∈i.2.2.2.2.1,cu x
theorem atk{t}{eT:List pW}{k:Int}(T:OkT t)(hl:eT.length<=1000)(ho:Vq eT):∃v e,X7 t eT k=some (v,e)/\FH v:=by
 show ∃v e,BX aj t eT k=_/\_;unfold BX;have z:FH ((0,0,()):bU):=by unfold FH;decide
 rw[ai (aiz (by omega))];by_cases hv:Fk eT=true
 .rw[hv,az (by rfl)];refine po (X:=Int×List bU×Unit) (β:=bU×Int×Unit) (λo=>∃v e,o=some (v,e)/\FH v) (λz=>eT.length+1-z.1.toNat) (λz=>∃(j:Nat) (acc:List bU),j<=eT.length/\acc.length=j/\(∀w∈acc,FH w)/\z=((j:Int),acc,())) ⟨0,[],bE _,rfl,by simp,rfl⟩ (by dsimp only;omega) ?_;rintro _ ⟨j,acc,hj,wX,XV,rfl⟩ again ha;show ∃v e,aj.af (decide ((j:Int)<(eT.length:Int))) (aj.aI eT (j:Int) _) (aj.ae (yC acc) _)=_/\_;by_cases h:j<eT.length
  .rw[dE h,bO h,ai (Yp (by have:=T.l;omega) λi hi=>by have:=(T.m i hi).1;omega)];cases hf:pq t eT[j].1 with
   |none=>exact⟨_,_,rfl,z⟩
   |some i=>
    obtain⟨m1,m2⟩:=T.m i (adV hf);obtain⟨v,e1,e2⟩:=apP (i:=i) (q:=eT[j].2.1) (k:=k) m1 m2 (ho _ (aG h));show ∃v e,aj.af false _ (aj.ae (UG i eT[j].2.1 k) _)=_/\_;rw[az rfl,ai e1];show ∃v' e,aj.bi (acc.length+1) 16 (again (IntKind.i64.wrap ((j:Int)+1),acc++[v],()))=_/\_;rw[dm (by omega) (by omega),cU j (by omega)];refine ha _ ⟨j+1,acc++[v],by omega,by rw[ap,wX];rfl,λw hw=>?_,rfl⟩ (by dsimp only;omega);rcases aT.1 hw with hw|hw
    .exact XV w hw
    .simp only[aC]at hw;subst hw;exact e2
  .rw[cY (by omega),ai (Su acc XV (by omega))];obtain⟨v,e,h1,h2⟩:=axh (axi (su acc));rw[ai h1];exact⟨_,_,rfl,h2⟩
 .have hv:Fk eT=false:=by simpa using hv
  rw[hv,aQ (by rfl)];exact⟨_,_,rfl,z⟩
theorem ald{t}{eT}(T:OkT t)(hl:eT.length<=1000)(ho:Vq eT):∃v e,adW t eT=some (v,e)/\(∀w∈v,FH w)/\v.length<=8:=by
 show ∃v e,wj aj t eT=_/\_;unfold wj;refine po (X:=Int×List bU×Unit) (β:=List bU×Int×Unit) (λo=>∃v e,o=some (v,e)/\(∀w∈v,FH w)/\v.length<=8) (λz=>8+1-z.1.toNat) (λz=>∃(j:Nat) (acc:List bU),j<=8/\acc.length=j/\(∀w∈acc,FH w)/\z=((j:Int),acc,())) ⟨0,[],bE _,rfl,by simp,rfl⟩ (by dsimp only;omega) ?_;rintro _ ⟨j,acc,hj,wX,XV,rfl⟩ again ha;show ∃v e,aj.af (decide ((j:Int)<8)) (aj.ae (X7 t eT (j:Int)) _) (some (acc,0,()))=_/\_;by_cases h:j<8
 .obtain⟨v,e,e1,e2⟩:=atk (k:=(j:Int)) T hl ho;rw[eR (by omega),ai e1];show ∃v' e',aj.af (e.1 != 0) _ (aj.bi (acc.length+1) 16 (again (IntKind.i64.wrap ((j:Int)+1),acc++[v],())))=_/\_;by_cases h0:e.1=0
  .rw[az (by simpa using h0),dm (by omega) (by omega),cU j (by omega)];refine ha _ ⟨j+1,acc++[v],by omega,by rw[ap,wX];rfl,λw hw=>?_,rfl⟩ (by dsimp only;omega);rcases aT.1 hw with hw|hw
   .exact XV w hw
   .simp only[aC]at hw;subst hw;exact e2
  .rw[aQ (by simpa using h0)];exact⟨_,_,rfl,by simp,by simp⟩
 .rw[cY (by omega)];exact⟨_,_,rfl,XV,by omega⟩
theorem atl(a b):∃n,adX a b=some n:=by
 show ∃n,EZ aj a b=_;unfold EZ
 have c2:∀x y:Int,∃n,aaa x y=some n:=λx y=>by
  show ∃n,tG aj x y=_;unfold tG;rw[ai (show UH x=some (x != x)from rfl),ai (show UH y=some (y != y)from rfl),az (by simp),az (by simp)];by_cases h:x<y
  .rw[aQ (aq h)];exact⟨_,rfl⟩
  .rw[az (an h)];by_cases h2:y<x
   .rw[aQ (aq h2)];exact⟨_,rfl⟩
   .rw[az (an h2)];exact⟨_,rfl⟩
 have c3:∀x y:Int,∃n,aab x y=some n:=λx y=>by
  show ∃n,tH aj x y=_;unfold tH;rw[ai (show UI x=some (x != x)from rfl),ai (show UI y=some (y != y)from rfl),az (by simp),az (by simp)];by_cases h:x<y
  .rw[aQ (aq h)];exact⟨_,rfl⟩
  .rw[az (an h)];by_cases h2:y<x
   .rw[aQ (aq h2)];exact⟨_,rfl⟩
   .rw[az (an h2)];exact⟨_,rfl⟩
 obtain⟨n,h1⟩:=c2 a.1 b.1;obtain⟨m,h2⟩:=c3 a.2.1 b.2.1;obtain⟨r,h3⟩:=az5 [n,m] (by simp);rw[ai h1,ai h2,ai h3];exact⟨_,rfl⟩
theorem apQ{l}(hl:l.length<=1000)(hw:∀w∈l,FH w):∃v e,UJ l=some (v,e)/\FH v:=by
 show ∃v e,zh aj l=_/\_;unfold zh;have z:FH ((0,0,()):bU):=by unfold FH;decide
 refine po (X:=Int×Int×Int×Int×Unit) (β:=bU×Int×Unit) (λo=>∃v e,o=some (v,e)/\FH v) (λz=>l.length+1-z.2.1.toNat) (λz=>∃(j:Nat) (a:Int) (w:bU),j<=l.length/\FH w/\z=(a,(j:Int),w)) ⟨0,-1,(0,0,()),bE _,z,rfl⟩ (by dsimp only;omega) ?_;rintro _ ⟨j,a,w,hj,oM,rfl⟩ again ha;show ∃v e,aj.af (decide ((j:Int)<(l.length:Int))) _ (some (w,a,()))=_/\_;by_cases h:j<l.length
 .rw[dE h,xk];show ∃v e,aj.aI l (j:Int) _=_/\_;rw[bO h];obtain⟨n,hn⟩:=atl l[j] w;show ∃v e,aj.ae (adX l[j] w) _=_/\_;rw[ai hn];have st:∀b w',FH w'->∃v e,again (b,IntKind.i64.wrap ((j:Int)+1),w')=some (v,e)/\FH v:=by intro b w' hw';rw[cU j (by omega)];exact ha _ ⟨j+1,b,w',by omega,hw',rfl⟩ (by dsimp only;omega)
  by_cases h1:0<n
  .rw[aQ (aq h1)];exact st _ _ (hw _ (aG h))
  .rw[az (an h1)];exact st _ _ oM
 .rw[cY (by omega)];exact⟨_,_,rfl,oM⟩
theorem ale{t}{eT}(T:OkT t)(hl:eT.length<=1000)(ho:Vq eT):∃v e,Qo t eT=some (v,e)/\cu v:=by
 show ∃v e,wk aj t eT=_/\_;unfold wk;obtain⟨v,e,h1,h2,h3⟩:=ald T hl ho;rw[ai h1];by_cases h0:e.1=0
 .show ∃v' e',aj.af (e.1 != 0) _ (aj.ae (UJ v) _)=_/\_;obtain⟨w,e2,g1,g2⟩:=apQ (l:=v) (by omega) h2;rw[iZ h0,ai g1]
  have hw:M5 w=some (cZ (wv w)):=by
   have:=JU (aps w g2)
   rwa [asP w g2]at this
  rw[ai hw];exact⟨_,_,rfl,Pj _⟩
 .show ∃v' e',aj.af (e.1 != 0) _ _=_/\_;rw[aQ (by simpa using h0)];exact⟨_,_,rfl,by unfold cu;decide⟩
theorem apR{f}(h:∀k∈ks,cu (f k)):Vq (Ua f):=by intro x hx;unfold Ua at hx;obtain⟨k,hk,rfl⟩:=aN.1 hx;exact h k (aM.1 hk).1
theorem apS{l}{u}(hl:l.length<=1000000):nK l u=some (decide (0<=zX (λx=>decide (u=x)) l)):=by show cT aj l u=_;unfold cT;rw[ai (at4 hl)]
theorem UK{a}(h:a.2.2.2.1.length<=1000):∃l,agy a=some l/\l.length<=1000:=by
 show ∃l,rV aj a=_/\_;unfold rV;by_cases hk:a.2.2.1=2
 .rw[aQ (by simpa using hk),ai (show UL a=some (a.1,0,())from rfl)];exact⟨_,rfl,by simp⟩
 .rw[az (by simpa using hk),ai (show xK a=some (bY a)from yr h)];exact⟨_,rfl,Fm h⟩
theorem adY{a}{u}(h:a.2.2.2.1.length<=1000):∃l,UM a u=some l/\l.length<=1000:=by
 show ∃l,uK aj a u=_/\_;unfold uK;obtain⟨l,h1,h2⟩:=UK h;rw[ai h1,ai (apS (by omega))];cases decide (0<=zX (λx=>decide (u=x)) l)with
 |false=>exact⟨_,rfl,by simp⟩
 |true=>
  rw[az (show(!true)=false from rfl)];by_cases hk:a.2.2.1=2
  .rw[aQ (by simpa using hk),ai (show xK a=some (bY a)from yr h)];exact⟨_,rfl,Fm h⟩
  .rw[az (by simpa using hk)];exact⟨_,rfl,by simp⟩
theorem axj{l}{us}(hb:okB l)(hu:us.length<=1000):∃v e,apT l us=some (v,e)/\(e.1=0->Vq v/\v.length<=8):=by
 show ∃v e,E1 aj l us=_/\_;unfold E1;rw[ai (GL hb)];by_cases hB:tn l=true
 .rw[hB,az (by rfl)];refine po (X:=Int×List (List ar)×Unit) (β:=List ar×Int×Unit) (λo=>∃v e,o=some (v,e)/\(e.1=0->Vq v/\v.length<=8)) (λz=>us.length+1-z.1.toNat) (λz=>∃(j:Nat) (acc:List (List ar)),j<=us.length/\acc.length=j/\(∀w∈acc,Vq w/\w.length<=1000)/\z=((j:Int),acc,())) ⟨0,[],bE _,rfl,by simp,rfl⟩ (by dsimp only;omega) ?_;rintro _ ⟨j,acc,hj,wX,XV,rfl⟩ again ha;show ∃v e,aj.af (decide ((j:Int)<(us.length:Int))) (aj.aI us (j:Int) _) (aj.ae (ai0 acc) _)=_/\_;by_cases h:j<us.length
  .rw[dE h,bO h,ai (Se hb)];obtain⟨o1,o2⟩:=N4 hb us[j];show ∃v e,aj.bi (acc.length+1) 24 (again (IntKind.i64.wrap ((j:Int)+1),acc++[qB l us[j]],()))=_/\_;rw[dm (by omega) (by omega),cU j (by omega)];refine ha _ ⟨j+1,_,by omega,by rw[ap,wX];rfl,λw hw=>?_,rfl⟩ (by dsimp only;omega);rcases aT.1 hw with hw|hw
   .exact XV w hw
   .simp only[aC]at hw;subst hw;exact⟨o1,by omega⟩
  .rw[cY (by omega),ai (afJ (by omega) (λv hv=>(XV v hv).2) λv hv=>(XV v hv).1)];refine⟨(wM acc).1,(wM acc).2,rfl,λhe=>?_⟩;obtain⟨_,h2,h3,_⟩:=RK (l:=acc) he;rw[h2];exact⟨apR h3,Ub _⟩
 .have hB:tn l=false:=by simpa using hB
  rw[hB,aQ (by rfl)];exact⟨_,_,rfl,λh=>absurd h (by decide)⟩
theorem aiW{t}{l}{a}{u}(T:OkT t)(hb:okB l)(h:a.2.2.2.1.length<=1000):∃v e,aiX t l a u=some (v,e)/\cu v:=by
 show ∃v e,E3 aj t l a u=_/\_;unfold E3;have z:cu 0:=by unfold cu;decide
 rw[ai (GL hb)];cases tn l with
 |false=>exact⟨_,_,rfl,z⟩
 |true=>
  rw[az (show(!true)=false from rfl)];obtain⟨us,h1,h2⟩:=UK h;rw[ai h1,ai (apS (by omega))];cases decide (0<=zX (λx=>decide (u=x)) us)with
  |false=>exact⟨_,_,rfl,z⟩
  |true=>
   rw[az (show(!true)=false from rfl)];obtain⟨ps,h3,h4⟩:=adY (u:=u) h;rw[ai h3];obtain⟨v,e,h5,h6⟩:=axj hb h4;rw[ai h5];show ∃v' e',aj.af (e.1 != 0) (some (0,e)) (aj.ae (Qo t v) _)=_/\_;by_cases h0:e.1=0
   .obtain⟨g1,g2⟩:=h6 h0;obtain⟨m,e2,g3,g4⟩:=ale T (show v.length<=1000 by omega) g1;rw[iZ h0,ai g3];exact⟨_,_,rfl,g4⟩
   .rw[fV h0];exact⟨_,_,rfl,z⟩
theorem apU{t w s}(ht:0<=t)(hw:0<=w)(cH:cu t)(hws:w<=s)(hs:0<s)(hI:cu s):Ie t w s=some (t*w / s,t*w % s,0,()):=by
 show rF aj t w s=_;unfold rF;have hI':=hI;unfold cu at hI' cH;have a1:=jc ht hw;have a2:t*w<=9223372036854775807*9223372036854775807:=wB (by omega) (by omega) hw (by omega);have hq:t*w / s<=t:=by have:t*w / s<t+1:=iX hs (by have:=gy hws ht;rw[oC];omega);omega
 have hq0:=fJ a1 (hZ hs);have e1:=Fp (a:=t) (b:=w) (by unfold cu;omega) (by unfold cu;omega);have e2:=Yy (m:=t*w) (d:=s) a1 (by unfold eN;omega) hs hI (by omega);rw[ai e1,ai e2];have hz:cu (t*w / s):=by unfold cu;omega
 have e3:JR (wide (t*w / s)) 0=some (t*w / s,0,()):=by rw[D9 (vk hz),jx hz]
 rw[ai e3,az (by rfl)]
theorem apV{a}{q:Int}(ha:qf a)(hq:cu q):∃v e,adZ a q=some (v,e)/\cu v:=by
 show ∃v e,wm aj a q=_/\_;unfold wm;have z:cu 0:=by unfold cu;decide
 rw[ai (Oe ha hq),xk,ai (Od ha),aQ (by rfl)];obtain⟨_,⟨p1,p2⟩,h1,h2⟩:=ha;by_cases hn:q<0
 .rw[aq hn];exact⟨_,_,rfl,z⟩
 .rw[an hn];show ∃v e,aj.af false _ (aj.af ((cZ (q*cI a)).2.1 != 0) _ (aj.ae (Ie (cZ (q*cI a)).1 (IntKind.i64.wrap (10000-a.2.2.1)) 10000) _))=_/\_;rw[az rfl];by_cases h0:(cZ (q*cI a)).2.1=0
  .obtain⟨e1,e2⟩:=XL h0;have hnn:0<=q*cI a:=jc (by omega) p1;rw[iZ h0,e1,bI (10000-a.2.2.1) (by omega),ai (apU hnn (by omega) e2 (by omega) (by omega) (by unfold cu;decide))];refine⟨_,_,rfl,?_⟩;have q1:0<=q*cI a*(10000-a.2.2.1) / 10000:=fJ (jc hnn (by omega)) (by omega);have q2:q*cI a*(10000-a.2.2.1) / 10000<q*cI a+1:=iX (by omega) (by have:=gy (show 10000-a.2.2.1<=10000 by omega) hnn;rw[oC];omega);unfold cu at e2 ⊢;dsimp only;omega
  .rw[fV h0];exact⟨_,_,rfl,z⟩
theorem X8:∀{l:List gT} {k:Int},(iw l k).2.1=true->(iw l k).1∈l
 |[],_,h=>by unfold iw at h;exact absurd h (by decide)
 |a::l,k,h=>by
  unfold iw at h ⊢;by_cases e:a.1=k
  .rw[ah e];exact eH
  .rw[ag e]at h ⊢;exact cP _ (X8 h)
theorem alf{as_ l}(hA:∀a∈as_,qf a)(hl:as_.length<=1000)(hq:uS l):∃v e,DC as_ l=some ((v,e),())/\(∀x∈v,cu x)/\v.length<=20:=by
 show ∃v e,iP aj as_ l=_/\_;unfold iP;have h20:=hq.1;rw[ai (Sr (by omega))];cases Ob l with
 |false=>exact⟨_,_,rfl,by simp,by simp⟩
 |true=>
  rw[az (show(!true)=false from rfl)];refine po (X:=Int×List Int×Unit) (β:=(List Int×Int×Unit)×Unit) (λo=>∃v e,o=some ((v,e),())/\(∀x∈v,cu x)/\v.length<=20) (λz=>l.length+1-z.1.toNat) (λz=>∃(j:Nat) (acc:List Int),j<=l.length/\acc.length=j/\(∀x∈acc,cu x)/\z=((j:Int),acc,())) ⟨0,[],bE _,rfl,by simp,rfl⟩ (by dsimp only;omega) ?_;rintro _ ⟨j,acc,hj,wX,XV,rfl⟩ again ha;show ∃v e,aj.af (decide ((j:Int)<(l.length:Int))) (aj.aI l (j:Int) _) (some ((acc,0,()),()))=_/\_;by_cases h:j<l.length
  .rw[dE h,bO h,ai (Mb hl)];cases hf:(iw as_ l[j].1).2.1 with
   |false=>exact⟨_,_,rfl,by simp,by simp⟩
   |true=>
    obtain⟨v,e,h1,h2⟩:=apV (hA _ (X8 hf)) (hq.2 _ (aG h));rw[az (show(!true)=false from rfl),ai h1];show ∃v' e',aj.af (e.1 != 0) _ (aj.bi (acc.length+1) 8 (again (IntKind.i64.wrap ((j:Int)+1),acc++[v],())))=_/\_;by_cases h0:e.1=0
    .rw[az (by simpa using h0),dm (by omega) (by omega),cU j (by omega)];refine ha _ ⟨j+1,_,by omega,by rw[ap,wX];rfl,λw hw=>?_,rfl⟩ (by dsimp only;omega);rcases aT.1 hw with hw|hw
     .exact XV w hw
     .simp only[aC]at hw;subst hw;exact h2
    .rw[aQ (by simpa using h0)];exact⟨_,_,rfl,by simp,by simp⟩
  .rw[cY (by omega)];exact⟨_,_,rfl,XV,by omega⟩
theorem apW{as_ l}{c:Int}(hA:∀a∈as_,qf a)(hl:as_.length<=1000)(hq:uS l)(hc:cu c):∃v e,aea as_ l c=some (v,e)/\cu v:=by
 show ∃v e,wo aj as_ l c=_/\_;unfold wo;obtain⟨v,e,h1,h2,h3⟩:=alf hA hl hq;rw[ai h1];show ∃v' e',aj.af (e.1 != 0) (some (0,e)) (aj.bi (v.length+1) 8 (aj.ae (Ih (v++[c])) _))=_/\_;by_cases h0:e.1=0
 .rw[az (by simpa using h0),dm (by omega) (by omega),ai (tZ (l:=v++[c]) (λx hx=>by
   rcases aT.1 hx with hx|hx
   .exact h2 x hx
   .simp only[aC]at hx;subst hx;exact hc) (by rw[ap];simp;omega))]
  exact⟨_,_,rfl,Pj _⟩
 .rw[aQ (by simpa using h0)];exact⟨_,_,rfl,by unfold cu;decide⟩
structure G1(s:BY):Prop where
 a:∀a∈s.1,qf a
 al:s.1.length<=1000
 t:OkT s.2.1
 b:okB s.2.2.1
 f:u7 s.2.2.2.1
 fl:s.2.2.2.1.length<=1000
 h:lc s.2.2.2.2.1
theorem alg{s}(O:G1 s):∃b,Pk s=some b:=by
 show ∃b,nW aj s=_;unfold nW;rw[ai (GL O.b)];cases tn s.2.2.1 with
 |false=>exact⟨_,rfl⟩
 |true=>
  rw[aQ rfl,ai (aaT (by have:=O.fl;omega))];cases ya s.2.2.2.1 with
  |false=>exact⟨_,rfl⟩
  |true=>rw[aQ rfl,ai (JX O.h)];exact⟨_,rfl⟩
theorem Ox{s}{a}{u}(O:G1 s)(h:a.2.2.2.1.length<=1000):∃v e,Fw s a u=some (v,e)/\cu v:=by
 show ∃v e,mc aj s a u=_/\_;unfold mc;have z:cu 0:=by unfold cu;decide
 obtain⟨b,hb⟩:=alg O;rw[ai hb];cases b with
 |false=>exact⟨_,_,rfl,z⟩
 |true=>
  rw[az (show(!true)=false from rfl)];obtain⟨n,e,h1,h2⟩:=aiW (u:=u) O.t O.b h;rw[ai h1];show ∃v e',aj.af (e.1 != 0) (some (0,e)) (aj.ae (UM a u) _)=_/\_;by_cases h0:e.1=0
  .rw[az (by simpa using h0)];obtain⟨ps,h3,h4⟩:=adY (u:=u) h;rw[ai h3];refine po (X:=Int×List Int×List ar×Unit) (β:=Int×Int×Unit) (λo=>∃v e,o=some (v,e)/\cu v) (λz=>ps.length+1-z.1.toNat) (λz=>∃(j:Nat) (acc:List Int),j<=ps.length/\acc.length=j+1/\(∀x∈acc,cu x)/\z=((j:Int),acc,ps,())) ⟨0,[IntKind.i64.wrap (0-n)],bE _,rfl,λx hx=>by simp only[aC]at hx;subst hx;have:=dW (0-n);unfold cu;rw[this];omega,rfl⟩ (by dsimp only;omega) ?_;rintro _ ⟨j,acc,hj,wX,XV,rfl⟩ again ha;show ∃v e,aj.af (decide ((j:Int)<(ps.length:Int))) (aj.aI ps (j:Int) λ_=>aj.cr ps (Int.toNat (j:Int)) _) (aj.ae (Ih acc) _)=_/\_;by_cases hlt:j<ps.length
   .rw[dE hlt,bO hlt,iR hlt,ai (Ac O.h),ai (Jq (by have:=O.fl;omega))];obtain⟨v,e5,h5,h6⟩:=apW (c:=ig s.2.2.2.1 ps[j]) O.a O.al (qF O.h.1 ps[j]) (IN O.f _);rw[ai h5];show ∃v' e',aj.af (e5.1 != 0) (some (0,e5)) (aj.bi (acc.length+1) 8 (again (IntKind.i64.wrap ((j:Int)+1),acc++[v],ps,())))=_/\_;by_cases h7:e5.1=0
    .rw[az (by simpa using h7),dm (by omega) (by omega),cU j (by omega)];refine ha _ ⟨j+1,_,by omega,by rw[ap,wX];rfl,λw hw=>?_,rfl⟩ (by dsimp only;omega);rcases aT.1 hw with hw|hw
     .exact XV w hw
     .simp only[aC]at hw;subst hw;exact h6
    .rw[aQ (by simpa using h7)];exact⟨_,_,rfl,z⟩
   .rw[cY (by omega),ai (tZ XV (by omega))];exact⟨_,_,rfl,Pj _⟩
  .rw[aQ (by simpa using h0)];exact⟨_,_,rfl,z⟩
theorem apX {s} {l} (O : G1 s) (h : ∀ a ∈ l, a.2.2.2.1.length <= 1000) (hl : l.length <= 1000) : ∃ v e, Qp s l = some (v, e) /\ v.length <= 1000 * l.length /\ u7 v := by
  show ∃ v e, sG aj s l = _ /\ _
  unfold sG
  refine po (X := Int × List aR × Unit) (β := List aR × Int × Unit) (λo => ∃ v e, o = some (v, e) /\ v.length <= 1000 * l.length /\ u7 v) (λz => l.length + 1 - z.1.toNat) (λz => ∃ (j : Nat) (acc : List aR), j <= l.length /\ acc.length <= 1000 * j /\ u7 acc /\ z = ((j : Int), (acc, ()))) ⟨0, [], bE _, by simp, (λx hx => by cases hx), rfl⟩ (by dsimp only; omega) ?_
  rintro _ ⟨j, acc, hj, wX, XV, rfl⟩ again ha
  show ∃ v e, aj.af (decide ((j : Int) < (l.length : Int))) (aj.aI l (j : Int) _) (some (acc, (0, ()))) = _ /\ _
  by_cases hlt : j < l.length
  · rw [dE hlt, bO hlt]
    have hm := h _ (aG hlt)
    obtain ⟨us, h1, h2⟩ := UK hm
    rw [ai h1]
    refine po (X := Int × List aR × List ar × Unit) (β := List aR × Int × Unit) (λo => ∃ v e, o = some (v, e) /\ v.length <= 1000 * l.length /\ u7 v) (λz => us.length + 1 - z.1.toNat) (λz => ∃ (k : Nat) (a2 : List aR), k <= us.length /\ a2.length <= 1000 * j + k /\ u7 a2 /\ z = ((k : Int), (a2, (us, ())))) ⟨0, acc, bE _, by omega, XV, rfl⟩ (by dsimp only; omega) ?_
    rintro _ ⟨k, a2, hk, hkl, hka, rfl⟩ bp ha2
    show ∃ v e, aj.af (decide ((k : Int) < (us.length : Int))) _ (again (IntKind.i64.wrap ((j : Int) + 1), (a2, ()))) = _ /\ _
    by_cases hkt : k < us.length
    · rw [dE hkt, xk]
      show ∃ v e, aj.aI us (k : Int) (λ_ => aj.cr us (Int.toNat (k : Int)) _) = _ /\ _
      rw [bO hkt, iR hkt]
      obtain ⟨n, e, h3, h4⟩ := Ox (u := us[k]) O hm
      rw [ai h3]
      have st : ∀ a3 : List aR, a3.length <= 1000 * j + (k + 1) -> u7 a3 -> ∃ v e, bp (IntKind.i64.wrap ((k : Int) + 1), (a3, (us, ()))) = some (v, e) /\ v.length <= 1000 * l.length /\ u7 v := by
        intro a3 g1 g2
        rw [cU k (by omega)]
        exact ha2 _ ⟨k + 1, a3, by omega, g1, g2, rfl⟩ (by dsimp only; omega)
      show ∃ v e', aj.af (e.1 != 0) (some ([], e)) (aj.af (decide (n < 0)) (aj.bi (a2.length + 1) 24 (bp (IntKind.i64.wrap ((k : Int) + 1), (a2 ++ [(us[k], (n, ()))], (us, ()))))) (bp (IntKind.i64.wrap ((k : Int) + 1), (a2, (us, ()))))) = _ /\ _
      by_cases h0 : e.1 = 0
      · rw [az (by simpa using h0)]
        by_cases hn : n < 0
        · rw [aQ (aq hn), dm (by omega) (by omega)]
          refine st _ (by rw [ap]; simp; omega) λx hx => ?_
          rcases aT.1 hx with hx | hx
          · exact hka x hx
          · simp only [aC] at hx; subst hx; exact h4
        · rw [az (an hn)]; exact st _ (by omega) hka
      · rw [aQ (by simpa using h0)]; exact ⟨_, _, rfl, by simp, (λx hx => by cases hx)⟩
    · rw [az (an (by omega)), cU j (by omega)]
      exact ha _ ⟨j + 1, a2, by omega, by omega, hka, rfl⟩ (by show _ - ((j + 1 : Nat) : Int).toNat < _ - ((j : Nat) : Int).toNat; omega)
  · rw [az (an (by omega))]
    exact ⟨_, _, rfl, by have : j = l.length := by omega
                         subst this; exact wX, XV⟩
theorem amL{a}{u}(h:a.2.2.2.1.length<=1000):∃v e,alh a u=some (v,e):=by
 show ∃v e,BZ aj a u=_;unfold BZ;rw[ai (R9 h)];cases AN a u with
 |false=>exact⟨_,_,rfl⟩
 |true=>
  rw[az (show(!true)=false from rfl)];by_cases hk:a.2.2.1=2
  .rw[aQ (by simpa using hk),ai (show UL a=some (a.1,0,())from rfl)];exact⟨_,_,rfl⟩
  .rw[az (by simpa using hk)];exact⟨_,_,rfl⟩
abbrev gw(d:aK):Int:=d.1
abbrev fi(d:aK):List aW:=d.2.1
abbrev fN(d:aK):List bF:=d.2.2.1
abbrev ji(d:aK):List bf:=d.2.2.2.1
abbrev bR(d:aK):List aD:=d.2.2.2.2.1
abbrev jS(d:aK):List bz:=d.2.2.2.2.2.1
abbrev dY(d:aK):List bP:=d.2.2.2.2.2.2.1
abbrev cx(d:aK):List bZ:=d.2.2.2.2.2.2.2.1
abbrev dv(d:aK):List bC:=d.2.2.2.2.2.2.2.2.1
abbrev fW(d:aK):List bC:=d.2.2.2.2.2.2.2.2.2.1
abbrev gu(d:aK):List aR:=d.2.2.2.2.2.2.2.2.2.2.1
abbrev fo(d:aK):List bg:=d.2.2.2.2.2.2.2.2.2.2.2.1
abbrev bS(d:aK):Int:=d.2.2.2.2.2.2.2.2.2.2.2.2.1
abbrev Bj(d:aK):Int:=d.2.2.2.2.2.2.2.2.2.2.2.2.2.1
abbrev AZ(d:aK):Int:=d.2.2.2.2.2.2.2.2.2.2.2.2.2.2.1
abbrev wW(d:aK):Int:=d.2.2.2.2.2.2.2.2.2.2.2.2.2.2.2.1
abbrev uu(d:aK):Int:=d.2.2.2.2.2.2.2.2.2.2.2.2.2.2.2.2.1
abbrev azC(d:aK):Int:=d.2.2.2.2.2.2.2.2.2.2.2.2.2.2.2.2.2.1
abbrev azD(d:aK):Int:=d.2.2.2.2.2.2.2.2.2.2.2.2.2.2.2.2.2.2.1
abbrev jy(d:aK):Int:=d.2.2.2.2.2.2.2.2.2.2.2.2.2.2.2.2.2.2.2.1
abbrev nN(d:aK):Int:=d.2.2.2.2.2.2.2.2.2.2.2.2.2.2.2.2.2.2.2.2.1
abbrev Lj(d:aK):Int:=d.2.2.2.2.2.2.2.2.2.2.2.2.2.2.2.2.2.2.2.2.2.1
abbrev xu(d:aK):Int:=d.2.2.2.2.2.2.2.2.2.2.2.2.2.2.2.2.2.2.2.2.2.2.1
abbrev dR(d:aK):Int:=d.2.2.2.2.2.2.2.2.2.2.2.2.2.2.2.2.2.2.2.2.2.2.2.1
abbrev lR(d:aK):Int:=d.2.2.2.2.2.2.2.2.2.2.2.2.2.2.2.2.2.2.2.2.2.2.2.2.1
abbrev ua(d:aK):List Int:=d.2.2.2.2.2.2.2.2.2.2.2.2.2.2.2.2.2.2.2.2.2.2.2.2.2.1
abbrev auI(d:aK):List fR:=d.2.2.2.2.2.2.2.2.2.2.2.2.2.2.2.2.2.2.2.2.2.2.2.2.2.2.2.2.1
abbrev auJ(d:aK):List fS:=d.2.2.2.2.2.2.2.2.2.2.2.2.2.2.2.2.2.2.2.2.2.2.2.2.2.2.2.2.2.1
abbrev aZ(d:aK):ar:=(wW d,uu d,())
abbrev cN(d:aK):ar:=(azC d,azD d,())
abbrev cK(d:aK):aV:=yb d ()
def Iu(d:aK):Int:=if Bj d=0 then 0 else match mG (fi d) (Bj d)with|none=>14|some m=>if m.2.2.1=0 then 0 else 15
theorem ajY{d}(hl:(fi d).length<=1000000):Nk d=some (Iu d,d):=by
 show mS aj d=_;unfold mS Iu;refine dQ (λh=>?_) λh=>?_
 .rw[ah h]
 .rw[ag h,ja,ai (ur hl)];cases mG (fi d) (Bj d)with
  |none=>rfl
  |some m=>refine AP (show(!true)=false from rfl) ?_;rw[ai (Nf m)]
def DD(d:aK):bZ:=match CL (cx d) (xu d)with|some g=>g|none=>apC
theorem aeb{d}(hl:(cx d).length<=1000000):Pl d=some (DD d,d):=by show kR aj d=_;unfold kR DD;rw[ja,ai (Ux hl)];cases CL (cx d) (xu d)<;>rfl
def Pm(d:aK):bP:=match Ba (dY d) (xu d)with|some g=>g|none=>auH
theorem apY{d}(hl:(dY d).length<=1000000):Pn d=some (Pm d,d):=by show nX aj d=_;unfold nX Pm;rw[ja,ai (adM hl)];cases Ba (dY d) (xu d)<;>rfl
theorem IT{d}{u}(h:rC (bR d)):Rj d u=some (ud (bR d) u==Bj d,d):=by show gK aj d u=_;unfold gK;rw[ai (R0 h)]
def Bi(d:aK)(id:Int):Bool:=match gP (bR d) id with|some a=>a.2.1==Bj d|none=>false
theorem agz{d}{id:Int}(h:rC (bR d))(hs:Yo (bR d)):Ll d id=some (Bi d id,d):=by show lG aj d id=_;unfold lG Bi;rw[ai (H' h hs)];cases gP (bR d) id<;>rfl
def Vr(d:aK)(u:ar):Int:=if ud (bR d) u=0 then 11 else 0
theorem Xb{d}{u}(h:rC (bR d)):DE d u=some (Vr d u,d):=by
 show jD aj d u=_;unfold jD Vr;rw[ai (R0 h)];refine dQ (λh0=>?_) λh0=>?_
 .rw[ah h0]
 .rw[ag h0]
def Ej(d:aK)(u:ar):aW:=match mG (fi d) (ud (bR d) u)with|some m=>m|none=>CE
theorem Nl{d}{u}(h:rC (bR d))(hl:(fi d).length<=1000000):E4 d u=some (Ej d u,d):=by
 show iS aj d u=_;unfold iS Ej;have e:(aj.ae (nV aj (bR d) u) λv4=>aj.ae (iz aj (fi d) v4) λv5=>some (v5.1,d))=some ((match mG (fi d) (ud (bR d) u)with|some m=>m|none=>CE),d):=by rw[ai (R0 h),ai (ur hl)];cases mG (fi d) (ud (bR d) u)<;>rfl
 refine jV ?_ e;rw[ai (R0 h),ja,ai (ur hl)];cases mG (fi d) (ud (bR d) u)<;>rfl
def pY(d:aK):List ar->Int
 |[]=>0
 |u::l=>if Vr d u=0 then(if(Ej d u).2.2.1=0 then pY d l else 15)else Vr d u
theorem CM{d}{l}(h:rC (bR d))(hl:(fi d).length<=1000000)(hn:l.length<=1000):tP d l=some (pY d l,d):=by
 show fF aj d l=_;unfold fF;refine ib (l:=l) (S:=aK) (by omega) (λ_ z=>z=d) (λt _=>some (pY d t,d)) rfl ?_ ?_
 .rintro _ again rfl;refine IZ ?_;rfl
 .intro i hi z hz again ha;have Wz:=hz.symm;subst Wz;refine Jp hi ?_;rw[bO hi];refine yu (Xb h) ?_;show aj.af (Vr d l[i] != 0) (some (Vr d l[i],d)) (aj.ae (E4 d l[i]) λv5=>aj.ae (qe v5.1) λv6=>aj.af (v6 != 0) (some (v6,v5.2)) (again (IntKind.i64.wrap ((i:Int)+1),v5.2)))=some ((if Vr d l[i]=0 then(if(Ej d l[i]).2.2.1=0 then pY d (l.drop (i+1))else 15)else Vr d l[i]),d);refine iY (λh0=>?_) λh0=>?_
  .rw[ah h0,ai (Nl h hl),ai (Nf _)];by_cases h1:(Ej d l[i]).2.2.1=0
   .rw[ah h1,ah h1,az (by rfl),cU i (by omega)];exact ha d rfl
   .rw[ag h1,ag h1,aQ (by rfl)]
  .rw[ag h0]
def lz(d:aK):aW×Int×Unit:=match mG (fi d) (AZ d)with|some m=>(m,0,())|none=>(CE,11,())
theorem AF{d}(hl:(fi d).length<=1000000):CX d=some (lz d,d):=by show fO aj d=_;unfold fO lz;rw[ja,ai (ur hl)];cases mG (fi d) (AZ d)<;>rfl
def s6(d:aK)(id:Int):bF×Int×Unit:=match pq (fN d) id with|some m=>(m,0,())|none=>(al1,11,())
theorem R4{d}{id}(h:VE (fN d)):Rk d id=some (s6 d id,d):=by show jq aj d id=_;unfold jq s6;have h2:=h.2;rw[ai (Yp (cp h2 (by decide)) λi hi=>by have:=h.1 i hi;omega)];cases pq (fN d) id<;>rfl
def Ah(d:aK)(u:ar):Bool:=ud (bR d) u==Bj d
def Mu(d:aK):Bool:=if bS d=5\/bS d=28\/bS d=29 then Bi d (wW d)else if bS d=7 then(Ah d (cN d)||Ah d (aZ d))else if bS d=8\/bS d=12\/bS d=17\/bS d=18\/bS d=19\/bS d=26\/bS d=27 then Ah d (aZ d)else if bS d=9\/bS d=10 then Ah d (DD d).2.2.1 else if bS d=11 then Ah d (DD d).2.1 else if bS d=13 then Ah d (Pm d).2.1 else if bS d=20 then Ah d (cN d)else if bS d=31 then AZ d==Bj d else false
theorem atm{d}(h:rC (bR d))(hs:Yo (bR d))(hg:(cx d).length<=1000000)(hb:(dY d).length<=1000000):Rl d=some (Mu d,d):=by
 show pH aj d=_;unfold pH;refine bw λk4 Vp=>?_
 have K4:k4 ()=some (Ah d (DD d).2.2.1,d):=by subst Vp;refine yu (aeb hg) ?_;rw[ai (IT h)];rfl
 refine bw λk7 I0=>?_
 have K7:k7 d=some (Ah d (aZ d),d):=by subst I0;refine yu (IT h) ?_;rfl
 refine bw λva OA=>?_
 have K10:va ()=some (Bi d (wW d),d):=by subst OA;exact yu (agz h hs) rfl
 refine bw λXd arq=>?_
 have K22:¬(bS d=5\/bS d=28\/bS d=29)->Xd ()=some (Mu d,d):=by
  intro n1;unfold Mu;rw[ag n1];subst arq;refine dQ (λh7=>?_) λh7=>?_
  .rw[ah h7,ai (IT h)];show aj.af (Ah d (cN d)) (some (true,d)) (k7 d)=_;cases Ah d (cN d)with
   |true=>rfl
   |false=>rw[az rfl,K7];rfl
  .rw[ag h7];refine bw λk21 a0X=>?_
   have K21:¬(bS d=8\/bS d=12\/bS d=17\/bS d=18\/bS d=19\/bS d=26\/bS d=27)->k21 ()=some ((if bS d=9\/bS d=10 then Ah d (DD d).2.2.1 else if bS d=11 then Ah d (DD d).2.1 else if bS d=13 then Ah d (Pm d).2.1 else if bS d=20 then Ah d (cN d)else if bS d=31 then AZ d==Bj d else false),d):=by
    intro n2;subst a0X;show aj.aH _ _=_;refine bw λk20 axk=>?_
    have K20:k20 ()=some ((if bS d=11 then Ah d (DD d).2.1 else if bS d=13 then Ah d (Pm d).2.1 else if bS d=20 then Ah d (cN d)else if bS d=31 then AZ d==Bj d else false),d):=by
     subst axk;refine dQ (λh1=>?_) λh1=>?_
     .rw[ah h1,ai (aeb hg),ai (IT h)];rfl
     .rw[ag h1];refine dQ (λh2=>?_) λh2=>?_
      .rw[ah h2,ai (apY hb),ai (IT h)];rfl
      .rw[ag h2];refine dQ (λh3=>?_) λh3=>?_
       .rw[ah h3,ai (IT h)];rfl
       .rw[ag h3];refine dQ (λh4=>?_) λh4=>?_
        .rw[ah h4]
        .rw[ag h4]
    refine dQ (λh1=>?_) λh1=>?_
    .rw[oO h1,ah (.inl h1),K4]
    .refine dQ (λh2=>?_) λh2=>?_
     .rw[ah (.inr h2),K4]
     .rw[K20,ag (show ¬(bS d=9\/bS d=10)from λq=>q.elim h1 h2)]
   generalize hR:(if bS d=9\/bS d=10 then Ah d (DD d).2.2.1 else if bS d=11 then Ah d (DD d).2.1 else if bS d=13 then Ah d (Pm d).2.1 else if bS d=20 then Ah d (cN d)else if bS d=31 then AZ d==Bj d else false)=R at K21 ⊢;show aj.af (bS d==8) (aj.af (bS d==8) (k7 d) (k21 ())) (aj.af (bS d==12) (aj.af (bS d==12) (k7 d) (k21 ())) (aj.af (bS d==17) (aj.af (bS d==17) (k7 d) (k21 ())) (aj.af (bS d==18) (aj.af (bS d==18) (k7 d) (k21 ())) (aj.af (bS d==19) (aj.af (bS d==19) (k7 d) (k21 ())) (aj.af (bS d==26) (aj.af (bS d==26) (k7 d) (k21 ())) (aj.af (bS d==27) (k7 d) (k21 ())))))))=_;by_cases n2:bS d=8\/bS d=12\/bS d=17\/bS d=18\/bS d=19\/bS d=26\/bS d=27
   .rw[ah n2,K7];rcases n2 with q|q|q|q|q|q|q<;>rw[q]<;>rfl
   .rw[ag n2,K21 n2];have e:∀n:Int,bS d≠n->(bS d==n)=false:=λn hn=>by simpa using hn
    rw[e 8 (λq=>n2 (.inl q)),e 12 (λq=>n2 (.inr (.inl q))),e 17 (λq=>n2 (.inr (.inr (.inl q)))),e 18 (λq=>n2 (.inr (.inr (.inr (.inl q))))),e 19 (λq=>n2 (.inr (.inr (.inr (.inr (.inl q)))))),e 26 (λq=>n2 (.inr (.inr (.inr (.inr (.inr (.inl q))))))),e 27 (λq=>n2 (.inr (.inr (.inr (.inr (.inr (.inr q)))))))];rfl
 show aj.af (bS d==5) (aj.af (bS d==5) (va ()) (Xd ())) (aj.af (bS d==28) (aj.af (bS d==28) (va ()) (Xd ())) (aj.af (bS d==29) (va ()) (Xd ())))=_;by_cases n1:bS d=5\/bS d=28\/bS d=29
 .have em:Mu d=Bi d (wW d):=by unfold Mu;rw[ah n1]
  rw[em,K10];rcases n1 with q|q|q<;>rw[q]<;>rfl
 .rw[K22 n1];have e:∀n:Int,bS d≠n->(bS d==n)=false:=λn hn=>by simpa using hn
  rw[e 5 (λq=>n1 (.inl q)),e 28 (λq=>n1 (.inr (.inl q))),e 29 (λq=>n1 (.inr (.inr q)))];rfl
def En(d:aK):Int:=if Bj d=0\/Mu d=true then 0 else 14
theorem aff{d}(h:rC (bR d))(hs:Yo (bR d))(hg:(cx d).length<=1000000)(hb:(dY d).length<=1000000):Lm d=some (En d,d):=by
 show lH aj d=_;unfold lH En;refine bw λk2 yd=>?_
 refine dQ (λh0=>?_) λh0=>?_
 .rw[ah (.inl h0)];subst yd;rfl
 .rw[ai (atm h hs hg hb)];cases hm:Mu d with
  |true=>rw[ah (.inr rfl)];subst yd;rfl
  |false=>rw[ag (show ¬(Bj d=0\/false=true)from λq=>q.elim h0 (by decide))];subst yd;rfl
def azE(d:aK)(b:List bC)(p:List aR):aK:=U8 d (b,fW d,p,d.2.2.2.2.2.2.2.2.2.2.2)
def On(d:aK)(f t x:ar)(p:Int):Int×aK:=if(s6 d x.1).2.1=0 then(if(atP (dv d,gu d,()) (s6 d x.1).1 f t x.2.1 p).2.1=0 then(0,azE d (atP (dv d,gu d,()) (s6 d x.1).1 f t x.2.1 p).1.1 (atP (dv d,gu d,()) (s6 d x.1).1 f t x.2.1 p).1.2.1)else((atP (dv d,gu d,()) (s6 d x.1).1 f t x.2.1 p).2.1,d))else((s6 d x.1).2.1,d)
structure amz(d:aK):Prop where
 i:VE (fN d)
 b:okB (dv d)
 bl:(dv d).length<=64
 p:u7 (gu d)
 pl:(gu d).length<=94
theorem apZ{d}{id}(h:VE (fN d)):(s6 d id).1.2.2.2.2.1.length<=1000:=by
 unfold s6;cases hf:pq (fN d) id with
 |none=>exact bE _
 |some i=>exact h.1 i (adV hf)
theorem auK{d}{f t x}{p:Int}(O:amz d)(hq:cu x.2.1):JA d f t x p=some (On d f t x p):=by
 show pI aj d f t x p=_;unfold pI On;rw[ai (R4 O.i)];show aj.af ((s6 d x.1).2.1 != 0) (some ((s6 d x.1).2.1,d)) (aj.two (aj.ae (ai4 (dv d,gu d,()) (s6 d x.1).1 f t x.2.1 p) _))=_;by_cases h:(s6 d x.1).2.1=0
 .have hl:=apZ (id:=x.1) O.i;rw[iZ h,ah h,ja,ai (a0S (d:=(dv d,gu d,())) ⟨⟨O.b,O.bl⟩,O.p,O.pl⟩ (by omega) hq)];refine bw λk4 Vp=>?_
  refine dQ (λh2=>?_) λh2=>?_
  .rw[ah h2];subst Vp;dsimp only;rw[h2];rfl
  .rw[ag h2];subst Vp;rfl
 .rw[fV h,ag h]
def aec(d:aK):List ar->Int
 |[]=>0
 |u::l=>if(uC (cK d) (Ej d u).1).2.1=0 then(if(Ej d u).2.1<(uC (cK d) (Ej d u).1).1 then 16 else aec d l)else(uC (cK d) (Ej d u).1).2.1
theorem ag0{d}{l}(h:rC (bR d))(wX:(bR d).length<=20)(hl:(fi d).length<=1000000)(hb:okB (dv d))(hn:l.length<=1000):HF d l=some (aec d l,d):=by
 show lk aj d l=_;unfold lk;refine ib (l:=l) (S:=aK) (by omega) (λ_ z=>z=d) (λt _=>some (aec d t,d)) rfl ?_ ?_
 .rintro _ again rfl;refine IZ ?_;rfl
 .intro i hi z hz again ha;have Wz:=hz.symm;subst Wz;refine Jp hi ?_;rw[bO hi];refine yu (Nl h hl) ?_;refine yu (afW (s:=cK d) h wX hb) ?_;show aj.af ((uC (cK d) (Ej d l[i]).1).2.1 != 0) (some ((uC (cK d) (Ej d l[i]).1).2.1,d)) (aj.af (decide ((Ej d l[i]).2.1<(uC (cK d) (Ej d l[i]).1).1)) (some (16,d)) (again (IntKind.i64.wrap ((i:Int)+1),d)))=some ((if(uC (cK d) (Ej d l[i]).1).2.1=0 then(if(Ej d l[i]).2.1<(uC (cK d) (Ej d l[i]).1).1 then 16 else aec d (l.drop (i+1)))else(uC (cK d) (Ej d l[i]).1).2.1),d);refine iY (λh0=>?_) λh0=>?_
  .rw[ah h0];refine du (λh1=>?_) λh1=>?_
   .rw[ah h1]
   .rw[ag h1,cU i (by omega)];exact ha d rfl
  .rw[ag h0]
structure Fu(d:aK):Prop extends amz d where
 a:rC (bR d)
 al:(bR d).length<=20
 as:Yo (bR d)
 m:(fi d).length<=1000
 ms:qU (·.1) (fi d)
 is:qU (·.1) (fN d)
 g:(dY d).length<=64
 gs:qU (·.1) (dY d)
 gi:∀x∈dY d,0<=x.1/\x.1<=1048576
 gl:∀x∈dY d,cu x.2.2.2.2.1
 v:(cx d).length<=64
 vs:qU (·.1) (cx d)
 vi:∀x∈cx d,0<=x.1/\x.1<=1048576
 vq:∀x∈cx d,cu x.2.2.2.1.2.1
 q:cu (dR d)
def WY(d:aK):Int×aK:=if pY d [aZ d,cN d]=0 then(if(s6 d (jy d)).2.1=0 then(if dR d<1 then(2,d)else(if(On d (cN d) (aZ d) (jy d,dR d,()) (lR d)).1=0 then(aec (On d (cN d) (aZ d) (jy d,dR d,()) (lR d)).2 [aZ d,cN d],(On d (cN d) (aZ d) (jy d,dR d,()) (lR d)).2)else On d (cN d) (aZ d) (jy d,dR d,()) (lR d)))else((s6 d (jy d)).2.1,d))else(pY d [aZ d,cN d],d)
theorem aiY{d}{f t x}{p}(O:amz d)(h:(On d f t x p).1=0):okB (dv (On d f t x p).2)/\bR (On d f t x p).2=bR d/\fi (On d f t x p).2=fi d:=by
 unfold On at h ⊢;by_cases h1:(s6 d x.1).2.1=0
 .rw[ah h1]at h ⊢;by_cases h2:(atP (dv d,gu d,()) (s6 d x.1).1 f t x.2.1 p).2.1=0
  .rw[ah h2];have A:=atF h2;exact⟨A.bk.ok O.b (by have:=O.bl;dsimp only;omega),rfl,rfl⟩
  .rw[ag h2]at h;exact absurd h h2
 .rw[ag h1]at h;exact absurd h h1
theorem atn{d}(O:Fu d):Rm d=some (WY d):=by
 show pJ aj d=_;unfold pJ WY;have hm:=O.m;rw[ai (CM (l:=[aZ d,cN d]) O.a (by omega) (by simp))];refine iY (λh1=>?_) λh1=>?_
 .rw[ah h1,ai (R4 O.i)];refine iY (λh2=>?_) λh2=>?_
  .rw[ah h2];refine du (λh3=>?_) λh3=>?_
   .rw[ah h3]
   .rw[ag h3];refine yu (auK O.toamz O.q) ?_;by_cases h4:(On d (cN d) (aZ d) (jy d,dR d,()) (lR d)).1=0
    .obtain⟨b1,b2,b3⟩:=aiY O.toamz h4
     have same:[aZ (On d (cN d) (aZ d) (jy d,dR d,()) (lR d)).2,cN (On d (cN d) (aZ d) (jy d,dR d,()) (lR d)).2]=[aZ d,cN d]:=by
      unfold On;rw[ah h2];by_cases h5:(atP (dv d,gu d,()) (s6 d (jy d)).1 (cN d) (aZ d) (dR d) (lR d)).2.1=0
      .rw[ah h5];rfl
      .rw[ag h5]
     rw[iZ h4,ah h4,same,ai (ag0 (by rw[b2];exact O.a) (by rw[b2];exact O.al) (by rw[b3];omega) b1 (by simp))]
    .rw[fV h4,ag h4]
  .rw[ag h2]
 .rw[ag h1]
def azF(d:aK)(g:List bZ)(n:List Int):aK:=U7 d (g,U19 d.2.2.2.2.2.2.2.2 (n,d.2.2.2.2.2.2.2.2.2.2.2.2.2.2.2.2.2.2.2.2.2.2.2.2.2.2.2.2))
def G5(d:aK)(g:bZ):Int×aK:=if(Mp (cx d) g (gw d)).2.2.1=0 then(0,azF d (Mp (cx d) g (gw d)).1 [(Mp (cx d) g (gw d)).2.1])else((Mp (cx d) g (gw d)).2.2.1,d)
theorem aiZ{d}{g}(O:Fu d):zG d g=some (G5 d g):=by
 show mr aj d g=_;unfold mr G5;have hv:=O.v;rw[ai (atd (by omega) O.vi)];refine bw λk3 hk3=>?_
 refine dQ (λh=>?_) λh=>?_
 .rw[ah h];subst hk3;dsimp only;rw[h];rfl
 .rw[ag h];subst hk3;rfl
def aqa(d:aK):bZ:=(0,aZ d,cN d,(jy d,dR d,()),lR d,0,0,0,())
def WZ(d:aK):Int×aK:=if pY d [aZ d,cN d]=0 then(if(s6 d (jy d)).2.1=0 then(if(dR d < -1099511627776\/1099511627776<dR d)\/lR d<0\/2147483647<lR d then(2,d)else G5 d (aqa d))else((s6 d (jy d)).2.1,d))else(pY d [aZ d,cN d],d)
theorem ato{d}(O:Fu d):Nn d=some (WZ d):=by
 show mT aj d=_;unfold mT WZ;have hm:=O.m;rw[ai (CM (l:=[aZ d,cN d]) O.a (by omega) (by simp))];refine iY (λh1=>?_) λh1=>?_
 .rw[ah h1,ai (R4 O.i)];refine iY (λh2=>?_) λh2=>?_
  .rw[ah h2];refine bw λk5 DX=>?_
   have kt:k5 (true,())=some (2,d):=by subst DX;rfl
   have kf:k5 (false,())=some (G5 d (aqa d)):=by subst DX;show aj.af false _ (aj.ae (zG d (aqa d)) _)=_;rw[az rfl,ai (aiZ O)]
   refine du (λc1=>?_) λc1=>?_
   .rw[kt,ah (.inl (.inl c1))]
   .refine du (λc2=>?_) λc2=>?_
    .rw[kt,ah (.inl (.inr c2))]
    .refine du (λc3=>?_) λc3=>?_
     .rw[kt,ah (.inr (.inl c3))]
     .by_cases c4:2147483647<lR d
      .rw[aq c4,kt,ah (.inr (.inr c4))]
      .rw[an c4,kf,ag (show ¬((dR d < -1099511627776\/1099511627776<dR d)\/lR d<0\/2147483647<lR d)from λq=>q.elim (λq=>q.elim c1 c2) λq=>q.elim c3 c4)]
  .rw[ag h2]
 .rw[ag h1]
def Ds(d:aK)(g:List bZ):aK:=U7 d (g,d.2.2.2.2.2.2.2.2)
theorem RM{α}{f}{g:α->α}(h:∀y,f (g y)=f y){l:List α}(hs:qU f l):qU f (l.map g):=by unfold qU at *;rw[hJ];rw[show(f ∘ g)=f from funext h];exact hs
theorem ah3{l}{id st}(h:(eZ l id st).2.1=0):(eZ l id st).1=l.map λy=>if y.1=id then PL st y else y:=by
 unfold eZ at h ⊢;cases hf:CL l id with
 |none=>rw[hf]at h;exact absurd (show(11:Int)=0 from h) (by decide)
 |some g=>
  rw[hf]at h;dsimp only at h ⊢;by_cases c:st<2\/5<st
  .rw[ah c]at h;exact absurd h (by decide)
  .rw[ag c]at h ⊢;by_cases e:g.2.2.2.2.2.2.2.1=1
   .rw[ah e]
   .rw[ag e]at h;exact absurd h (by decide)
theorem ah4{l}{id q}(h:(xN l id q).2.1=0):∃n,l9 n/\(xN l id q).1=l.map λy=>if y.1=id then kv n y else y:=by
 unfold xN at h ⊢;cases hf:Ba l id with
 |none=>rw[hf]at h;exact absurd (show(11:Int)=0 from h) (by decide)
 |some g=>
  rw[hf]at h;dsimp only at h ⊢;by_cases c:cu (g.2.2.2.2.1+q)/\l9 (g.2.2.2.2.1+q)
  .rw[ah c];exact⟨_,c.2,rfl⟩
  .rw[ag c]at h;exact absurd h (by decide)
theorem Fu.Ds{d}(O:Fu d){id st:Int}(h:(eZ (cx d) id st).2.1=0):Fu (Ds d (eZ (cx d) id st).1):=by
 have e:=ah3 h;have t1:∀y:bZ,(if y.1=id then PL st y else y).1=y.1:=λy=>by split<;>rfl
 have t2:∀y:bZ,(if y.1=id then PL st y else y).2.2.2.1.2.1=y.2.2.2.1.2.1:=λy=>by split<;>rfl
 refine { O with v:=?_,vs:=?_,vi:=?_,vq:=?_ }
 .show(eZ (cx d) id st).1.length<=64;rw[e,bh];exact O.v
 .show qU (·.1) (eZ (cx d) id st).1;rw[e];exact RM t1 O.vs
 .show ∀x∈(eZ (cx d) id st).1,_;rw[e];intro x hx;obtain⟨y,hy,rfl⟩:=aN.1 hx;rw[t1];exact O.vi y hy
 .show ∀x∈(eZ (cx d) id st).1,_;rw[e];intro x hx;obtain⟨y,hy,rfl⟩:=aN.1 hx;rw[t2];exact O.vq y hy
def G6(d:aK)(b:List bP):aK:=U6 d (b,d.2.2.2.2.2.2.2)
theorem Fu.G6{d}(O:Fu d){id q:Int}(h:(xN (dY d) id q).2.1=0):Fu (G6 d (xN (dY d) id q).1):=by
 obtain⟨n,hn,e⟩:=ah4 h;have t1:∀y:bP,(if y.1=id then kv n y else y).1=y.1:=λy=>by split<;>rfl
 refine { O with g:=?_,gs:=?_,gi:=?_,gl:=?_ }
 .show(xN (dY d) id q).1.length<=64;rw[e,bh];exact O.g
 .show qU (·.1) (xN (dY d) id q).1;rw[e];exact RM t1 O.gs
 .rw[e];intro x hx;obtain⟨y,hy,rfl⟩:=aN.1 hx;rw[t1];exact O.gi y hy
 .rw[e];intro x hx;obtain⟨y,hy,rfl⟩:=aN.1 hx;by_cases c:y.1=id
  .rw[ah c];show cu n;unfold l9 at hn;unfold cu;omega
  .rw[ag c];exact O.gl y hy
def gOf(l:List bZ)(id:Int):bZ:=match CL l id with|some g=>g|none=>apC
def I5(d:aK)(id st:Int):Int×aK:=if(eZ (cx d) id st).2.1=0 then(if(gOf (eZ (cx d) id st).1 id).2.2.2.2.2.1=0 then(0,Ds d (eZ (cx d) id st).1)else(if(xN (dY d) (gOf (eZ (cx d) id st).1 id).2.2.2.2.2.1 (gOf (eZ (cx d) id st).1 id).2.2.2.1.2.1).2.1=0 then(0,G6 (Ds d (eZ (cx d) id st).1) (xN (dY d) (gOf (eZ (cx d) id st).1 id).2.2.2.2.2.1 (gOf (eZ (cx d) id st).1 id).2.2.2.1.2.1).1)else((xN (dY d) (gOf (eZ (cx d) id st).1 id).2.2.2.2.2.1 (gOf (eZ (cx d) id st).1 id).2.2.2.1.2.1).2.1,Ds d (eZ (cx d) id st).1)))else((eZ (cx d) id st).2.1,d)
theorem ali{t}{id}(hl:t.length<=1000000):∃b,X2 t id=some (gOf t id,b):=by rw[Ux hl];unfold gOf;cases CL t id<;>exact⟨_,rfl⟩
theorem azG{l}(h:∀x∈l,cu x.2.2.2.1.2.1)(id):cu (gOf l id).2.2.2.1.2.1:=by
 unfold gOf;cases hf:CL l id with
 |none=>unfold cu;decide
 |some g=>exact h g (bT hf)
theorem ag1{d}{id st}(O:Fu d):HG d id st=some (I5 d id st):=by
 show lm aj d id st=_;unfold lm I5;have hv:=O.v;have hg:=O.g;rw[ai (adL (by omega) O.vs)];by_cases h:(eZ (cx d) id st).2.1=0
 .have O2:=O.Ds h;have hl2:(eZ (cx d) id st).1.length<=64:=O2.v;obtain⟨b,hb⟩:=ali (t:=(eZ (cx d) id st).1) (id:=id) (by omega);rw[iZ h,ah h,ai hb];have hI:cu (gOf (eZ (cx d) id st).1 id).2.2.2.1.2.1:=azG O2.vq id;refine dQ (λh2=>?_) λh2=>?_
  .rw[ah h2];rfl
  .rw[ag h2,ai (apJ (by omega) O.gs O.gl hI)];refine bw λk5 DX=>?_
   refine dQ (λh3=>?_) λh3=>?_
   .rw[ah h3];subst DX;dsimp only;rw[h3];rfl
   .rw[ag h3];subst DX;rfl
 .rw[fV h,ag h]
theorem atp{d}{id st}(O:Fu d)(h:(I5 d id st).1=0):Fu (I5 d id st).2:=by
 unfold I5 at h ⊢;by_cases h1:(eZ (cx d) id st).2.1=0
 .rw[ah h1]at h ⊢;have O2:=O.Ds h1;by_cases h2:(gOf (eZ (cx d) id st).1 id).2.2.2.2.2.1=0
  .rw[ah h2];exact O2
  .rw[ag h2]at h ⊢;by_cases h3:(xN (dY d) (gOf (eZ (cx d) id st).1 id).2.2.2.2.2.1 (gOf (eZ (cx d) id st).1 id).2.2.2.1.2.1).2.1=0
   .rw[ah h3];exact O2.G6 h3
   .rw[ag h3]at h;exact absurd h h3
 .rw[ag h1]at h;exact absurd h h1
def F'(st:Int):List Int->aK->Int×aK
 |[],d=>(0,d)
 |id::l,d=>if(I5 d id st).1=0 then F' st l (I5 d id st).2 else I5 d id st
theorem ah6{d}{ids}{st}(O:Fu d)(hn:ids.length<=1000000):tO d ids st=some (F' st ids d):=by
 show mv aj d ids st=_;unfold mv;refine ib (l:=ids) (S:=aK) (by omega) (λ_ z=>Fu z) (λt z=>some (F' st t z)) O ?_ ?_
 .intro z again _;refine IZ ?_;rfl
 .intro i hi z hz again ha;refine Jp hi ?_;rw[bO hi];show aj.ae (HG z ids[i] st) _=some (if(I5 z ids[i] st).1=0 then F' st (ids.drop (i+1)) (I5 z ids[i] st).2 else I5 z ids[i] st);rw[ai (ag1 hz)];refine iY (λh=>?_) λh=>?_
  .rw[ah h];dsimp only;rw[cU i (by omega)];exact ha _ (atp hz h)
  .rw[ag h]
def Iq(d:aK):Int×aK:=
 match CL (cx d) (xu d)with
 |none=>(11,d)
 |some g=>if pY d [g.2.1,g.2.2.1]=0 then(
  if(eZ (cx d) g.1 2).2.1=0 then(
   if(On (Ds d (eZ (cx d) g.1 2).1) g.2.1 g.2.2.1 g.2.2.2.1 g.2.2.2.2.1).1=0 then(aec (On (Ds d (eZ (cx d) g.1 2).1) g.2.1 g.2.2.1 g.2.2.2.1 g.2.2.2.2.1).2 [g.2.1,g.2.2.1],(On (Ds d (eZ (cx d) g.1 2).1) g.2.1 g.2.2.1 g.2.2.2.1 g.2.2.2.2.1).2)
   else On (Ds d (eZ (cx d) g.1 2).1) g.2.1 g.2.2.1 g.2.2.2.1 g.2.2.2.2.1)
  else((eZ (cx d) g.1 2).2.1,d))
  else(pY d [g.2.1,g.2.2.1],d)
theorem alj{d}(O:Fu d):No d=some (Iq d):=by
 show mU aj d=_;unfold mU Iq;have hv:=O.v;have hm:=O.m;rw[ja,ai (Ux (show(cx d).length<=1000000 by omega))];cases hf:CL (cx d) (xu d)with
 |none=>rfl
 |some g=>
  have hgq:=O.vq g (bT hf);refine AP (show(!true)=false from rfl) ?_;rw[ai (CM (l:=[g.2.1,g.2.2.1]) O.a (by omega) (by simp))]
  show _=some (if pY d [g.2.1,g.2.2.1]=0 then(
   if(eZ (cx d) g.1 2).2.1=0 then(
    if(On (Ds d (eZ (cx d) g.1 2).1) g.2.1 g.2.2.1 g.2.2.2.1 g.2.2.2.2.1).1=0 then(aec (On (Ds d (eZ (cx d) g.1 2).1) g.2.1 g.2.2.1 g.2.2.2.1 g.2.2.2.2.1).2 [g.2.1,g.2.2.1],(On (Ds d (eZ (cx d) g.1 2).1) g.2.1 g.2.2.1 g.2.2.2.1 g.2.2.2.2.1).2)
    else On (Ds d (eZ (cx d) g.1 2).1) g.2.1 g.2.2.1 g.2.2.2.1 g.2.2.2.2.1)
   else((eZ (cx d) g.1 2).2.1,d))
  else(pY d [g.2.1,g.2.2.1],d))
  refine iY (λh1=>?_) λh1=>?_
  .rw[ah h1,ai (adL (by show(cx d).length<=1000;omega) O.vs)];by_cases h2:(eZ (cx d) g.1 2).2.1=0
   .have O2:=O.Ds h2;rw[iZ h2,ah h2];show aj.ae (JA (Ds d (eZ (cx d) g.1 2).1) g.2.1 g.2.2.1 g.2.2.2.1 g.2.2.2.2.1) _=_;rw[ai (auK O2.toamz hgq)];by_cases h4:(On (Ds d (eZ (cx d) g.1 2).1) g.2.1 g.2.2.1 g.2.2.2.1 g.2.2.2.2.1).1=0
    .obtain⟨b1,b2,b3⟩:=aiY O2.toamz h4;have hm2:=O2.m;rw[az (by simpa using h4),ah h4,ai (ag0 (l:=[g.2.1,g.2.2.1]) (by rw[b2];exact O2.a) (by rw[b2];exact O2.al) (by rw[b3];omega) b1 (by simp))]
    .rw[aQ (by simpa using h4),ag h4]
   .rw[aQ (by simpa using h2),ag h2]
  .rw[ag h1]
def SG(d:aK)(l:List aW):aK:=(gw d,l,d.2.2)
def Bd(d:aK)(m:aW):Int×aK:=if(Dr (fi d) m).2.1=0 then(0,SG d (Dr (fi d) m).1)else((Dr (fi d) m).2.1,d)
theorem YQ{d}{m}(O:Fu d):Ga d m=some (Bd d m):=by
 show j9 aj d m=_;unfold j9 Bd;rw[ai (adH O.m O.ms)];refine bw λk3 hk3=>?_
 refine dQ (λh=>?_) λh=>?_
 .rw[ah h];subst hk3;dsimp only;rw[h];rfl
 .rw[ag h];subst hk3;rfl
def Ag(d:aK):Int:=if dR d<1\/(nN d=0/\Lj d≠0)then 2 else 0
theorem W6(d):Np d=some (Ag d,d):=by
 show ka aj d=_;unfold ka Ag;refine bw λk2 yd=>?_
 have kt:k2 (true,())=some (2,d):=by subst yd;rfl
 have kf:k2 (false,())=some (0,d):=by subst yd;rfl
 refine du (λh1=>?_) λh1=>?_
 .rw[kt,ah (.inl h1)]
 .refine dQ (λh2=>?_) λh2=>?_
  .by_cases h3:Lj d=0
   .rw[show(Lj d != 0)=false by simpa using h3,kf,ag (show ¬(dR d<1\/(nN d=0/\Lj d≠0))from λq=>q.elim h1 λq=>q.2 h3)]
   .rw[show(Lj d != 0)=true by simpa using h3,kt,ah (.inr ⟨h2,h3⟩)]
  .rw[kf,ag (show ¬(dR d<1\/(nN d=0/\Lj d≠0))from λq=>q.elim h1 λq=>h2 q.1)]
def ag2(g:bP)(d:aK):bZ:=(0,g.2.1,cN d,(g.2.2.1,dR d,()),g.2.2.2.1,g.1,0,0,())
def Oo(d:aK):Int×aK:=
 match Ba (dY d) (xu d)with
 |none=>(11,d)
 |some g=>if pY d [g.2.1,cN d]=0 then(
  if(kO (dY d) g.1 (dR d)).2.1=0 then G5 (G6 d (kO (dY d) g.1 (dR d)).1) (ag2 g d)else((kO (dY d) g.1 (dR d)).2.1,d))
  else(pY d [g.2.1,cN d],d)
theorem aqb{l}{id q:Int}(hI:∀x∈l,cu x.2.2.2.2.1)(hq:cu q)(h:(kO l id q).2.1=0):∃n,cu n/\(kO l id q).1=l.map λy=>if y.1=id then kv n y else y:=by
 unfold kO at h ⊢;cases hf:Ba l id with
 |none=>rw[hf]at h;exact absurd (show(11:Int)=0 from h) (by decide)
 |some g=>
  have hg:=hI g (bT hf);rw[hf]at h;dsimp only at h ⊢;by_cases c:q=0\/(g.2.2.2.2.1≠0/\decide (q<0)≠decide (g.2.2.2.2.1<0))
  .rw[ah c]at h;exact absurd h (by decide)
  .rw[ag c]at h ⊢;by_cases c2:(0<q/\g.2.2.2.2.1<q)\/(q<0/\q<g.2.2.2.2.1)
   .rw[ah c2]at h;exact absurd h (by decide)
   .rw[ag c2];refine⟨_,?_,rfl⟩;unfold cu at *;by_cases z:g.2.2.2.2.1=0
    .omega
    .have:decide (q<0)=decide (g.2.2.2.2.1<0):=by
      by_cases e:decide (q<0)=decide (g.2.2.2.2.1<0)
      .exact e
      .exact absurd (.inr ⟨z,e⟩) c
     rw[eF]at this;omega
theorem alk{d}(O:Fu d){id:Int}(h:(kO (dY d) id (dR d)).2.1=0):Fu (G6 d (kO (dY d) id (dR d)).1):=by
 obtain⟨n,hn,e⟩:=aqb O.gl O.q h;have t1:∀y:bP,(if y.1=id then kv n y else y).1=y.1:=λy=>by split<;>rfl
 refine { O with g:=?_,gs:=?_,gi:=?_,gl:=?_ }
 .show(kO (dY d) id (dR d)).1.length<=64;rw[e,bh];exact O.g
 .show qU (·.1) (kO (dY d) id (dR d)).1;rw[e];exact RM t1 O.gs
 .show ∀x∈(kO (dY d) id (dR d)).1,_;rw[e];intro x hx;obtain⟨y,hy,rfl⟩:=aN.1 hx;rw[t1];exact O.gi y hy
 .show ∀x∈(kO (dY d) id (dR d)).1,_;rw[e];intro x hx;obtain⟨y,hy,rfl⟩:=aN.1 hx;by_cases c:y.1=id
  .rw[ah c];exact hn
  .rw[ag c];exact O.gl y hy
theorem aqc{d}(O:Fu d):Po d=some (Oo d):=by
 show nY aj d=_;unfold nY Oo;have hg:=O.g;have hm:=O.m;rw[ja,ai (adM (show(dY d).length<=1000000 by omega))];cases hf:Ba (dY d) (xu d)with
 |none=>rfl
 |some g=>
  show aj.af (!true) _ (aj.ae (tP d [g.2.1,cN d]) λv2=>aj.af (v2.1 != 0) (some v2) (aj.ae (Qm (dY v2.2) g.1 (dR v2.2)) λv3=>aj.af (v3.2.1 != 0) (some (v3.2.1,v2.2)) (aj.ae (zG (G6 v2.2 v3.1) (ag2 g v2.2)) λv4=>some v4)))=some (if pY d [g.2.1,cN d]=0 then(if(kO (dY d) g.1 (dR d)).2.1=0 then G5 (G6 d (kO (dY d) g.1 (dR d)).1) (ag2 g d)else((kO (dY d) g.1 (dR d)).2.1,d))else(pY d [g.2.1,cN d],d));rw[az (show(!true)=false from rfl),ai (CM (l:=[g.2.1,cN d]) O.a (by omega) (by simp))];refine iY (λh1=>?_) λh1=>?_
  .rw[ah h1,ai (akZ (by show(dY d).length<=1000;omega) O.gs O.gl O.q)];refine iY (λh2=>?_) λh2=>?_
   .rw[ah h2,ai (aiZ (alk O h2))]
   .rw[ag h2]
  .rw[ag h1]
def azH(d:aK)(g:List bP)(p:List aR)(n:List Int):aK:=U6 d (g,U3 d.2.2.2.2.2.2.2 (p,U16 d.2.2.2.2.2.2.2.2.2.2.2 (n,d.2.2.2.2.2.2.2.2.2.2.2.2.2.2.2.2.2.2.2.2.2.2.2.2.2.2.2.2)))
def SP:ar:=(0,1,())
def VH(d:aK):bP:=(0,aZ d,jy d,(Li (zF (ua d))).2.1,(Li (zF (ua d))).1,())
def UO(d:aK):Int×Int×Unit:=aiV (s6 d (jy d)).1.2.1 (zF (ua d))
def Oq(d:aK):Int×aK:=if pY d [aZ d]=0 then(if(s6 d (jy d)).2.1=0 then(if(Li (zF (ua d))).2.2.2=0 then(if(UO d).2.1=0 then(if(G7 (dY d) (VH d)).2.2.1=0 then(if(jh (gu d) SP (aZ d) (UO d).1).2.1=0 then(0,azH d (G7 (dY d) (VH d)).1 (jh (gu d) SP (aZ d) (UO d).1).1 [(G7 (dY d) (VH d)).2.1,(Li (zF (ua d))).2.1,(UO d).1])else((jh (gu d) SP (aZ d) (UO d).1).2.1,d))else((G7 (dY d) (VH d)).2.2.1,d))else((UO d).2.1,d))else((Li (zF (ua d))).2.2.2,d))else((s6 d (jy d)).2.1,d))else(pY d [aZ d],d)
theorem ag3{l}(h:l.length<=1000):(zF l).length<=1000:=by
 unfold zF;by_cases c:l.length % 2=0
 .rw[ah c];exact cp (UE l) h
 .rw[ag c];exact bE _
theorem axl(d):cu (UO d).1:=by
 unfold UO aiV;have z:cu 0:=by unfold cu;decide
 by_cases h:(Li (zF (ua d))).2.2.2=0
 .rw[ah h];by_cases h2:(s6 d (jy d)).1.2.1<1\/65536<(s6 d (jy d)).1.2.1
  .rw[ah h2];exact z
  .rw[ag h2];exact Pj _
 .rw[ag h];exact z
theorem aqd{d}(O:Fu d)(hn:(ua d).length<=1000):Pp d=some (Oq d):=by
 show nZ aj d=_;unfold nZ Oq;have hm:=O.m;have hg:=O.g;have Vz:=O.pl;have N1:=ag3 hn;rw[ai (CM (l:=[aZ d]) O.a (by omega) (by simp))];refine iY (λh1=>?_) λh1=>?_
 .rw[ah h1,ai (R4 O.i)];refine iY (λh2=>?_) λh2=>?_
  .rw[ah h2];refine yu (atf hn) ?_;rw[ai (X6 N1)];refine iY (λh3=>?_) λh3=>?_
   .rw[ah h3,ai (atj N1)];show aj.af ((UO d).2.1 != 0) (some ((UO d).2.1,d)) (aj.ae (UB (dY d) (VH d)) _)=_;refine iY (λh4=>?_) λh4=>?_
    .rw[ah h4,ai (apK (by omega) O.gi)];refine iY (λh5=>?_) λh5=>?_
     .rw[ah h5,ai (show yf=some SP from rfl)];show aj.ae (rD (gu d) SP (aZ d) (UO d).1) _=_;rw[ai (N5 O.p (axl d) (by omega))];refine iY (λh6=>?_) λh6=>?_
      .rw[ah h6];rfl
      .rw[ag h6]
     .rw[ag h5]
    .rw[ag h4]
   .rw[ag h3]
  .rw[ag h2]
 .rw[ag h1]
def Ot(d:aK):Int×aK:=if bS d=7 then WY d else if bS d=8 then WZ d else if bS d=9 then Iq d else if bS d=10 then I5 d (xu d) 3 else if bS d=11 then I5 d (xu d) 4 else if bS d=12 then Oq d else Oo d
theorem amU{d}(O:Fu d)(hn:(ua d).length<=1000):Pq d=some (Ot d):=by
 show n5 aj d=_;unfold n5 Ot;refine dQ (λh1=>?_) λh1=>?_
 .rw[ah h1,ai (atn O)]
 .rw[ag h1];refine dQ (λh2=>?_) λh2=>?_
  .rw[ah h2,ai (ato O)]
  .rw[ag h2];refine dQ (λh3=>?_) λh3=>?_
   .rw[ah h3,ai (alj O)]
   .rw[ag h3];refine dQ (λh4=>?_) λh4=>?_
    .rw[ah h4,ai (ag1 O)]
    .rw[ag h4];refine dQ (λh5=>?_) λh5=>?_
     .rw[ah h5,ai (ag1 O)]
     .rw[ag h5];refine dQ (λh6=>?_) λh6=>?_
      .rw[ah h6,ai (aqd O hn)]
      .rw[ag h6,ai (aqc O)]
structure OkN(d:aK):Prop extends Fu d where
 ss:qU (·.1) (ji d)
 sl:(ji d).length<=1000
 n:(ua d).length<=1000
 cc:∀a∈bR d,qU (λx:Int=>x) a.2.2.2.1/\a.2.2.2.1.length<=16
def atq(d:aK)(l:List aD):aK:=U4 d (l,d.2.2.2.2.2)
def Mm(d:aK):Int:=if(lz d).2.1=0 then(if(lz d).1.2.2.1=0 then 0 else 15)else(lz d).2.1
def Mn(d:aK):aD:=(wW d,AZ d,xu d,[],())
def Ol(d:aK):Int×aK:=if uu d=0 then(if Mm d=0 then((SL (bR d) (Mn d)).2.1,atq d (SL (bR d) (Mn d)).1)else(Mm d,d))else(2,d)
theorem aqe{d}(O:Fu d):xc d=some (Ol d):=by
 show jE aj d=_;unfold jE Ol;have hm:=O.m;refine iY (λh0=>?_) λh0=>?_
 .rw[ah h0,ai (AF (by omega))];refine bw λk6 F8=>?_
  have kk:∀e:Int,k6 (e,())=some (if e=0 then((SL (bR d) (Mn d)).2.1,atq d (SL (bR d) (Mn d)).1)else(e,d)):=by
   intro e;subst F8;refine bw λk4 Vp=>?_
   refine dQ (λh=>?_) λh=>?_
   .rw[ah h,ai (ata O.a O.as (bE _))];subst Vp;rfl
   .rw[ag h];subst Vp;rfl
  show aj.af ((lz d).2.1==0) (aj.ae (qe (lz d).1) λv7=>k6 (v7,())) (k6 ((lz d).2.1,()))=_;unfold Mm;refine dQ (λh=>?_) λh=>?_
  .rw[ah h,ai (Nf _),kk]
  .rw[ag h,kk]
 .rw[ag h0]
def abB(d:aK)(id:Int):aW:=match mG (fi d) id with|some m=>m|none=>CE
theorem ag4{t}{id}(hl:t.length<=1000000):∃b,yv t id=some ((match mG t id with|some m=>m|none=>CE),b):=by rw[ur hl];cases mG t id<;>exact⟨_,rfl⟩
def WX(d:aK):Int×aK:=
 match gP (bR d) (wW d)with
 |none=>(11,d)
 |some a=>if(abB d a.2.1).2.2.1=0 then(
  if(uc a (uu d)).2.1=0 then((SM (bR d) (uc a (uu d)).1).2.1,atq d (SM (bR d) (uc a (uu d)).1).1)else((uc a (uu d)).2.1,d))
  else(15,d)
theorem aqf{a}{c}(h:a.2.2.2.1.length<=16):(uc a c).1.2.2.2.1.length<=1000:=by
 unfold uc;split
 .split
  .exact bE _
  .split
   .exact bE _
   .split
    .exact bE _
    .split
     .exact bE _
     .rw[abC];omega
 .exact bE _
theorem atr{d}(O:OkN d):Gn d=some (WX d):=by
 show pK aj d=_;unfold pK WX;have hm:=O.m;rw[ja,ai (H' O.a O.as)];cases hf:gP (bR d) (wW d)with
 |none=>rfl
 |some a=>
  obtain⟨c1,c2⟩:=O.cc a (bT hf);obtain⟨b,hb⟩:=ag4 (t:=fi d) (id:=a.2.1) (by omega);show aj.af (!true) _ (aj.two (aj.ae (yv (fi d) a.2.1) λv2=>aj.ae (qe v2.1) λv3=>aj.af (v3 != 0) (some (v3,d)) (aj.two (aj.ae (X4 a (uu d)) _))))=some (if(abB d a.2.1).2.2.1=0 then(if(uc a (uu d)).2.1=0 then((SM (bR d) (uc a (uu d)).1).2.1,atq d (SM (bR d) (uc a (uu d)).1).1)else((uc a (uu d)).2.1,d))
  else(15,d))
  rw[az (show(!true)=false from rfl),ja,ai hb];show aj.ae (qe (abB d a.2.1)) _=_;rw[ai (Nf _)];by_cases h1:(abB d a.2.1).2.2.1=0
  .rw[ah h1,ah h1,az (by rfl),ja,ai (apN (by omega) c1)];refine bw λk6 F8=>?_
   refine dQ (λh2=>?_) λh2=>?_
   .rw[ah h2,ai (atb O.a O.as (aqf c2))];subst F8;rfl
   .rw[ag h2];subst F8;rfl
  .rw[ag h1,ag h1,aQ (by rfl)]
def am4(d:aK)(l:List bF):aK:=(gw d,fi d,l,d.2.2.2)
def SJ(d:aK)(l:List bf):aK:=U3 d (l,d.2.2.2.2)
def axm(d:aK):aW:=(AZ d,dR d,0,0,())
def axn(d:aK):bF:=(jy d,dR d,lR d,lR d,ua d,())
def axo(d:aK):bf:=(nN d,lR d,dR d,())
def axp(d:aK):aW:=((lz d).1.1,dR d,(lz d).1.2.2)
def Om(d:aK):Int×aK:=if bS d=1 then((J2 (fi d) (axm d)).2.1,SG d (J2 (fi d) (axm d)).1)else if bS d=2 then((J3 (fN d) (axn d)).2.1,am4 d (J3 (fN d) (axn d)).1)else if bS d=3 then((SI (ji d) (axo d)).2.1,SJ d (SI (ji d) (axo d)).1)else if bS d=4 then Ol d else if bS d=5 then WX d else if bS d=6 then(if(lz d).2.1=0 then((Dr (fi d) (axp d)).2.1,SG d (Dr (fi d) (axp d)).1)else((lz d).2.1,d))else(0,d)
theorem amT{d}(O:OkN d):Pr d=some (Om d):=by
 show n9 aj d=_;unfold n9 Om;have hm:=O.m;refine bw λk2 yd=>?_
 have kk:∀x:Int×aK,k2 x=some x:=λx=>by subst yd;rfl
 show aj.af (bS d==1) (aj.ae (Uv (fi d) (axm d)) λv3=>k2 (v3.2.1,SG d v3.1)) (aj.af (bS d==2) (aj.ae (adI (fN d) (axn d)) λv4=>k2 (v4.2.1,am4 d v4.1)) (aj.af (bS d==3) (aj.ae (X0 (ji d) (axo d)) λv5=>k2 (v5.2.1,SJ d v5.1)) (aj.af (bS d==4) (aj.ae (xc d) λv6=>k2 v6) (aj.af (bS d==5) (aj.ae (Gn d) λv7=>k2 v7) (aj.af (bS d==6) (aj.ae (CX d) _) (k2 (0,d)))))))=_;refine dQ (λh1=>?_) λh1=>?_
 .rw[ah h1,ai (ap8 O.m O.ms),kk]
 .rw[ag h1];refine dQ (λh2=>?_) λh2=>?_
  .rw[ah h2,ai (apB O.i O.is O.n),kk]
  .rw[ag h2];refine dQ (λh3=>?_) λh3=>?_
   .rw[ah h3,ai (asZ O.sl O.ss),kk]
   .rw[ag h3];refine dQ (λh4=>?_) λh4=>?_
    .rw[ah h4,ai (aqe O.toFu),kk]
    .rw[ag h4];refine dQ (λh5=>?_) λh5=>?_
     .rw[ah h5,ai (atr O),kk]
     .rw[ag h5];refine dQ (λh6=>?_) λh6=>?_
      .rw[ah h6,ai (AF (by omega))];show aj.af ((lz d).2.1 != 0) (some ((lz d).2.1,d)) (aj.ae (Uw (fi d) (axp d)) λv9=>k2 (v9.2.1,SG d v9.1))=_;refine iY (λh7=>?_) λh7=>?_
       .rw[ah h7,ai (adH O.m O.ms),kk]
       .rw[ag h7]
      .rw[ag h6,kk]
def VX(d:aK)(l:List aR):aK:=U10 d (l,d.2.2.2.2.2.2.2.2.2.2.2)
def Mr(d:aK)(n:Int):Int×aK:=if(rI (gu d) [(aZ d,n,())]).2.1=0 then(0,VX d (rI (gu d) [(aZ d,n,())]).1)else((rI (gu d) [(aZ d,n,())]).2.1,d)
theorem aja{d}{n:Int}(O:amz d)(hn:cu n):Rn d n=some (Mr d n):=by
 show mw aj d n=_;unfold mw Mr;have Vz:=O.pl;show aj.ae (AL (gu d) [(aZ d,n,())]) _=_;rw[ai (adr O.p (λx hx=>by simp only[aC]at hx;subst hx;exact hn) (by simp;omega))];refine bw λk3 hk3=>?_
 refine dQ (λh=>?_) λh=>?_
 .rw[ah h];subst hk3;dsimp only;rw[h];rfl
 .rw[ag h];subst hk3;rfl
def UP(d:aK)(l:List bg):aK:=U11 d (l,d.2.2.2.2.2.2.2.2.2.2.2.2)
def ue(d:aK):bf:=(nN d,Lj d,dR d,())
def ia(d:aK):Int×aK:=if nN d=0 then(if ig (gu d) (aZ d)<dR d then(23,d)else Mr d (-dR d))else if(qE (fo d) (aZ d) (ue d)).2.1=0 then(0,UP d (qE (fo d) (aZ d) (ue d)).1)else((qE (fo d) (aZ d) (ue d)).2.1,d)
theorem amK{d:aK}(O:Fu d)(hh:lc (fo d))(hq:0<=dR d):Ps d=some (ia d):=by
 show oa aj d=_;unfold oa ia;have Vz:=O.pl;have hI:=O.q;refine dQ (λh0=>?_) λh0=>?_
 .rw[ah h0];show aj.ae (pw (gu d) (aZ d)) _=_;rw[ai (Jq (by omega))];by_cases h1:ig (gu d) (aZ d)<dR d
  .rw[eR h1,ah h1]
  .have hw:IntKind.i64.wrap (0-dR d) = -dR d:=by rw[bI _ (by unfold cu at hI;omega)];omega
   rw[cY h1,ag h1,hw,ai (aja O.toamz (by unfold cu at hI ⊢;omega))]
 .rw[ag h0];refine bw λk6 F8=>?_
  have e:k6 ((qE (fo d) (aZ d) (ue d)).2.1,pd d ((qE (fo d) (aZ d) (ue d)).1,()))=some (if(qE (fo d) (aZ d) (ue d)).2.1=0 then(0,UP d (qE (fo d) (aZ d) (ue d)).1)else((qE (fo d) (aZ d) (ue d)).2.1,d)):=by
   subst F8;refine bw λk5 DX=>?_
   by_cases h:(qE (fo d) (aZ d) (ue d)).2.1=0
   .rw[ah h];refine tqy h ?_;subst DX;dsimp only;rw[h];rfl
   .rw[ag h];refine tqn h ?_;subst DX;rfl
  have c:(aj.ae (WL (fo d) (aZ d) (ue d)) λv8=>k6 (v8.2.1,pd d (v8.1,())))=some (if(qE (fo d) (aZ d) (ue d)).2.1=0 then(0,UP d (qE (fo d) (aZ d) (ue d)).1)else((qE (fo d) (aZ d) (ue d)).2.1,d)):=by rw[ai (ahs hh hI)];exact e
  repeat' (first|exact c|refine jV ?_ ?_)
def amJ(d:aK):Int:=if aZ d=fU then 0 else pY d [aZ d]
def ajS(d:aK):Int×aK:=if amJ d=0 then(if Ag d=0 then(if nN d=0 then Mr d (dR d)else(if(iw (ji d) (nN d)).2.1=true then(if(Ab (fo d) (aZ d) (ue d)).2.1=0 then(0,UP d (Ab (fo d) (aZ d) (ue d)).1)else((Ab (fo d) (aZ d) (ue d)).2.1,d))else(11,d)))else(Ag d,d))else(amJ d,d)
theorem av5{d}(O:OkN d)(hh:lc (fo d)):Ln d=some (ajS d):=by
 show lI aj d=_;unfold lI ajS;have hm:=O.m;have hI:=O.q;refine bw λk23 a0Y=>?_
 have K:k23 d=some (if Ag d=0 then(
  if nN d=0 then Mr d (dR d)else(
   if(iw (ji d) (nN d)).2.1=true then(if(Ab (fo d) (aZ d) (ue d)).2.1=0 then(0,UP d (Ab (fo d) (aZ d) (ue d)).1)else((Ab (fo d) (aZ d) (ue d)).2.1,d))
   else(11,d)))
  else(Ag d,d)):=by
  subst a0Y;refine yu (W6 d) ?_;refine iY (λh1=>?_) λh1=>?_
  .rw[ah h1];refine dQ (λh2=>?_) λh2=>?_
   .rw[ah h2,ai (aja O.toamz hI)]
   .rw[ag h2];refine bw λk20 axk=>?_
    refine(ja _).trans ?_;rw[ai (Mb O.sl)];subst axk;show aj.af (!(iw (ji d) (nN d)).2.1) (some (11,d)) (aj.aH _ _)=_;cases hf:(iw (ji d) (nN d)).2.1 with
    |false=>rw[aQ (show(!false)=true from rfl),ag (by decide)]
    |true=>
     rw[az (show(!true)=false from rfl),ah rfl];refine bw λk6 F8=>?_
     have e:k6 ((Ab (fo d) (aZ d) (ue d)).2.1,pd d ((Ab (fo d) (aZ d) (ue d)).1,()))=some (if(Ab (fo d) (aZ d) (ue d)).2.1=0 then(0,UP d (Ab (fo d) (aZ d) (ue d)).1)else((Ab (fo d) (aZ d) (ue d)).2.1,d)):=by
      subst F8;refine bw λk5 DX=>?_
      by_cases h:(Ab (fo d) (aZ d) (ue d)).2.1=0
      .rw[ah h];refine tqy h ?_;subst DX;dsimp only;rw[h];rfl
      .rw[ag h];refine tqn h ?_;subst DX;rfl
     have c:(aj.ae (abr (fo d) (aZ d) (ue d)) λv8=>k6 (v8.2.1,pd d (v8.1,())))=some (if(Ab (fo d) (aZ d) (ue d)).2.1=0 then(0,UP d (Ab (fo d) (aZ d) (ue d)).1)else((Ab (fo d) (aZ d) (ue d)).2.1,d)):=by rw[ai (amk hh hI)];exact e
     repeat' (first|exact c|refine jV ?_ ?_)
  .rw[ag h1]
 rw[ai aeU];have en:dq true ((wW d==fU.1)&&(uu d==fU.2.1))=!decide (aZ d=fU):=by rw[<-vd];cases((wW d==fU.1)&&(uu d==fU.2.1))<;>rfl
 show aj.af (dq true ((wW d==fU.1)&&(uu d==fU.2.1))) (aj.ae (tP d [aZ d]) λv25=>aj.af (v25.1 != 0) (some v25) (k23 v25.2)) (k23 d)=_;rw[en];unfold amJ;by_cases hu:aZ d=fU
 .rw[aq hu,az (show(!true)=false from rfl),ah hu,K,ah rfl]
 .rw[an hu,aQ (show(!false)=true from rfl),ag hu,ai (CM (l:=[aZ d]) O.a (by omega) (by simp))];refine iY (λh1=>?_) λh1=>?_
  .rw[ah h1];exact K
  .rw[ag h1]
def azI(d:aK)(id:Int):aD:=match gP (bR d) id with|some a=>a|none=>wU
theorem W7{t}{id:Int}(h:rC t)(hs:Yo t):∃b,N3 t id=some ((match gP t id with|some a=>a|none=>wU),b):=by rw[H' h hs];cases gP t id<;>exact⟨_,rfl⟩
def abN(d:aK)(u:ar):Int:=if Vr d u=0 then(if(azI d u.1).2.2.1=1 then 17 else 0)else Vr d u
theorem X9{d}{u}(O:Fu d):Nq d u=some (abN d u,d):=by
 show kc aj d u=_;unfold kc abN;rw[ai (Xb O.a)];show aj.af (Vr d u != 0) (some (Vr d u,d)) _=_;by_cases h:Vr d u=0
 .obtain⟨b,hb⟩:=W7 (id:=u.1) O.a O.as;rw[iZ h,ah h,ja];refine yu hb ?_;show aj.af ((azI d u.1).2.2.1==1) _ _=_;refine dQ (λh2=>?_) λh2=>?_
  .rw[ah h2]
  .rw[ag h2]
 .rw[fV h,ag h]
def azJ(d:aK)(l:List bz):aK:=U5 d (l,d.2.2.2.2.2.2)
def Oy(d:aK):Int×aK:=if abN d (aZ d)=0 then(if 1<(Ej d (aZ d)).2.2.1 then(13,d)else(if abN d (cN d)=0 then(if(Fy (jS d) (aZ d) (cN d)).2.1=0 then(0,azJ d (Fy (jS d) (aZ d) (cN d)).1)else((Fy (jS d) (aZ d) (cN d)).2.1,d))else(abN d (cN d),d)))else(abN d (aZ d),d)
theorem amR{d}(O:Fu d)(hc:(jS d).length<=1000):Pt d=some (Oy d):=by
 show oe aj d=_;unfold oe Oy;have hm:=O.m;refine yu (X9 O) ?_;refine iY (λh1=>?_) λh1=>?_
 .rw[ah h1,ai (Nl O.a (by omega))];refine du (λh2=>?_) λh2=>?_
  .rw[ah h2]
  .rw[ag h2,ai (X9 O)];refine iY (λh3=>?_) λh3=>?_
   .rw[ah h3,ai (ala hc)];refine bw λk6 F8=>?_
    refine dQ (λh=>?_) λh=>?_
    .rw[ah h];subst F8;dsimp only;rw[h];rfl
    .rw[ag h];subst F8;rfl
   .rw[ag h3]
 .rw[ag h1]
def W8(d:aK):Int×aK:=if pY d [cN d]=0 then(if(Fz (jS d) (aZ d) (cN d)).2.1=0 then(0,azJ d (Fz (jS d) (aZ d) (cN d)).1)else((Fz (jS d) (aZ d) (cN d)).2.1,d))else(pY d [cN d],d)
theorem ark{d}(O:Fu d)(hc:(jS d).length<=1000):Lo d=some (W8 d):=by
 show lJ aj d=_;unfold lJ W8;have hm:=O.m;rw[ai (CM (l:=[cN d]) O.a (by omega) (by simp))];refine iY (λh1=>?_) λh1=>?_
 .rw[ah h1,ai (alb hc)];refine bw λk6 F8=>?_
  refine dQ (λh=>?_) λh=>?_
  .rw[ah h];subst F8;dsimp only;rw[h];rfl
  .rw[ag h];subst F8;rfl
 .rw[ag h1]
theorem aqg{d}(O:Fu d):∃l e,E5 d=some ((l,e,()),d):=by
 show ∃l e,og aj d=_;unfold og;have hm:=O.m;rw[ai (AF (by omega))];show ∃l e,aj.af ((lz d).2.1 != 0) (some (([],(lz d).2.1,()),d)) (aj.ae (Pb (cK d) (lz d).1.1) _)=_;by_cases h:(lz d).2.1=0
 .rw[az (by simpa using h),ai (afW (s:=cK d) O.a O.al O.b)];exact⟨_,_,rfl⟩
 .rw[aQ (by simpa using h)];exact⟨_,_,rfl⟩
theorem axq{d}(O:Fu d):∃l e,Jg d=some ((l,e,()),d):=by
 show ∃l e,kH aj d=_;unfold kH;show ∃l e,aj.ae (L5 (dv d) (aZ d)) _=_;obtain⟨_,o2⟩:=N4 O.b (aZ d);rw[ai (Se O.b)];generalize qB (dv d) (aZ d)=v at *;refine po (X:=Int×List ar×List Int×Unit) (β:=(List Int×Int×Unit)×aK) (λo=>∃l e,o=some ((l,e,()),d)) (λz=>v.length+1-z.1.toNat) (λz=>∃(j:Nat) (acc:List Int),j<=v.length/\acc.length<=2*j/\z=((j:Int),v,acc,())) ⟨0,[],bE _,au _,rfl⟩ (by dsimp only;omega) ?_;rintro _ ⟨j,acc,hj,wX,rfl⟩ again ha;show ∃l e,aj.af (decide ((j:Int)<(v.length:Int))) (aj.aI v (j:Int) λ_=>aj.cr v (Int.toNat (j:Int)) λx5=>aj.bi (acc.length+2) 8 (again (IntKind.i64.wrap ((j:Int)+1),v,acc++[x5.1,x5.2.1],()))) (aj.ae (DE d (aZ d)) λv6=>some ((acc,v6.1,()),v6.2))=_;by_cases h:j<v.length
 .rw[dE h,bO h,iR h,dm (by omega) (by omega),cU j (by omega)];exact ha _ ⟨j+1,_,by omega,by rw[ap];simp;omega,rfl⟩ (by dsimp only;omega)
 .rw[cY (by omega),ai (Xb O.a)];exact⟨_,_,rfl⟩
theorem VY{d}(O:Fu d)(T:OkT (fN d))(S:G1 (ji d,fN d,dv d,gu d,fo d,())):∃l e,CY d=some ((l,e,()),d):=by
 show ∃l e,mV aj d=_;unfold mV;rw[ja,ai (H' O.a O.as)];cases hf:gP (bR d) (wW d)with
 |none=>exact⟨_,_,rfl⟩
 |some a=>
  have hl:=O.a.1 a (bT hf);show ∃l e,aj.af (!true) _ (aj.af (bS d==28) (aj.ae (aiX (fN d) (dv d) a (aZ d)) _) (aj.aH _ _))=_;rw[az (show(!true)=false from rfl)];by_cases h:bS d=28
  .obtain⟨v,e,h1,_⟩:=aiW (u:=aZ d) T O.b hl;rw[oO h,ai h1];exact⟨_,_,rfl⟩
  .rw[py h];obtain⟨v,e,h1,_⟩:=Ox (u:=aZ d) S hl;have c:∀k4:Int×Int×aK->Option ((List Int×Int×Unit)×aK),(aj.ae (Fw (ji d,fN d,dv d,gu d,fo d,()) a (aZ d)) λv6=>k4 (v6.1,v6.2.1,d))=k4 (v,e.1,d):=λk4=>by rw[ai h1]
   refine⟨[v],e.1,?_⟩;refine bw λk4 Vp=>?_
   have r:k4 (v,e.1,d)=some (([v],e.1,()),d):=by subst Vp;rfl
   refine jV ((c k4).trans r) ((c k4).trans r)
theorem CN{X β}{k}{f:(X->Option β)->Option β}{P:Option β->Prop}(h:∀k',k'=k->P (f k')):P (aj.aH k f):=h k rfl
theorem att{d:aK}(O:Fu d):∃l e,Ro d=some ((l,e,()),d):=by
 show ∃l e,pM aj d=_;unfold pM;have Vz:=O.pl;refine CN (P:=λo=>∃l e,o=some ((l,e,()),d)) λk6 F8=>?_
 have K:∀b:Bool,∃l e,k6 (b,())=some ((l,e,()),d):=by
  intro b;subst F8;show ∃l e,aj.ae (DE d (aZ d)) _=_;rw[ai (Xb O.a)];refine CN (P:=λo=>∃l e,o=some ((l,e,()),d)) λk5 DX=>?_
  have K5:∀c:Bool,∃l e,k5 (c,())=some ((l,e,()),d):=by
   intro c;subst DX;show ∃l e,aj.af c (some (([],Vr d (aZ d),()),d)) (aj.ae (pw (gu d) (aZ d)) _)=_;cases c with
   |true=>exact⟨_,_,rfl⟩
   |false=>rw[az rfl,ai (Jq (by omega))];exact⟨_,_,rfl⟩
  show ∃l e,aj.af (Vr d (aZ d) != 0) (k5 (!b,())) (k5 (false,()))=_;by_cases h:Vr d (aZ d)=0
  .rw[az (by simpa using h)];exact K5 _
  .rw[aQ (by simpa using h)];exact K5 _
 show ∃l e,aj.ae WN (λv7=>aj.af (dq false ((wW d==v7.1)&&(uu d==v7.2.1))) (aj.two (k6 (true,()))) (aj.two (aj.ae yf λv8=>k6 (dq false ((wW d==v8.1)&&(uu d==v8.2.1)),()))))=_;rw[ai aeU,ja,ja,ai (show yf=some SP from rfl)];cases dq false ((wW d==fU.1)&&(uu d==fU.2.1))with
 |true=>exact K _
 |false=>exact K _
theorem aac{d}(O:Fu d)(S:G1 (ji d,fN d,dv d,gu d,fo d,())):∃l e,E6 d=some ((l,e,()),d):=by
 show ∃l e,om aj d=_;unfold om;obtain⟨v,e,h1,h2,_⟩:=apX S O.a.1 O.a.2;have wX:=O.al;refine CN (P:=λo=>∃l e,o=some ((l,e,()),d)) λk6 F8=>?_
 have K:∃l e',k6 (e.1,pd d (v,()))=some ((l,e',()),d):=by
  subst F8;refine po (X:=Int×List aR×List Int×Unit) (β:=(List Int×Int×Unit)×aK) (λo=>∃l e,o=some ((l,e,()),d)) (λz=>v.length+1-z.1.toNat) (λz=>∃(j:Nat) (acc:List Int),j<=v.length/\acc.length<=3*j/\z=((j:Int),v,acc,())) ⟨0,[],bE _,au _,rfl⟩ (by dsimp only;omega) ?_;rintro _ ⟨j,acc,hj,a1v,rfl⟩ again ha;show ∃l e',aj.af (decide ((j:Int)<(v.length:Int))) (aj.aI v (j:Int) λ_=>aj.cr v (Int.toNat (j:Int)) λx5=>aj.bi (acc.length+3) 8 (again (IntKind.i64.wrap ((j:Int)+1),v,acc++[x5.1.1,x5.1.2.1,x5.2.1],()))) (some ((acc,e.1,()),d))=_;by_cases h:j<v.length
  .rw[dE h,bO h,iR h,dm (by omega) (by omega),cU j (by omega)];exact ha _ ⟨j+1,_,by omega,by rw[ap];simp;omega,rfl⟩ (by dsimp only;omega)
  .rw[cY (by omega)];exact⟨_,_,rfl⟩
 have c:(aj.ae (Qp (ji d,fN d,dv d,gu d,fo d,()) (bR d)) λv8=>k6 (v8.2.1,pd d (v8.1,())))=k6 (e.1,pd d (v,())):=by rw[ai h1]
 obtain⟨l,e',hk⟩:=K;exact⟨l,e',jV (c.trans hk) (c.trans hk)⟩
theorem aqh{d}(O:Fu d)(T:OkT (fN d))(S:G1 (ji d,fN d,dv d,gu d,fo d,())):∃l e,Pu d=some ((l,e,()),d):=by
 show ∃l e,oo aj d=_;unfold oo;have wrap:∀o:Option ((List Int×Int×Unit)×aK),(∃l e,o=some ((l,e,()),d))->∃l e,(aj.ae o λv=>some v)=some ((l,e,()),d):=by rintro _ ⟨l,e,rfl⟩;exact⟨l,e,rfl⟩
 by_cases h1:bS d=26
 .rw[aQ (by simpa using h1)];exact wrap _ (axq O)
 .rw[az (by simpa using h1)];by_cases h2:bS d=27
  .rw[aQ (by simpa using h2)];exact wrap _ (att O)
  .rw[az (by simpa using h2)];refine CN (P:=λo=>∃l e,o=some ((l,e,()),d)) λk7 I0=>?_
   have K:∀b:Bool,∃l e,k7 (b,())=some ((l,e,()),d):=by
    intro b;subst I0;show ∃l e,aj.af b (aj.ae (CY d) λv4=>some v4) (aj.af (bS d==30) (aj.ae (E6 d) λv5=>some v5) (aj.ae (E5 d) λv6=>some v6))=_;cases b with
    |true=>exact wrap _ (VY O T S)
    |false=>
     rw[az rfl];cases(bS d==30)with
     |true=>exact wrap _ (aac O S)
     |false=>exact wrap _ (aqg O)
   refine CN (P:=λo=>∃l e,o=some ((l,e,()),d)) λk9 RC=>?_
   subst RC;dsimp only;cases(bS d==28)with
   |true=>exact K _
   |false=>exact K _
def atJ(d:aK)(n:List Int):aK:=U27 d (n,d.2.2.2.2.2.2.2.2.2.2.2.2.2.2.2.2.2.2.2.2.2.2.2.2.2.2.2.2)
theorem av8{d}(O:Fu d)(T:OkT (fN d))(S:G1 (ji d,fN d,dv d,gu d,fo d,())):∃e d',UQ d=some (e,d')/\cK d'=cK d/\(e=0->∃n,d'=atJ d n):=by
 show ∃e d',qJ aj d=_/\_;unfold qJ;obtain⟨l,e,h⟩:=aqh O T S;rw[ai h,xk];by_cases h0:e=0
 .rw[aQ (by simpa using h0)];exact⟨_,_,rfl,rfl,λ_=>⟨l,rfl⟩⟩
 .rw[az (by simpa using h0)];exact⟨e,d,rfl,rfl,λq=>absurd q h0⟩
def Bf(d:aK):List aR×Int×Unit:=Ae (fN d) (dv d) (gu d)
def J4(d:aK):List aR×Int×Unit:=Ae (fN d) (fW d) (Bf d).1
def afc(d:aK):aK:=(gw d+1,fi d,(fN d).map Bg,U24 (VX d (J4 d).1).2.2.2 ([gw d+1],auI d,auJ d,()))
def afd(d:aK):Int×aK:=if 1048576<=gw d then(25,d)else(if(Bf d).2.1=0 then(if(J4 d).2.1=0 then F' 5 (yI (cx d) λg=>decide (g.2.2.2.2.2.2.1<gw d+1)) (afc d)else((J4 d).2.1,VX d (Bf d).1))else((Bf d).2.1,d))
theorem av1{d}(O:Fu d)(hd:0<=gw d)(hI:VF (fN d))(hs:okB (fW d))(h1:(Bf d).2.1=0->u7 (Bf d).1/\(Bf d).1.length<=1000)(h2:(Bf d).2.1=0->(J4 d).2.1=0->Fu (afc d)):G8 d=some (afd d):=by
 show qK aj d=_;unfold qK afd;have Vz:=O.pl;have hv:=O.v;by_cases h0:1048576<=gw d
 .rw[aQ (aq h0),ah h0]
 .rw[az (an h0),ag h0];have hw:IntKind.i64.wrap (gw d+1)=gw d+1:=bI _ (by omega);refine iH (β:=Int×aK) (λz=>3-z.1.toNat) (λz=>(z=(0,pd d ([dv d,fW d],())))\/(z=(1,pd (VX d (Bf d).1) ([dv d,fW d],()))/\(Bf d).2.1=0)\/(z=(2,pd (VX d (J4 d).1) ([dv d,fW d],()))/\(Bf d).2.1=0/\(J4 d).2.1=0)) (λz=>some (if(Bf d).2.1=0 then(if(J4 d).2.1=0 then F' 5 (yI (cx d) λg=>decide (g.2.2.2.2.2.2.1<gw d+1)) (afc d)else((J4 d).2.1,VX d (Bf d).1))else((Bf d).2.1,d))) (.inl rfl) (by dsimp only;omega) ?_;rintro _ (rfl|⟨rfl,e1⟩|⟨rfl,e1,e2⟩) again ha
  .show aj.ae (HA (fN d) (dv d) (gu d)) _=_;rw[ai (adq hI O.b O.p (by omega))];show aj.af ((Bf d).2.1 != 0) (some ((Bf d).2.1,d)) (again (1,pd (VX d (Bf d).1) ([dv d,fW d],())))=_;refine iY (λc=>?_) λc=>?_
   .exact ha _ (.inr (.inl ⟨rfl,c⟩)) (by dsimp only;decide)
   .rw[ag c]
  .obtain⟨f1,f2⟩:=h1 e1;show aj.ae (HA (fN d) (fW d) (Bf d).1) _=_;rw[ai (adq hI hs f1 f2)];show aj.af ((J4 d).2.1 != 0) (some ((J4 d).2.1,VX d (Bf d).1)) (again (2,pd (VX d (J4 d).1) ([dv d,fW d],())))=_;refine iY (λc=>?_) λc=>?_
   .exact ha _ (.inr (.inr ⟨rfl,e1,c⟩)) (by dsimp only;decide)
   .rw[ah e1,ag c]
  .show aj.ae (Ql (fN d)) (λv6=>aj.ae (X3 (cx d) (IntKind.i64.wrap (gw d+1))) λv7=>aj.ae (tO (IntKind.i64.wrap (gw d+1),fi d,v6,U24 (VX d (J4 d).1).2.2.2 ([IntKind.i64.wrap (gw d+1)],auI d,auJ d,())) v7 5) λv8=>some v8)=_;rw[hw,ai (adJ O.i),ai (apH (by omega)),ah e1,ah e2];show aj.ae (tO (afc d) _ 5) _=_;rw[ai (ah6 (h2 e1 e2) (cp (Em _ _) (by omega)))]
def afe(d:aK):Int×aK:=if(Mt (cK d) (aZ d)).2.2.1=0 then(0,yb (Mt (cK d) (aZ d)).1 (U15 d.2.2.2.2.2.2.2.2.2.2.2.2 ([(Mt (cK d) (aZ d)).2.1.1,(Mt (cK d) (aZ d)).2.1.2.1],d.2.2.2.2.2.2.2.2.2.2.2.2.2.2.2.2.2.2.2.2.2.2.2.2.2.2.2.2)))else((Mt (cK d) (aZ d)).2.2.1,d)
theorem arl{d}(O:OkP (cK d)):Rp d=some (afe d):=by
 show pN aj d=_;unfold pN;have e0:=awT O (aZ d);refine jV ?_ ?_
 .rw[ai e0,ja,xk];unfold afe;refine dQ (λh=>?_) λh=>?_
  .rw[ja,ah h,h]
  .rw[ag h]
 .rw[ja,ja,ai e0,xk];unfold afe;refine dQ (λh=>?_) λh=>?_
  .rw[ja,ah h,h]
  .rw[ag h]
def UR(d:aK)(s:aV):aK:=yb s d.2.2.2.2.2.2.2.2.2.2.2.2
def Gx(d:aK):aW×Int×Unit:=if(lz d).2.1=0 then aiU (lz d).1 (gw d)else lz d
def uT(d:aK):Int×aK:=if(Gx d).2.1=0 then Bd d (Gx d).1 else((Gx d).2.1,d)
def abP(d:aK):Int×aK:=if(uT d).1=0 then(if(JH (cK (uT d).2) (Gx d).1.1).2.1=0 then(0,UR (uT d).2 (JH (cK (uT d).2) (Gx d).1.1).1)else((JH (cK (uT d).2) (Gx d).1.1).2.1,(uT d).2))else uT d
theorem atu(d):dv (uT d).2=dv d/\fW (uT d).2=fW d/\bR (uT d).2=bR d:=by
 unfold uT Bd;split
 .split<;>exact⟨rfl,rfl,rfl⟩
 .exact⟨rfl,rfl,rfl⟩
theorem av6{d}(O:Fu d)(hs:okB (fW d))(hbs:(dv d).length+(fW d).length<=90):HH d=some (abP d):=by
 show jY aj d=_;unfold jY;have hm:=O.m;obtain⟨b1,b2,b3⟩:=atu d;rw[ai (AF (by omega))];refine bw λRx azK=>?_
 have K:Rx ((Gx d).2.1,(Gx d).1)=some (abP d):=by
  subst azK;refine bw λva OA=>?_
  have K10:va (uT d)=some (abP d):=by
   subst OA;show aj.af ((uT d).1 != 0) (some (uT d)) (aj.two (aj.ae (JI (cK (uT d).2) (Gx d).1.1) _))=_;unfold abP;by_cases h:(uT d).1=0
   .have e:JI (cK (uT d).2) (Gx d).1.1=some (JH (cK (uT d).2) (Gx d).1.1):=aqz (by show rC (bR (uT d).2);rw[b3];exact O.a) (by show okB (dv (uT d).2);rw[b1];exact O.b) (by show okB (fW (uT d).2);rw[b2];exact hs) (by show(dv (uT d).2).length+(fW (uT d).2).length<=90;rw[b1,b2];exact hbs);rw[az (by simpa using h),ah h,ja,ai e,xk];refine dQ (λh2=>?_) λh2=>?_
    .rw[ah h2,h2];rfl
    .rw[ag h2]
   .rw[aQ (by simpa using h),ag h]
  clear OA;refine dQ (λh=>?_) λh=>?_
  .rw[ai (YQ O)];have e:Bd d (Gx d).1=uT d:=by unfold uT;rw[ah h]
   rw[e];exact K10
  .have e:((Gx d).2.1,d)=uT d:=by unfold uT;rw[ag h]
   rw[e];exact K10
 clear azK;show aj.af ((lz d).2.1==0) (aj.ae (UD (lz d).1 (gw d)) λIb=>Rx (Ib.2.1,Ib.1)) (Rx ((lz d).2.1,(lz d).1))=_;by_cases h:(lz d).2.1=0
 .have e:Gx d=aiU (lz d).1 (gw d):=by unfold Gx;rw[ah h]
  rw[aQ (by simpa using h),ai (apL _ _),<-e];exact K
 .have e:Gx d=lz d:=by unfold Gx;rw[ag h]
  rw[e]at K;rw[az (by simpa using h)];exact K
def Sc(s:aV)(u:ar):Int:=
 match gP s.2.2.2.2.1 u.1 with
 |none=>11
 |some a=>if AN a u=true then(if a.2.2.1=1 then(match mG s.2.1 a.2.1 with|none=>15|some m=>if m.2.2.1=0 then 0 else 15)else 17)else 11
def ajm(all je:Int):Bool:=decide (0<je/\je<=all)||decide (je<0/\all<=je)
def Dk(s:aV)(u to:ar)(id je fg:Int):Int:=
 if(tn (bk s)=true/\tn (sa s)=true)/\ya (pu s)=true then(
  match pq s.2.2.1 id with
  |none=>11
  |some _=>if je=0\/fg<0\/2147483647<fg then 2 else if ajm (gx (qB (sa s) u) id) je=true then Sc s to else 23)else 3
def agZ(s:aV)(u to:ar)(id je g:Int):aV×Int×Unit:=if(fD (sa s) u [(id,-je,())]).2.1=0 then(if(fD (bk s) to [(id,je,())]).2.1=0 then(if(jh (pu s) u to g).2.1=0 then(auO s (fD (bk s) to [(id,je,())]).1 (fD (sa s) u [(id,-je,())]).1 (jh (pu s) u to g).1,0,())else(JG,(jh (pu s) u to g).2.1,()))else(JG,(fD (bk s) to [(id,je,())]).2.1,()))else(JG,(fD (sa s) u [(id,-je,())]).2.1,())
def D0(s:aV)(u to:ar)(id je fg:Int):aV×Int×Unit:=
 if Dk s u to id je fg=0 then(
  match pq s.2.2.1 id with
  |none=>(JG,11,())
  |some i=>if cu (gZ i je fg i.2.2.1)then(if cu (-je)then agZ s u to id je (gZ i je fg i.2.2.1)else(JG,7,()))else(JG,7,()))
 else(JG,Dk s u to id je fg,())
theorem al0{s}{u to}{id je fg e}(h:Dk s u to id je fg=e)(he:e≠0):D0 s u to id je fg=(JG,e,()):=by unfold D0;rw[h,ag he]
theorem aha{s}{u to}{id je fg}{i}(h:Dk s u to id je fg=0)(hi:pq s.2.2.1 id=some i):
 D0 s u to id je fg=if cu (gZ i je fg i.2.2.1)then(if cu (-je)then agZ s u to id je (gZ i je fg i.2.2.1)else(JG,7,()))else(JG,7,()):=by
 unfold D0;rw[ah h,hi]
theorem aaS{s}{u to}{id je fg}(h:Dk s u to id je fg=0):((tn (bk s)=true/\tn (sa s)=true)/\ya (pu s)=true)/\(∃i,pq s.2.2.1 id=some i)/\(je≠0/\0<=fg/\fg<=2147483647)/\ajm (gx (qB (sa s) u) id) je=true/\Sc s to=0:=by
 unfold Dk at h;split at h
 .rename_i h1;refine⟨h1,?_⟩;split at h
  .cases h
  .rename_i i hi;split at h
   .cases h
   .rename_i h2;split at h
    .rename_i h3;exact⟨⟨i,hi⟩,⟨by omega,by omega,by omega⟩,h3,h⟩
    .cases h
 .cases h
theorem Sd{t}{id}{i}(h:pq t id=some i):i∈t/\i.1=id:=by unfold pq at h;exact⟨bT h,by simpa using jP h⟩
theorem ajn{t}{id}{i}(h:gP t id=some i):i∈t/\i.1=id:=by unfold gP at h;exact⟨bT h,by simpa using jP h⟩
structure OkF(s:aV):Prop where
 iT:aq0 s.2.2.1
 mL:s.2.1.length<=1000
 aA:rC s.2.2.2.2.1
 aS:Yo s.2.2.2.2.1
 hb:okB (bk s)
 hs:okB (sa s)
 bl:(bk s).length<=64
 sl:(sa s).length<=64
 pf:u7 (pu s)
 pl:(pu s).length<=94
theorem OkF.inst{s}(F:OkF s){id}{i}(h:pq s.2.2.1 id=some i):Rw i/\i.2.2.2.2.1.length<=1000000/\1<=id/\id<=8:=by obtain⟨h1,h2⟩:=Sd h;have hc:=F.iT.1 _ h1;have h3:=hc.1;have h4:=hc.2.2.2.2.1;exact⟨hc,by omega,by omega,by omega⟩
theorem ahb{s}(F:OkF s){id}:WB s.2.2.1 id=some (match pq s.2.2.1 id with|some i=>(i,true,())|none=>(al1,false,())):=Yp (by have:=F.iT.2;omega) λi hi=>by have:=(F.iT.1 i hi).2.2.2.2.1;omega
theorem auR(all je):al2 all je=some (ajm all je):=by
 show D1 aj all je=_;unfold D1 ajm;refine du (λh1=>?_) λh1=>?_
 .refine du (λh2=>?_) λh2=>?_
  .simp[h1,h2]
  .rw[cY (by omega)];congr 1;rw[an (by omega),an (by omega)];rfl
 .refine du (λh3=>?_) λh3=>?_
  .simp[h1,h3]
  .simp[h1,h3]
theorem aq1{s}(F:OkF s)(u):aeG s u=some (Sc s u):=by
 show yw aj s u=_;unfold yw Sc;rw[ai (H' F.aA F.aS)];cases hc:gP s.2.2.2.2.1 u.1 with
 |none=>exact zr true (λk=>aQ (by rfl) _ _) rfl
 |some a=>
  have ha:=F.aA.1 _ (ajn hc).1;refine zr (!(AN a u)) (λk=>?_) ?_
  .refine AP (by rfl) ?_;rw[ai (R9 ha)]
  .show aj.af (!(AN a u)) (some (11:Int)) (aj.af (a.2.2.1 != 1) (some (17:Int)) (aj.ae (yv s.2.1 a.2.1) _))=some (if AN a u=true then(if a.2.2.1=1 then(match mG s.2.1 a.2.1 with|none=>(15:Int)|some m=>if m.2.2.1=0 then 0 else 15)else 17)else 11);by_cases h1:AN a u=true
   .rw[h1,az (by rfl),ah rfl];refine iY (λh2=>?_) λh2=>?_
    .rw[ah h2,ai (ur (by have:=F.mL;omega))];cases hm:mG s.2.1 a.2.1 with
     |none=>rfl
     |some m=>
      show aj.af (!true) _ (aj.ae (qe m) _)=_
      have e:qe m=some (if m.2.2.1=0 then 0 else 15):=by
       show iQ aj m=_;unfold iQ;refine iY (λh3=>?_) λh3=>?_
       .rw[ah h3]
       .rw[ag h3]
      rw[az (by rfl),ai e]
    .rw[ag h2]
   .have h1:AN a u=false:=by simpa using h1
    rw[h1];rfl
theorem ajo{s}(F:OkF s)(u to)(id je fg):aeH s u to id je fg=some (Dk s u to id je fg):=by
 show yx aj s u to id je fg=_;unfold yx Dk;have Vz:=F.pl;have ep:L4 s.2.2.2.2.2.2.2.2.2.2.1=some (ya (pu s)):=aaT (by show(pu s).length<=_;omega);rw[ai (ahb F)];refine zr (!((tn (bk s)&&tn (sa s))&&ya (pu s))) (λk=>?_) ?_
 .refine yu (agY F.hb F.hs) ?_;cases tn (bk s)&&tn (sa s)with
  |false=>rfl
  |true=>rw[az (by rfl),ai ep];rfl
 .show aj.af (!((tn (bk s)&&tn (sa s))&&ya (pu s))) (some 3) _=_;by_cases hB:(tn (bk s)=true/\tn (sa s)=true)/\ya (pu s)=true
  .rw[ah hB,hB.1.1,hB.1.2,hB.2,az (by rfl)];cases hi:pq s.2.2.1 id with
   |none=>rfl
   |some i=>
    refine AP (by rfl) ?_;refine zr (decide (je=0\/fg<0\/2147483647<fg)) (λk=>?_) ?_
    .refine dQ (λh1=>?_) λh1=>?_
     .rw[aq (.inl h1)]
     .refine du (λh2=>?_) λh2=>?_
      .rw[aq (.inr (.inl h2))]
      .congr 2;exact eF.2 ⟨λh=>.inr (.inr h),λh=>by omega⟩
    .show aj.af (decide (je=0\/fg<0\/2147483647<fg)) (some 2) (aj.ae (L5 (sa s) u) _)=_;refine du (λh1=>?_) λh1=>?_
     .rw[ah h1]
     .rw[ag h1,ai (Se F.hs)];obtain⟨_,o2⟩:=N4 F.hs u;rw[ai (al3 (by omega)),ai (auR _ _)];by_cases h3:ajm (gx (qB (sa s) u) id) je=true
      .rw[h3,az (by rfl),ai (aq1 F to)];rfl
      .have h3:ajm (gx (qB (sa s) u) id) je=false:=by simpa using h3
       rw[h3,aQ (by rfl)];rfl
  .have hB':((tn (bk s)&&tn (sa s))&&ya (pu s))=false:=by cases h1:tn (bk s)<;>cases h2:tn (sa s)<;>cases h3:ya (pu s)<;>simp_all
   rw[ag hB,hB',aQ (by rfl)]
theorem aeI{k q}(hk:1<=k/\k<=8)(hq:q≠0)(hI:cu q)(hI2:¬cu (-q)):Yq [(k,q,())]=some ([],7,()):=by
 show tp aj [(k,q,())]=_;unfold tp;have hv:Fk [(k,q,())]=true:=aq ⟨λx hx=>by simp only[aC]at hx;subst hx;exact⟨hk,hq⟩,by simp⟩;rw[ai (Sf (l:=[(k,q,())]) (by simp)),hv,az (by rfl)];have e:=JM (a:=0) (b:=q) (by unfold cu;omega) hI;rw[As]at e;unfold cZ at e;rw[ag hI2]at e;refine ni (l:=[(k,q,())]) (s0:=()) (by simp) (λi (_:Unit)=>((i:Int),([]:List pW),())) (λi _=>i=0) (λ_ _=>some ([],7,())) rfl rfl ?_ ?_
 .intro _ h;simp at h
 .intro i hi _ h0 again _;subst h0;show aj.af (decide ((0:Int)<1)) (aj.aI [(k,q,())] ((0:Nat):Int) _) _=_;rw[aQ (by decide),bO (by simp)];refine yu e ?_;rw[aQ (by rfl)]
def auS(s:aV)(a:List bC):aV:=(s.1,s.2.1,s.2.2.1,s.2.2.2.1,s.2.2.2.2.1,s.2.2.2.2.2.1,s.2.2.2.2.2.2.1,s.2.2.2.2.2.2.2.1,s.2.2.2.2.2.2.2.2.1,a,s.2.2.2.2.2.2.2.2.2.2)
def al4(s:aV)(b:List bC):aV:=(s.1,s.2.1,s.2.2.1,s.2.2.2.1,s.2.2.2.2.1,s.2.2.2.2.2.1,s.2.2.2.2.2.2.1,s.2.2.2.2.2.2.2.1,b,s.2.2.2.2.2.2.2.2.2)
def auT(s:aV)(p:List aR):aV:=(s.1,s.2.1,s.2.2.1,s.2.2.2.1,s.2.2.2.2.1,s.2.2.2.2.2.1,s.2.2.2.2.2.2.1,s.2.2.2.2.2.2.2.1,s.2.2.2.2.2.2.2.2.1,s.2.2.2.2.2.2.2.2.2.1,p,s.2.2.2.2.2.2.2.2.2.2.2)
abbrev SLf:=Int×List aW×List bF×List bf×List aD×List bz×List bP×List bZ×List bC×List bC×List aR×List bg×List ar×Unit
abbrev auU(s:aV)(v:List ar):SLf:=yb s (v,())
abbrev auV(z:SLf):aV:=yb z ()
theorem aq2{s}(F:OkF s)(u to)(id je fg:Int)(hq:cu je):ajp s u to id je fg=some (D0 s u to id je fg):=by
 show AQ aj s u to id je fg=_;unfold AQ;have Vz:=F.pl;have u9:=F.bl;have hsl:=F.sl;rw[ai (ajo F u to id je fg)];by_cases hc:Dk s u to id je fg=0
 .obtain⟨hB,⟨i,hi⟩,⟨c1,c2,c3⟩,_,_⟩:=aaS hc;obtain⟨i1,i2,i3,i4⟩:=F.inst hi;rw[iZ hc,ai (ahb F),hi,aha hc hi];refine yu (ahc i2 i1 hq ⟨c2,c3⟩ i1.2.2.1) ?_;generalize gZ i je fg i.2.2.1=g at *;unfold cZ;by_cases hg:cu g
  .rw[ah hg,ah hg,az (by rfl)];have k8:∀(k:Int×aV->Option (aV×Int×Unit)),(k=λz7=>aj.af (z7.1 != 0) (some (JG,z7.1,())) (some (z7.2,0,())))->(∀st,k (0,st)=some (st,0,()))/\∀e,e≠0->∀st,k (e,st)=some (JG,e,()):=by intro k hk;subst hk;exact⟨λst=>rfl,λe he st=>fV he _ _⟩
   have va:∀(k:Int×aV->Option (aV×Int×Unit)),(k=λz6=>aj.aH (λz7:Int×aV=>aj.af (z7.1 != 0) (some (JG,z7.1,())) (some (z7.2,0,()))) λk8=>aj.af (z6.1==0) (aj.ae (rD (pu z6.2) u to g) λv9=>k8 (v9.2.1,auT z6.2 v9.1)) (k8 z6))->
    (∀st,pu st=pu s->k (0,st)=some (if(jh (pu s) u to g).2.1=0 then(auT st (jh (pu s) u to g).1,0,())else(JG,(jh (pu s) u to g).2.1,())))/\∀e,e≠0->∀st,k (e,st)=some (JG,e,()):=by
    intro k hk;subst hk;refine⟨λst NY=>?_,λe he st=>?_⟩
    .refine bw λk hk=>?_
     obtain⟨a1,a2⟩:=k8 k hk;refine VA (by rfl) ?_;rw[NY,ai (N5 F.pf hg (by omega))];by_cases h:(jh (pu s) u to g).2.1=0
     .rw[ah h,h,a1]
     .rw[ag h,a2 _ h]
    .refine bw λk hk=>?_
     obtain⟨a1,a2⟩:=k8 k hk;refine tqn he ?_;rw[a2 _ he]
   have bad:∀Rx:Int×SLf->Option (aV×Int×Unit),(Rx=λz5=>aj.aH (λz6:Int×aV=>aj.aH (λz7:Int×aV=>aj.af (z7.1 != 0) (some (JG,z7.1,())) (some (z7.2,0,()))) λk8=>aj.af (z6.1==0) (aj.ae (rD (pu z6.2) u to g) λv9=>k8 (v9.2.1,auT z6.2 v9.1)) (k8 z6)) λva=>aj.af (z5.1==0) (aj.ae (xi (bk (auV z5.2)) to z5.2.2.2.2.2.2.2.2.2.2.2.2.2.1) λv11=>va (v11.2.1,al4 (auV z5.2) v11.1)) (va (z5.1,auV z5.2)))->∀e,e≠0->∀st v,Rx (e,auU st v)=some (JG,e,()):=by
    intro Rx Sg e he st v;subst Sg;refine bw λk hk=>?_
    obtain⟨a1,a2⟩:=va k hk;refine tqn he ?_;rw[a2 _ he]
   by_cases hn:cu (-je)
   .rw[ah hn,ai (al5 ⟨i3,i4⟩ c1 hq hn)];refine bw λRx Sg=>?_
    show aj.af true (aj.ae (xi (sa s) u [(id,-je,())]) λIb=>Rx (Ib.2.1,auU (auS s Ib.1) [(id,je,())])) _=_;rw[aQ (by rfl),ai (Fo F.hs (by omega) (aq3 hn) (by simp))];unfold agZ;by_cases h1:(fD (sa s) u [(id,-je,())]).2.1=0
    .rw[ah h1,h1];subst Sg;refine bw λk hk=>?_
     obtain⟨a1,a2⟩:=va k hk;show aj.af true (aj.ae (xi (bk s) to [(id,je,())]) λv11=>k (v11.2.1,al4 (auS s (fD (sa s) u [(id,-je,())]).1) v11.1)) _=_;rw[aQ (by rfl),ai (Fo F.hb (by omega) (aq3 hq) (by simp))];by_cases h2:(fD (bk s) to [(id,je,())]).2.1=0
     .rw[ah h2,h2,a1 (al4 (auS s (fD (sa s) u [(id,-je,())]).1) (fD (bk s) to [(id,je,())]).1) rfl];rfl
     .rw[ag h2,a2 _ h2]
    .rw[ag h1,bad Rx Sg _ h1]
   .rw[ag hn,ai (aeI ⟨i3,i4⟩ c1 hq hn)];refine bw λRx Sg=>?_
    show aj.af false _ (Rx (7,auU s [(id,je,())]))=_;rw[az (by rfl),bad Rx Sg 7 (by decide)]
  .rw[ag hg,ag hg,aQ (by rfl)];rfl
 .rw[fV hc,al0 rfl hc];rfl
def Xa(d:aK):aV×Int×Unit:=D0 (cK d) (aZ d) (cN d) (jy d) (dR d) (lR d)
def abQ(d:aK):Int×aK:=if Vr d (aZ d)=0 then(if(Ej d (aZ d)).2.2.1=2 then(if(Xa d).2.1=0 then(aec (UR d (Xa d).1) [cN d],UR d (Xa d).1)else((Xa d).2.1,d))else(13,d))else(Vr d (aZ d),d)
theorem arh{d}(O:Fu d)(F:OkF (cK d))(h:(Xa d).2.1=0->okB (dv (UR d (Xa d).1))/\bR (UR d (Xa d).1)=bR d/\fi (UR d (Xa d).1)=fi d):Gc d=some (abQ d):=by
 show j4 aj d=_;unfold j4 abQ;have hm:=O.m;refine yu (Xb O.a) ?_;refine iY (λh1=>?_) λh1=>?_
 .rw[ah h1,ai (Nl O.a (by omega))];refine iY (λh2=>?_) λh2=>?_
  .rw[ah h2,ja,ai (aq2 F _ _ _ _ _ O.q)];show aj.af ((Xa d).2.1 != 0) (some ((Xa d).2.1,d)) (aj.ae (HF (UR d (Xa d).1) [cN d]) _)=_;by_cases h3:(Xa d).2.1=0
   .obtain⟨b1,b2,b3⟩:=h h3;rw[iZ h3,ah h3,ai (ag0 (l:=[cN d]) (by rw[b2];exact O.a) (by rw[b2];exact O.al) (by rw[b3];omega) b1 (by simp))]
   .rw[fV h3,ag h3]
  .rw[ag h2]
 .rw[ag h1]
structure QN(N:ar->Prop)(p:List aR):Prop where
 i:ya p=true
 f:u7 p
 n:∀x∈p,N x.1
structure LV(N:ar->Prop)(A:Int->Prop)(h:List bg):Prop where
 i:DY h=true
 f:∀x∈h,uS x.2.1
 n:∀x∈h,N x.1
 a:∀x∈h,∀y∈x.2.1,A y.1
structure LW(N:ar->Prop)(K:Int->Prop)(b:List bC):Prop where
 i:tn b=true
 o:∀p∈b,Vq p.2.1
 n:∀p∈b,N p.1
 k:∀p∈b,∀x∈p.2.1,K x.1
theorem J0{α}[DecidableEq α]:∀{l U:List α},l.Nodup->(∀x∈l,x∈U)->l.length<=U.length
 |[],_,_,_=>bE _
 |x::l,U,hn,h=>by
  obtain⟨h1,h2⟩:=gb.1 hn;have hx:=h x (by simp);have:=J0 (l:=l) (U:=U.erase x) h2 λy hy=>(List.mem_erase_of_ne λe=>h1 (by rw[<-e];exact hy)).2 (h y (by simp[hy]))
  rw[List.length_erase_of_mem hx]at this;have hp:=List.length_pos_of_mem hx;simp only[aJ];omega
theorem QN.nil(N):QN N []:=⟨aq ⟨λ_ h=>(by cases h),List.Pairwise.nil⟩,λ_ h=>(by cases h),λ_ h=>(by cases h)⟩
theorem QN.mono{N M}{p:List aR}(P:QN N p)(h:∀u,N u->M u):QN M p:=⟨P.i,P.f,λx hx=>h _ (P.n x hx)⟩
theorem LV.mono{N M}{A B}{p:List bg}(P:LV N A p)(h:∀u,N u->M u)(g:∀k,A k->B k):LV M B p:=⟨P.i,P.f,λx hx=>h _ (P.n x hx),λx hx y hy=>g _ (P.a x hx y hy)⟩
theorem LW.mono{N M}{K L}{p:List bC}(P:LW N K p)(h:∀u,N u->M u)(g:∀k,K k->L k):LW M L p:=⟨P.i,P.o,λx hx=>h _ (P.n x hx),λx hx y hy=>g _ (P.k x hx y hy)⟩
theorem QN.pay{N}{p fl:List aR}(P:QN N p)(hf:∀x∈fl,N x.1)(h:(rI p fl).2.1=0):QN N (rI p fl).1:=by obtain⟨h1,h2,h3⟩:=RF h;refine⟨by rw[h2];exact RJ (xr _),aht h,λx hx=>?_⟩;rw[h2]at hx;obtain⟨u,hu,rfl⟩:=aN.1 hx;obtain⟨y,hy,e⟩:=(Io _ _).1 (aM.1 hu).1;rw[<-e];exact(aT.1 hy).elim (P.n y) (hf y)
theorem QN.move{N}{p}{f t}{n:Int}(P:QN N p)(hf:N f)(ht:N t)(h:(jh p f t n).2.1=0):QN N (jh p f t n).1:=by
 obtain⟨_,e⟩:=abu h;rw[e]at h ⊢;refine P.pay (λx hx=>?_) h;simp only[aF,dV,lO]at hx;rcases hx with rfl|rfl
 .exact hf
 .exact ht
theorem QN.settle{N}{t}{l:List bC}{p:List aR}(P:QN N p)(hl:∀x∈l,N x.1)(h:(Ae t l p).2.1=0):QN N (Ae t l p).1:=by obtain⟨_,h2,e⟩:=aj7 h;rw[e]at h ⊢;refine P.pay (λx hx=>?_) h;obtain⟨_,h3,_⟩:=aby h2;rw[h3]at hx;obtain⟨q,hq,rfl⟩:=aN.1 hx;exact hl q (aM.1 hq).1
theorem QN.len{N}{p}(P:QN N p){U:List ar}(h:∀u,N u->u∈U):p.length<=U.length:=by
 have:=J0 (l:=p.map (·.1)) (U:=U) (YI P.i) λx hx=>by obtain⟨y,hy,rfl⟩:=aN.1 hx;exact h _ (P.n y hy)
 rwa [bh]at this
theorem LW.len{N}{K}{p:List bC}(P:LW N K p){U:List ar}(h:∀u,N u->u∈U):p.length<=U.length:=by
 have:=J0 (l:=p.map (·.1)) (U:=U) (amr (bM P.i:GX p).2) λx hx=>by obtain⟨y,hy,rfl⟩:=aN.1 hx;exact h _ (P.n y hy)
 rwa [bh]at this
theorem LV.len{N}{K}{p:List bg}(P:LV N K p){U:List ar}(h:∀u,N u->u∈U):p.length<=U.length:=by
 have:=J0 (l:=p.map (·.1)) (U:=U) (avu (bM P.i:YG p).2) λx hx=>by obtain⟨y,hy,rfl⟩:=aN.1 hx;exact h _ (P.n y hy)
 rwa [bh]at this
theorem axI{l}(h:zw l):l.length<=8:=by
 have:=J0 (l:=l.map (·.1)) (U:=ks) (wE (λ{a b} (hab:a<b)=>Int.ne_of_lt hab) h.2) λx hx=>by obtain⟨y,hy,rfl⟩:=aN.1 hx;have:=(h.1 y hy).1;unfold ks;simp only[aF,dV,lO];omega
 rwa [bh]at this
theorem LW.okB{N}{K}{b:List bC}(P:LW N K b)(h:b.length<=100):okB b:=⟨λp hp=>⟨P.o p hp,by have:=axI ((bM P.i:GX b).1 p hp).2;omega⟩,h⟩
theorem LV.lc{N}{K}{b:List bg}(P:LV N K b)(h:b.length<=400000):lc b:=⟨P.f,h⟩
theorem LW.of{N}{K}{b:List bC}(P:LW N K b)(u:ar):∀x∈qB b u,K x.1:=by
 have:∀l:List bC,(∀p∈l,∀x∈p.2.1,K x.1)->∀x∈qB l u,K x.1:=by
  intro l;induction l with
  |nil=>intro _ x hx;cases hx
  |cons p l ih=>
   intro h;rw[qB];split
   .exact h p (by simp)
   .exact ih λq hq=>h q (by simp[hq])
 exact this b P.k
theorem abz{l}{k}(h:gx l k≠0):∃x∈l,x.1=k:=cQ λhn=>h (Ip λx hx e=>hn ⟨x,hx,e⟩)
theorem LW.shift{N}{K}{b}(P:LW N K b){u:ar}{eT:List pW}(hu:N u)(hk:∀x∈eT,K x.1)(h:(fD b u eT).2.1=0):LW N K (fD b u eT).1:=by
 have S:=qA h;unfold fD at h ⊢;rw[ah P.i]at h ⊢;by_cases he:(wM [qB b u,eT]).2.1=0;case neg=>rw[ag he]at h;exact absurd h he
 rw[ah he];obtain⟨_,h2,h3,_⟩:=RK he;refine⟨aq ?_,λp hp=>?_,λp hp=>?_,λp hp=>?_⟩
 .exact ams (bM P.i) u (by rw[h2];exact YJ _)
 .rcases vr.1 hp with⟨h5,_⟩|⟨_,rfl⟩
  .exact P.o p h5
  .intro x hx;have hx:=hx;rw[h2]at hx;obtain⟨v,hv,rfl⟩:=aN.1 hx;exact h3 v (aM.1 hv).1
 .rcases vr.1 hp with⟨h5,_⟩|⟨_,rfl⟩
  .exact P.n p h5
  .exact hu
 .rcases vr.1 hp with⟨h5,_⟩|⟨_,rfl⟩
  .exact P.k p h5
  .intro x hx;have hx:=hx;rw[h2]at hx;obtain⟨v,hv,rfl⟩:=aN.1 hx;have hs:=(aM.1 hv).2;simp only[bb]at hs;rw[amu]at hs;by_cases h6:gx (qB b u) v=0
   .obtain⟨y,hy,e⟩:=abz (l:=eT) (k:=v) (by omega);rw[<-e];exact hk y hy
   .obtain⟨y,hy,e⟩:=abz h6;rw[<-e];exact P.of u y hy
theorem LW.axJ{N}{K}{b:List bC}(P:LW N K b){f t:ar}{k q:Int}(hf:N f)(ht:N t)(hk:K k)(h:(zL b f t k q).2.1=0):LW N K (zL b f t k q).1:=by
 unfold zL at h ⊢;rw[ah P.i]at h ⊢;by_cases he:(fD b f [(k,-q,())]).2.1=0;case neg=>rw[ag he]at h;exact absurd h he
 rw[ah he]at h ⊢;have one:∀n:Int,∀x∈([(k,n,())]:List pW),K x.1:=λn x hx=>by rw[aC.1 hx];exact hk
 exact(P.shift hf (one _) he).shift ht (one _) h
theorem LW.Jr{N}{K}{b:List bC}(P:LW N K b){f t:ar}{eT:List pW}(hf:N f)(ht:N t)(hk:∀x∈eT,K x.1)(h:(Jr b f t eT).2.1=0):LW N K (Jr b f t eT).1/\(Jr b f t eT).1.length<=b.length+2/\∀j,lu (Jr b f t eT).1 j=lu b j:=by
 unfold Go.Proofs.YthghpahghjppjaaGreat.Jr at h ⊢;rw[ah P.i]at h ⊢;by_cases hn:(I3 eT).2.1=0;case neg=>rw[ag hn]at h;exact absurd h hn
 rw[ah hn]at h ⊢;obtain⟨_,n2,_⟩:=ahw hn;rw[n2]at h ⊢;by_cases he:(fD b f (Sz eT)).2.1=0;case neg=>rw[ag he]at h;exact absurd h he
 rw[ah he]at h ⊢;have S:=qA he;have T:=qA h;refine⟨(P.shift hf (λx hx=>?_) he).shift ht hk h,by have:=S.len;have:=T.len;omega,λj=>?_⟩
 .obtain⟨y,hy,rfl⟩:=aN.1 hx;exact hk y hy
 .rw[T.opn,S.opn,ab0];omega
theorem GY{N}{K:Int->Prop}(own:ar->Bool):∀(l pp stays:List bC),(gA own l pp stays).2.2=0->(∀p∈l,N p.1)->(∀p∈l,∀x∈p.2.1,K x.1)->LW N K pp->
 LW N K (gA own l pp stays).1/\(gA own l pp stays).2.1=stays++l.filter (λp=>!own p.1)/\(gA own l pp stays).1.length+(gA own l pp stays).2.1.length<=pp.length+stays.length+l.length
 |[],pp,stays,_,_,_,P=>⟨P,by simp[gA],by simp[gA]⟩
 |p::l,pp,stays,he,hn,hk,P=>by
  unfold gA at he ⊢;by_cases ho:own p.1=true
  .rw[ah ho]at he ⊢;by_cases hs:(fD pp p.1 p.2.1).2.1=0
   .rw[ah hs]at he ⊢;have hl:=(qA hs).len;obtain⟨r1,r2,r3⟩:=GY own l _ stays he (λq hq=>hn q (by simp[hq])) (λq hq=>hk q (by simp[hq])) (P.shift (hn p (by simp)) (hk p (by simp)) hs);exact⟨r1,by rw[r2,bu,ag (by simp[ho])],by simp only[aJ];omega⟩
   .rw[ag hs]at he;exact absurd he hs
  .rw[ag ho]at he ⊢;obtain⟨r1,r2,r3⟩:=GY own l pp (stays++[p]) he (λq hq=>hn q (by simp[hq])) (λq hq=>hk q (by simp[hq])) P;exact⟨r1,by rw[r2,bu,ah (by simpa using ho),bq];rfl,by rw[ap]at r3;simp only[aJ,eJ]at r3 ⊢;omega⟩
theorem LW.filter{N}{K}{b:List bC}(P:LW N K b)(q:bC->Bool):LW N K (b.filter q):=by have hB:=bM P.i;refine⟨aq ⟨λp hp=>hB.1 p (aM.1 hp).1,?_⟩,λp hp=>P.o p (aM.1 hp).1,λp hp=>P.n p (aM.1 hp).1,λp hp=>P.k p (aM.1 hp).1⟩;exact dN (xV _ fZ) hB.2
theorem ab1{l}(h:Ma l)(x:bf):Ma (Gv l x):=by
 unfold Gv Ma;have VD:∀y∈fM x l,CG y x:=λy hy=>by simpa using(aM.1 hy).2
 have PG:∀y∈CH x l,CG x y:=λy hy=>by simpa using(aM.1 hy).2
 have hm:∀y∈(if x.2.2.1=0 then([]:List bf)else[x]),y=x:=λy hy=>by
  split at hy
  .cases hy
  .simpa using hy
 refine dM.2 ⟨h.filter _,dM.2 ⟨?_,h.filter _,λa ha b hb=>?_⟩,λa ha b hb=>?_⟩
 .split<;>simp
 .rw[hm a ha];exact PG b hb
 .rcases aT.1 hb with hb|hb
  .rw[hm b hb];exact VD a ha
  .have:=VD a ha;have:=PG b hb;unfold CG at *;omega
theorem WT{l}(h:Ma l)(x:bf)(n:Nat)(hn:yA l x.1 x.2.1≠0/\l.length<=n\/l.length<n):(Gv l x).length<=n:=by
 have hc:=bA List.length (abk x h);rw[ap,ap]at hc;unfold Gv;rw[ap,ap];have h1:(if x.2.2.1=0 then([]:List bf)else[x]).length<=1:=by split<;>simp
 rcases hn with⟨h2,h3⟩|h2
 .rcases Sn h x with h4|⟨y,h4,_⟩
  .exact absurd (Oa h4) h2
  .rw[h4]at hc;simp only[aJ,eJ]at hc;omega
 .omega
theorem amv{l:List bf}{x:bf}(he:(QL l x).2.1=0):Fs l/\mK x/\Fs (QL l x).1/\∀y∈(QL l x).1,y∈l\/y.1=x.1:=by
 unfold QL at he ⊢;by_cases h1:Ob l=true;case neg=>rw[ag h1]at he;cases he
 have hi:=Ij h1;rw[ah h1]at he ⊢;by_cases h2:mK x;case neg=>rw[ag h2]at he;cases he
 rw[ah h2]at he ⊢;by_cases h3:cu (yA l x.1 x.2.1+x.2.2.1);case neg=>rw[ag h3]at he;cases he
 rw[ah h3]at he ⊢;by_cases h4:yA l x.1 x.2.1=0/\l.length=16;case pos=>rw[ah h4]at he;cases he
 rw[ag h4];have hg:=amj hi.1 x.1 x.2.1;refine⟨hi,h2,⟨λy hy=>?_,ab1 hi.2.1 _,WT hi.2.1 _ 16 ?_⟩,λy hy=>?_⟩
 .rcases Mg hy with hy|rfl
  .exact hi.1 y hy
  .exact⟨h2.1,h2.2.1,by have:=h2.2.2;dsimp only;omega⟩
 .by_cases h5:yA l x.1 x.2.1=0
  .exact .inr (by have:=hi.2.2;have:l.length≠16:=λe=>h4 ⟨h5,e⟩;omega)
  .exact .inl ⟨h5,hi.2.2⟩
 .rcases Mg hy with hy|rfl
  .exact .inl hy
  .exact .inr rfl
theorem aj8{l:List bf}{x:bf}(he:(Ea l x).2.1=0):Fs l/\mK x/\Fs (Ea l x).1/\∀y∈(Ea l x).1,y∈l\/y.1=x.1:=by
 unfold Ea at he ⊢;by_cases h1:Ob l=true;case neg=>rw[ag h1]at he;cases he
 have hi:=Ij h1;rw[ah h1]at he ⊢;by_cases h2:mK x;case neg=>rw[ag h2]at he;cases he
 rw[ah h2]at he ⊢;by_cases h3:yA l x.1 x.2.1<x.2.2.1;case pos=>rw[ah h3]at he;cases he
 rw[ag h3];have hx:=h2.2.2;refine⟨hi,h2,⟨λy hy=>?_,ab1 hi.2.1 _,WT hi.2.1 _ 16 (.inl ⟨by dsimp only;omega,hi.2.2⟩)⟩,λy hy=>?_⟩
 .unfold Gv at hy;rw[aT,aT]at hy;rcases hy with hy|hy|hy
  .exact hi.1 y (aM.1 hy).1
  .split at hy
   .cases hy
   .rename_i h5;rw[aC.1 hy];have h5:yA l x.1 x.2.1-x.2.2.1≠0:=h5;exact⟨h2.1,h2.2.1,by dsimp only;omega⟩
  .exact hi.1 y (aM.1 hy).1
 .rcases Mg hy with hy|rfl
  .exact .inl hy
  .exact .inr rfl
theorem LV.ab2{N}{A}{h:List bg}(P:LV N A h)(u:ar):∀x∈eL h u,A x.1:=by
 have:∀l:List bg,(∀p∈l,∀x∈p.2.1,A x.1)->∀x∈eL l u,A x.1:=by
  intro l;induction l with
  |nil=>intro _ x hx;cases hx
  |cons p l ih=>
   intro h;rw[eL];split
   .exact h p (by simp)
   .exact ih λq hq=>h q (by simp[hq])
 exact this h P.a
theorem LV.set{N}{A}{h}(P:LV N A h){u:ar}{now:List bf}(hu:now≠[]->N u)(hi:Fs now)(ho:uS now)(ha:∀x∈now,A x.1):LV N A (I1 h u now):=by
 have hH:=bM P.i;refine⟨aq ⟨λp hp=>?_,ab3 hH.2 u now⟩,λp hp=>?_,λp hp=>?_,λp hp=>?_⟩
 .rcases GZ.1 hp with⟨h1,_⟩|⟨hn,rfl⟩
  .exact hH.1 p h1
  .exact⟨hn,hi⟩
 .rcases GZ.1 hp with⟨h1,_⟩|⟨hn,rfl⟩
  .exact P.f p h1
  .exact ho
 .rcases GZ.1 hp with⟨h1,_⟩|⟨hn,rfl⟩
  .exact P.n p h1
  .exact hu hn
 .rcases GZ.1 hp with⟨h1,_⟩|⟨hn,rfl⟩
  .exact P.a p h1
  .exact ha
theorem LV.put{N:ar->Prop}{A:Int->Prop}{h:List bg}(P:LV N A h){u:ar}{x:bf}(hu:N u)(hx:A x.1)(he:(Ab h u x).2.1=0):LV N A (Ab h u x).1:=by
 unfold Ab at he ⊢;rw[ah P.i]at he ⊢;by_cases h1:(QL (eL h u) x).2.1=0;case neg=>rw[ag h1]at he;exact absurd he h1
 rw[ah h1];obtain⟨_,_,h2,h3⟩:=amv h1;exact P.set (λ_=>hu) h2 (YF (qF P.f u)) λy hy=>(h3 y hy).elim (P.ab2 u y) λe=>by rw[e];exact hx
theorem LV.take{N}{A}{h}(P:LV N A h){u:ar}{x:bf}(he:(qE h u x).2.1=0):LV N A (qE h u x).1/\A x.1/\N u:=by
 unfold qE at he ⊢;rw[ah P.i]at he ⊢;by_cases h1:(Ea (eL h u) x).2.1=0;case neg=>rw[ag h1]at he;exact absurd he h1
 rw[ah h1];obtain⟨h2,h3,h4,h5⟩:=aj8 h1
 have hg:∃y∈eL h u,y.1=x.1:=by
  unfold Ea at h1;rw[ah (show Ob (eL h u)=true from aq h2),ah h3]at h1;by_cases h6:yA (eL h u) x.1 x.2.1<x.2.2.1;case pos=>rw[ah h6]at h1;cases h1
  rcases Sn h2.2.1 x with h7|⟨y,h7,h8,h9⟩
  .rw[Oa h7]at h6;exact absurd h3.2.2 h6
  .exact⟨y,h9,h8.1⟩
 obtain⟨y,hy,e⟩:=hg;have hA:A x.1:=by rw[<-e];exact P.ab2 u y hy
 have hN:N u:=by
  have hH:=bM P.i;rcases aeW hH.2 u with⟨_,_,h6⟩|⟨_,h6⟩
  .rw[h6]at hy;cases hy
  .exact P.n _ h6
 exact⟨P.set (λ_=>hN) h4 (Sv (qF P.f u)) λz hz=>(h5 z hz).elim (P.ab2 u z) λe=>by rw[e];exact hA,hA,hN⟩
theorem LV.pass{N:ar->Prop}{A:Int->Prop}{h:List bg}(P:LV N A h){f t:ar}{x:bf}{tag:Int}(ht:N t)(he:(F9 h f t x tag).2.1=0):LV N A (F9 h f t x tag).1:=by
 unfold F9 at he ⊢;rw[ah P.i]at he ⊢;by_cases h1:f=t;case pos=>rw[ah h1]at he;cases he
 rw[ag h1]at he ⊢;by_cases h2:(qE h f x).2.1=0;case neg=>rw[ag h2]at he;exact absurd he h2
 rw[ah h2]at he ⊢;obtain⟨h3,h4,_⟩:=P.take h2;exact h3.put ht h4 he
theorem amw:Fs []:=⟨λ_ h=>(by cases h),List.Pairwise.nil,bE _⟩
theorem LV.PI{N}{A}{h}(P:LV N A h){f t:ar}(ht:N t)(he:(PI h f t).2.1=0):LV N A (PI h f t).1:=by
 unfold Go.Proofs.YthghpahghjppjaaGreat.PI at he ⊢;rw[ah P.i]at he ⊢;by_cases h1:f=t;case pos=>rw[ah h1]at he;cases he
 rw[ag h1]at he ⊢;by_cases h2:eL h t=[];case neg=>rw[ag h2]at he;cases he
 rw[ah h2];exact(P.set (λh=>absurd rfl h) amw Ad λ_ h=>by cases h).set (λ_=>ht) (Ft P.i f) (qF P.f f) (P.ab2 f)
theorem LV.aqL{N}{A}{h:List bg}(P:LV N A h)(u:ar):LV N A (eI h u):=by have hH:=bM P.i;refine⟨aq ⟨λp hp=>hH.1 p (aM.1 hp).1,?_⟩,λp hp=>P.f p (aM.1 hp).1,λp hp=>P.n p (aM.1 hp).1,λp hp=>P.a p (aM.1 hp).1⟩;exact dN (xV _ fZ) hH.2
def PJ(N:ar->Prop)(A:Int->Prop)(p:List aR)(h:List bg):Prop:=QN N p/\LV N A h
theorem amx{N}{A}{as}{u}{x}{m:Int}{p:List aR}{h:List bg}(I:PJ N A p h)(hu:N u)(ht:N tU)(he:(tq as u x m p h).2.2=0):
 PJ N A (tq as u x m p h).1 (tq as u x m p h).2.1:=by
 unfold tq at he ⊢;split;case isFalse h1=>rw[ag h1]at he;cases he
 rename_i h1;rw[ah h1]at he;split;case isTrue=>exact I
 rename_i h2;rw[ag h2]at he;split;case isFalse h3=>rw[ag h3]at he;cases he
 rename_i h3;rw[ah h3]at he;split;case isFalse h4=>rw[ag h4]at he;exact absurd he h4
 rename_i h4;rw[ah h4]at he;split;case isFalse h5=>rw[ag h5]at he;exact absurd he h5
 rename_i h5;exact⟨I.1.move ht hu h5,I.2.pass ht h4⟩
theorem J1{N}{A}{as}{u:ar}{c:Int}(hu:N u)(ht:N tU):∀(l:List bf) (p:List aR) (h:List bg),PJ N A p h->(nw as u c l p h).2.2=0->
 PJ N A (nw as u c l p h).1 (nw as u c l p h).2.1
 |[],p,h,I,_=>I
 |x::l,p,h,I,he=>by
  unfold nw at he ⊢;split;case isFalse h1=>rw[ag h1]at he;cases he
  rename_i h1;rw[ah h1]at he;split;case isFalse h2=>rw[ag h2]at he;exact J1 hu ht l p h I he
  rename_i h2;rw[ah h2]at he;split;case isFalse h3=>rw[ag h3]at he;exact absurd he h3
  rename_i h3;rw[ah h3]at he;exact J1 hu ht l _ _ (amx I hu ht h3) he
theorem ab4{N}{A}{as}{u}{c}{p:List aR}{h:List bg}(hu:N u)(ht:N tU)(I:PJ N A p h)(he:(l8 as p h u c).2.2=0):
 PJ N A (l8 as p h u c).1 (l8 as p h u c).2.1:=by
 unfold l8 at he ⊢;split;case isFalse h1=>rw[ag h1]at he;cases he
 rename_i h1;rw[ah h1]at he;split;case isTrue h2=>rw[ah h2]at he;cases he
 rename_i h2;rw[ag h2]at he;exact J1 hu ht _ _ _ I he
theorem ab5{N}{A}{as}{b t}{n}{p:List aR}{h:List bg}(hb:N b)(hto:N t)(ht:N tU)(I:PJ N A p h)(he:(CK as p h b t n).2.2.2=0):
 PJ N A (CK as p h b t n).1 (CK as p h b t n).2.1:=by
 unfold CK at he ⊢;split;case isTrue=>exact I
 rename_i h1;rw[ag h1]at he;split;case isFalse h2=>rw[ag h2]at he;exact absurd he h2
 rename_i h2;rw[ah h2]at he;have J:=ab4 hb ht I h2;split;case isFalse h3=>rw[ag h3]at he;exact absurd he h3
 rename_i h3;exact⟨J.1.move hb hto h3,J.2⟩
theorem ab6{N}{A}{as}{b t}{p}{h:List bg}(hb:N b)(hto:N t)(ht:N tU)(I:PJ N A p h)(he:(JS as p h b t).2.2.2=0):
 PJ N A (JS as p h b t).1 (JS as p h b t).2.1:=by
 unfold JS at he ⊢;split;case isFalse h1=>rw[ag h1]at he;exact absurd he h1
 rename_i h1;rw[ah h1]at he;split;case isFalse h2=>rw[ag h2]at he;exact absurd he h2
 rename_i h2;rw[ah h2]at he;split;case isTrue=>exact I
 rename_i h3;rw[ag h3]at he;exact ab5 hb hto ht I he
theorem amy{N}{A}{as}{u}{p:List aR}{h:List bg}(hu:N u)(ht:N tU)(I:PJ N A p h)(he:(QM as p h u).2.2.2=0):
 PJ N A (QM as p h u).1 (QM as p h u).2.1:=by
 unfold QM at he ⊢;split;case isFalse h1=>rw[ag h1]at he;exact absurd he h1
 rename_i h1;rw[ah h1]at he;split;case isFalse h2=>rw[ag h2]at he;exact absurd he h2
 rename_i h2;have J:=ab4 hu ht I h2;split
 .exact J
 .exact J
def FI(N:ar->Prop)(A:Int->Prop)(a:Gw):Prop:=∀p h,PJ N A p h->(a p h).2.2.2=0->PJ N A (a p h).1 (a p h).2.1
theorem YK{N}{A}:∀(l:List Gw),(∀a∈l,FI N A a)->∀(p:List aR) (h:List bg) (d:List ye),PJ N A p h->(o5 l p h d).2.2.2=0->PJ N A (o5 l p h d).1 (o5 l p h d).2.1
 |[],_,p,h,d,I,_=>I
 |a::l,hl,p,h,d,I,he=>by
  rw[o5]at he ⊢;by_cases h1:(a p h).2.2.2=0
  .rw[ah h1]at he ⊢;exact YK l (λb hb=>hl b (by simp[hb])) _ _ _ (hl a (by simp) p h I h1) he
  .rw[ag h1]at he;exact absurd he h1
theorem YL:∀(n:Nat) (gs ts:List UA),gs.length+ts.length<=n->∀x∈tt gs ts,(∃g∈gs,g.1=x.1)/\∃t∈ts,t.1=x.2.1
 |_,[],ts,_,x,hx=>by rw[tt]at hx;cases hx
 |_,(u,a)::gs,[],_,x,hx=>by rw[tt]at hx;cases hx
 |n,(u,a)::gs,(v,b)::ts,hn,x,hx=>by
  obtain⟨m,rfl⟩:∃m,n=m+1:=⟨n-1,by simp only[aJ]at hn;omega⟩;simp only[aJ]at hn;rw[tt]at hx;rcases aF.1 hx with rfl|hx
  .exact⟨⟨(u,a),by simp,rfl⟩,(v,b),by simp,rfl⟩
  .by_cases hc:a<=b
   .rw[ah hc]at hx;obtain⟨⟨g,hg,e⟩,t,ht,e2⟩:=YL m gs ((v,b-a)::ts) (by simp only[aJ];omega) x hx;refine⟨⟨g,by simp[hg],e⟩,?_⟩;rcases aF.1 ht with rfl|ht
    .exact⟨(v,b),by simp,e2⟩
    .exact⟨t,by simp[ht],e2⟩
   .rw[ag hc]at hx;obtain⟨⟨g,hg,e⟩,t,ht,e2⟩:=YL m ((u,a-b)::gs) ts (by simp only[aJ];omega) x hx;refine⟨?_,t,cP _ ht,e2⟩;rcases aF.1 hg with rfl|hg
    .exact⟨(u,a),by simp,e⟩
    .exact⟨g,by simp[hg],e⟩
theorem aeX{N}{A}{as:List gT}{l:List ar}(hl:∀u∈l,N u)(ht:N tU):FI N A (vt as l):=by
 intro p h I he;unfold vt at he ⊢;split;case isFalse h1=>rw[ag h1]at he;exact absurd he h1
 rename_i h1;rw[ah h1]at he;split;case isFalse h2=>rw[ag h2]at he;exact absurd he h2
 rename_i h2;rw[ah h2]at he;refine YK _ (λa ha=>?_) _ _ _ I he;obtain⟨x,hx,rfl⟩:=aN.1 ha;obtain⟨⟨g,hg,e⟩,t,htt,e2⟩:=YL _ _ _ (au _) x hx;intro p h I he;refine ab5 (b:=x.1) (t:=x.2.1) (n:=x.2.2) ?_ ?_ ht I he
 .rw[<-e];exact hl _ (List.of_mem_zip (show(g.1,g.2)∈_ from hg)).1
 .rw[<-e2];exact hl _ (List.of_mem_zip (show(t.1,t.2)∈_ from htt)).1
theorem aj9{N}{A}{t}{id:Int}(hN:∀a∈t.2.2.2.2.1,∀u∈bY a,N u)(ht:N tU)(hf:N fU)(I:PJ N A (pu t) (ho t))(he:(o5 (Im t id) (pu t) (ho t) []).2.2.2=0):
 PJ N A (o5 (Im t id) (pu t) (ho t) []).1 (o5 (Im t id) (pu t) (ho t) []).2.1:=by
 have mA:∀u∈yE (t.2.2.2.2.1.filter (rz id)),N u:=λu hu=>by obtain⟨a,ha,hu⟩:=eG.1 hu;exact hN a (aM.1 ha).1 u hu
 have mH:∀u∈px (t.2.2.2.2.1.filter (rz id)),N u:=λu hu=>by obtain⟨a,ha,hu⟩:=eG.1 hu;exact hN a (aM.1 (aM.1 ha).1).1 u hu
 refine YK _ (λa ha=>?_) _ _ _ I he;unfold Im JZ at ha;rcases aT.1 ha with ha|ha
 .obtain⟨u,hu,rfl⟩:=aN.1 ha;exact λp h I he=>amy (mA u hu) ht I he
 rcases aT.1 ha with ha|ha
 .obtain⟨x,hx,rfl⟩:=aN.1 ha;exact aeX (hN x (aM.1 (aM.1 hx).1).1) ht
 rcases aT.1 ha with ha|ha
 .obtain⟨u,hu,hb⟩:=eG.1 ha;obtain⟨b,hb2,rfl⟩:=aN.1 hb;exact λp h I he=>ab6 (mH b hb2) (mA u hu) ht I he
 .obtain⟨u,hu,hb⟩:=eG.1 ha;obtain⟨b,hb2,rfl⟩:=aN.1 hb;rw[aC.1 hb2];exact λp h I he=>ab6 hf (mA u hu) ht I he
theorem ajA{N}{A}{z}{u:ar}(I:PJ N A z.1 z.2.1)(hu:N u):PJ N A (sU z u).1 (sU z u).2.1:=by
 unfold sU;split
 .exact I
 .obtain⟨h0,_⟩:=SA I.1.i I.1.f u _ rfl;refine⟨I.1.pay (λx hx=>?_) h0,I.2.aqL u⟩;rw[aC.1 hx];exact hu
theorem WU{N}{A}:∀(us:List ar) (z:PHR),(∀u∈us,N u)->PJ N A z.1 z.2.1->PJ N A (us.foldl sU z).1 (us.foldl sU z).2.1
 |[],z,_,I=>I
 |u::us,z,h,I=>WU us (sU z u) (λv hv=>h v (by simp[hv])) (ajA I (h u (by simp)))
theorem ajB{N}{A}{s:aV}{id:Int}(hN:∀a∈s.2.2.2.2.1,∀u∈bY a,N u)(I:PJ N A (pu s) (ho s)):PJ N A (ki s (vu id s.2.2.2.2.1)).1 (ki s (vu id s.2.2.2.2.1)).2.1:=by refine WU _ _ (λu hu=>?_) I;obtain⟨a,ha,hu⟩:=eG.1 hu;exact hN a (aM.1 ha).1 u hu
end Go.Proofs.YthghpahghjppjaaGreat