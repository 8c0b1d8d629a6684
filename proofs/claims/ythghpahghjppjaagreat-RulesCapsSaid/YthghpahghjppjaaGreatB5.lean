import Derived.Test.YthghpahghjppjaaGreatB4
namespace Go.Proofs.YthghpahghjppjaaGreat
open Go Go.Vc Go.RowKit
open Go.IntKind (i64 u64)
theorem axg(a)(h : -9223372036854775808<=a/\a<=9223372036854775807):bits .xor .i64 (-1) a = -1-a:=by
 have j:BitVec.ofInt 64 (-1)=BitVec.allOnes 64:=by decide
 show i64.wrap (((BitVec.ofInt 64 (-1) ^^^ BitVec.ofInt 64 a).toNat:Nat):Int)=_;rw[j,BitVec.allOnes_xor,xa,mr,dO];have:(2:Int) ^ 64=18446744073709551616:=by decide
 omega
theorem axh(a)(h:0<=a/\a<18446744073709551616):bits .xor .u64 18446744073709551615 a=18446744073709551615-a:=by
 have j:BitVec.ofInt 64 18446744073709551615=BitVec.allOnes 64:=by decide
 show u64.wrap (((BitVec.ofInt 64 18446744073709551615 ^^^ BitVec.ofInt 64 a).toNat:Nat):Int)=_;rw[j,BitVec.allOnes_xor,xa,mr,bY];have:(2:Int) ^ 64=18446744073709551616:=by decide
 omega
theorem auV{a b}(G:eB a)(hb:eB b):anp (wide a) (wide b)=some (fit (a-b)):=by
 show Dz aj (wide a) (wide b)=_;unfold Dz;have y:=G;have j:=hb;unfold eB at y j;have t0:xT 0:=by unfold xT;omega
 have J:xT a:=by unfold xT;omega
 have H:xT (a+(-b-1)):=by unfold xT;omega
 have t3:xT (a-b):=by unfold xT;omega
 have K:AD 0 0 0 (wide a)=some ((),JG a):=by have:=YB 0 (wide a) t0 (mX a G);rw[sG,rF]at this;exact this
 rw[ai K]
 have R:(bits .xor .i64 (if true=true then(-1)else(if true=true then((2 ^ ((IntKind.bits .i64)-1))-1)else((2 ^ (IntKind.bits .i64))-1))) (wide b).1,bits .xor .u64 (if false=true then(-1)else(if false=true then((2 ^ ((IntKind.bits .u64)-1))-1)else((2 ^ (IntKind.bits .u64))-1))) (wide b).2.1,())=wide (-b-1):=by
  have c1:(if false=true then(-1:Int)else(if false=true then((2 ^ ((IntKind.bits .u64)-1))-1)else((2 ^ (IntKind.bits .u64))-1)))=18446744073709551615:=by decide
  rw[c1,ah rfl];unfold wide;dsimp only;rw[axg _ (by omega),axh _ (by omega)];refine iZ ?_ (iZ ?_ rfl)
  .dsimp only;omega
  .dsimp only;omega
 have F:=YB a (wide (-b-1)) J (mX _ (by unfold eB;omega));rw[sG]at F;show aj.ae (AD (JG a).1 (JG a).2.1 (JG a).2.2.1 _) _=_;rw[R,ai F,ai (K6 1 (by unfold cy;omega))];have C:=YB (a+(-b-1)) (wide 1) H (mX _ (by unfold eB;omega));rw[sG,show a+(-b-1)+1=a-b by omega]at C;refine vC C ?_;exact vC (agC _ t3) rfl
theorem I1{a b}(j:cy a)(hb:cy b):Yu a b=some (cP (a-b)):=by
 show xU aj a b=_;unfold xU;have y:eB (a-b):=by unfold cy at j hb;unfold eB;omega
 have e:fit (a-b)=(wide (a-b),0,()):=ah y;rw[ai (K6 a j),ai (K6 b hb),ai (auV (ue j) (ue hb)),e];exact vC (CY y) rfl
def ja(l:List aU)(f t:ar)(n:Int):List aU×Int×Unit:=if cy (-n)then qJ l [(f,-n,()),(t,n,())]else if xb l=true then([],7,())else([],3,())
theorem M6{l}{f t}{n}(h:tT l)(F:cy n)(hl:l.length<=900000):qE l f t n=some (ja l f t n):=by
 show lJ aj l f t n=_;unfold lJ ja;have e:=I1 (a:=0) (b:=n) (by unfold cy;omega) F;rw[zk]at e;unfold cP at e;by_cases j:cy (-n)
 .rw[ah j]at e;rw[ah j,ai e];refine bB λk G=>?_
  show aj.af ((0:Int) != 0) _ _=_;rw[aB (by decide)];subst G;show aj.af false _ (aj.ae (zB l [(f,-n,()),(t,n,())]) _)=_
  rw[aB rfl,ai (aaV h (by
   intro x y;simp only[aG,dN,lk]at y;rcases y with rfl|rfl
   .exact j
   .exact F) (by simp;omega))]
 .rw[ag j]at e;rw[ag j,ai e];refine bB λk G=>?_
  refine Um (by decide) ?_;rw[ai (ZL (by omega))];subst G;by_cases C:xb l=true
  .rw[C,ah rfl];rfl
  .have C:xb l=false:=by simpa using C
   rw[C,ag (by simp)];show aj.af false _ (aj.ae (zB l _) _)=_;unfold cy at j F;have H:n = -9223372036854775808:=by omega
   rw[aB rfl,ai (aaV h (by
    intro x y;simp only[aG,dN,lk]at y;rcases y with rfl|rfl
    .show cy 0;unfold cy;omega
    .show cy n;unfold cy;omega) (by simp;omega))]
   unfold qJ;rw[C,ag (by simp)]
theorem Oe(all):∀(us:List ar) (acc:List aU),(AB all us acc).1.length<=acc.length+us.length
 |[],acc=>by simp[AB]
 |u::us,acc=>by
  unfold AB;split
  .split
   .have:=Oe all us (acc++[(u,me all u,())]);simp at this ⊢;omega
   .have:=Oe all us acc;simp at this ⊢;omega
  .simp
theorem Rv(l f):(qJ l f).1.length<=l.length+f.length:=by
 unfold qJ;split
 .have:=Oe (l++f) (lu (l++f)) [];have j:=Ww (l++f);simp at this j ⊢;omega
 .simp
theorem aqO{X β}{N}(H:N<9223372036854775808){f:X->(X->Option β)->Option β}(st:Nat->X)(r:Option β)
 (C:∀j:X->Option β,f (st N) j=r) (y:∀i,i<N->∀j:X->Option β,j (st (i+1))=r->f (st i) j=r):aj.aZ f (st 0)=r:=by
 have key:∀n i,i<=N->N-i<n->xJ n f (st i)=r:=by
  intro n;induction n with
  |zero=>intro i _ h;omega
  |succ n F=>
   intro i hi G;by_cases h:i<N
   .exact y i h _ (F (i+1) (by omega) (by omega))
   .have:i=N:=by omega
    subst this;exact C _
 exact key FU 0 (bE _) (by rw[O4];omega)
theorem qp{X β}{N}(G:N<9223372036854775808){f}(st:Nat->X)(r:Option β){z0:X}(F:z0=st 0)
 (C:∀j:X->Option β,f (st N) j=r) (y:∀i,i<N->∀j:X->Option β,j (st (i+1))=r->f (st i) j=r):aj.aZ f z0=r:=by
 subst F;exact aqO G st r C y
theorem at8{a b}(j:sml a)(hb:sml b):Wz (BE a) (BE b)=some (if a-b=0 then 0 else if a-b<0 then -1 else 1):=by
 unfold sml at *;have:=axi (Ts a) (Ts b) (bU (Ma j) (by decide)) (bU (Ma hb) (by decide))
 rwa [Oc,Oc]at this
theorem Tt(all):∀(us:List ar) (acc:List aU),(AB all us acc).2.1=0->
 (AB all us acc).1=acc++(us.filter λu=>decide (me all u≠0)).map (λu=>(u,me all u,()))/\∀u∈us,cy (me all u)
 |[],acc,_=>by simp[AB]
 |u::us,acc,h=>by
  unfold AB at h ⊢;by_cases y:cy (me all u)
  .rw[ah y]at h ⊢;by_cases C:me all u≠0
   .rw[ah C]at h ⊢;have⟨G,F⟩:=Tt all us _ h;refine⟨?_,λx j=>?_⟩
    .rw[G,bw,ah (by simpa using C)];simp
    .rcases aG.1 j with rfl|j
     .exact y
     .exact F x j
   .rw[ag C]at h ⊢;have⟨G,F⟩:=Tt all us _ h;refine⟨?_,λx j=>?_⟩
    .rw[G,bw,ag (by simpa using C)]
    .rcases aG.1 j with rfl|j
     .exact y
     .exact F x j
  .rw[ag y]at h;simp at h
theorem tn(x:aU)(l:List aU)(u:ar):me (x::l) u=(if x.1=u then Ul x else 0)+me l u:=by unfold me Od adV;rw[bw];by_cases h:x.1=u<;>simp[h]
theorem aaJ(a b)(u):me (a++b) u=me a u+me b u:=by unfold me Od;rw[e8,cC,mV]
theorem WA{l}{u}(h:∀x∈l,x.1≠u):me l u=0:=by
 induction l with
 |nil=>rfl
 |cons x l j=>rw[tn,ag (h x (by simp)),j λy C=>h y (by simp[C])];rfl
theorem XH{us:List ar}(y:us.Nodup){v:ar}(z:Int):eQ (λu=>if v=u then z else 0) us=if v∈us then z else 0:=by
 induction us with
 |nil=>rfl
 |cons u us j=>
  have⟨F,C⟩:=fw.1 y;rw[dW,j C];by_cases hv:v=u
  .subst hv;rw[ah rfl,ag F,ah (by simp)];omega
  .rw[ag hv];by_cases hm:v∈us
   .rw[ah hm,ah (by simp[hm])];omega
   .rw[ag hm,ag (by simp[hm,hv])];rfl
theorem HD{α:Type}(f g:α->Int)(l:List α):eQ (λx=>f x+g x) l=eQ f l+eQ g l:=by
 induction l with
 |nil=>rfl
 |cons x l j=>rw[dW,dW,dW,j];omega
theorem WB:∀(l:List aU) {us:List ar},us.Nodup->(∀x∈l,x.1∈us)->eQ (me l) us=eQ Ul l
 |[],us,_,_=>by
  have:∀us:List ar,eQ (me []) us=0:=by
   intro us;induction us with
   |nil=>rfl
   |cons u us C=>rw[dW,C];rfl
  rw[this];rfl
 |x::l,us,j,h=>by
  have e:me (x::l)=λu=>(if x.1=u then Ul x else 0)+me l u:=funext (tn x l)
  rw[e,HD,XH j,ah (h x (by simp)),WB l j λy F=>h y (by simp[F]),dW]
def UE(all:List aU)(us:List ar):List aU:=(us.filter λu=>decide (me all u≠0)).map λu=>(u,me all u,())
theorem Nl{us}(h:jP us):us.Nodup:=vo (λ{a b} (j:nV a b) (e:a=b)=>by subst e;exact jm _ j) h
theorem aaK(all:List aU):eQ Ul (UE all (lu all))=eQ Ul all:=by
 have e:∀us:List ar,eQ Ul (UE all us)=eQ (me all) us:=by
  intro us;induction us with
  |nil=>rfl
  |cons u us j=>
   unfold UE at j ⊢;rw[bw,dW,<-j];by_cases h:me all u=0
   .rw[ag (by simp[h]),h];omega
   .rw[ah (by simp[h]),bK,dW];rfl
 rw[e,WB all (Nl (wo all)) λx y=>(Hx all x.1).2 ⟨x,y,rfl⟩]
theorem Qy{all}{us:List ar}(h:jP us):xb (UE all us)=true:=by
 refine ap ⟨λx j=>?_,?_⟩
 .obtain⟨u,y,rfl⟩:=aN.1 j;simpa using(aM.1 y).2
 .unfold UE;rw[gQ];have:((λx:aU=>x.1) ∘ λu=>((u,me all u,()):aU))=id:=rfl;rw[this,tH];exact h.filter _
theorem aiG{l}{u}(h:∀x∈l,x.1≠u):hJ l u=0:=by
 induction l with
 |nil=>rfl
 |cons x l j=>rw[hJ,ag (h x (by simp)),j λy C=>h y (by simp[C])]
theorem L4:∀{l:List aU},(l.map (·.1)).Nodup->∀u,hJ l u=me l u
 |[],_,u=>rfl
 |x::l,h,u=>by
  have⟨G,F⟩:=fw.1 h;rw[hJ,tn];by_cases j:x.1=u
  .rw[ah j,ah j,WA λy C e=>G (aN.2 ⟨y,C,e.trans j.symm⟩)];show Ul x=_;omega
  .rw[ag j,ag j,L4 F];omega
theorem Xu{l:List aU}(h:xb l=true):(l.map (·.1)).Nodup:=Nl (bD h).2
theorem aaI(all)(u:ar):hJ (UE all (lu all)) u=me all u:=by
 by_cases C:me all u=0
 .rw[C];refine aiG λx y e=>?_
  obtain⟨v,hv,rfl⟩:=aN.1 y;have:=(aM.1 hv).2;simp only[bc]at this;exact this (by rw[show v=u from e];exact C)
 .rw[L4 (Xu (Qy (wo all)))]
  have H:u∈lu all:=by
   rw[Hx];by_cases y:∃x∈all,x.1=u
   .exact y
   .exact absurd (WA λx F e=>y ⟨x,F,e⟩) C
  have key:∀us:List ar,us.Nodup->me (UE all us) u=if u∈us then me all u else 0:=by
   intro us;induction us with
   |nil=>intro _;rfl
   |cons v us j=>
    intro J;have⟨R,K⟩:=fw.1 J;have j:=j K;unfold UE at j ⊢;rw[bw];by_cases hv:v=u
    .subst hv;rw[ah (by simpa using C),bK,tn,j,ag R,ah rfl,ah (by simp)];show me all v+0=_;omega
    .have e:(if u∈v::us then me all u else 0)=if u∈us then me all u else 0:=by
      by_cases hm:u∈us
      .rw[ah hm,ah (by simp[hm])]
      .rw[ag hm,ag (by simp[hm,ga hv])]
     rw[e,<-j];by_cases G:me all v=0
     .rw[ag (by simp[G])]
     .rw[ah (by simp[G]),bK,tn,ag hv];omega
  rw[key _ (Nl (wo all)),ah H]
theorem Qs{l f}(h:(qJ l f).2.1=0):xb l=true/\(qJ l f).1=UE (l++f) (lu (l++f))/\∀u∈lu (l++f),cy (me (l++f) u):=by
 unfold qJ at h ⊢;by_cases j:xb l=true
 .rw[ah j]at h ⊢;have⟨C,y⟩:=Tt _ _ _ h;exact⟨j,by rw[C,da];rfl,y⟩
 .rw[ag j]at h;simp at h
theorem Xt{all}{us}(h:∀u∈us,cy (me all u)):tT (UE all us):=by intro x j;obtain⟨u,y,rfl⟩:=aN.1 j;exact h u (aM.1 y).1
def Ci(z:Int):N8:=(z / 18446744073709551616,z % 18446744073709551616,())
def Z1(z:Int):bW:=(i64.wrap (z / 18446744073709551616),z % 18446744073709551616,())
theorem KY(z)(h:eB z):Z1 z=wide z:=by unfold eB at h;unfold Z1 wide;rw[bF _ (by omega)]
def jb(z:Int):Int:=if z<0 then -z else z
theorem xd(w):pM w=some (decide (w.1<0)):=rfl
theorem I5(x)(j:EI x):zM x=some (Ci (jb (wv x))):=by
 unfold EI at j;show ig aj x=_;unfold ig;rw[ai (xd _)];by_cases h:x.1<0
 .rw[aB (by simp[h]),ai (L6),ai (L6 (by omega) (by rw[bY];omega) (by rw[bY];omega) (by dsimp only;split<;>omega) (by dsimp only;split<;>omega))];unfold Ci jb wv;refine bQ some (iZ ?_ (iZ ?_ rfl))
  .dsimp only;rw[bY];split<;>split<;>omega
  .dsimp only;split<;>omega
 .rw[aQ (by simp[h])];unfold Ci jb wv;refine bQ some (iZ ?_ (iZ ?_ rfl))
  .dsimp only;rw[bY];split<;>omega
  .dsimp only;split<;>omega
theorem aq0(z)(y:0<=z/\z<340282366920938463463374607431768211456)(h:z / 18446744073709551616=9223372036854775808):((z % 18446744073709551616)==0)=decide (eB (-z)):=by
 by_cases j:z % 18446744073709551616=0
 .have:eB (-z):=by unfold eB;omega
  rw[ap this];simp[j]
 .have:¬eB (-z):=by unfold eB;omega
  rw[an this];simp[j]
theorem adI(hi lo)(m):jg (hi,lo,()) m=(
 aj.af (!m) (some ((i64.wrap hi,lo,()),decide (hi<9223372036854775808),()))
 (aj.ae (Gs 0 lo 0) λj=>aj.ae (Gs 0 hi j.2.1) λy=>
 aj.af (decide (hi<9223372036854775808)) (some ((i64.wrap y.1,j.1,()),true,()))
  (
  aj.af (hi==9223372036854775808) (some ((i64.wrap y.1,j.1,()),lo==0,())) (some ((i64.wrap y.1,j.1,()),false,()))))):=rfl
theorem F3(z)(m)(y:0<=z/\z<340282366920938463463374607431768211456):jg (Ci z) m=some (Z1 (if m=true then -z else z),decide (eB (if m=true then -z else z)),()):=by
 unfold Ci;rw[adI];cases m
 .rw[aQ (by rfl)];simp only[eM,nS];congr 3;unfold eB;apply dM.2;omega
 .rw[aB (by rfl),ai (L6 (by omega) (by omega) (by omega) (by omega) (by omega)),ai (L6 (by omega) (by omega) (by omega) (by dsimp only;split<;>omega) (by dsimp only;split<;>omega))]
  have e:((i64.wrap ((0-z / 18446744073709551616-(if 0<z % 18446744073709551616+0 then 1 else 0)) % 18446744073709551616),(0-z % 18446744073709551616-0) % 18446744073709551616,()):bW)=Z1 (-z):=by
   rw[JB];unfold Z1;refine iZ ?_ (iZ ?_ rfl)
   .dsimp only;congr 1;split<;>omega
   .dsimp only;omega
  show _=some (Z1 (-z),decide (eB (-z)),());rw[<-e];refine dh (λC=>?_) λC=>?_
  .have:eB (-z):=by unfold eB;omega
   rw[ap this]
  .by_cases j:z / 18446744073709551616=9223372036854775808
   .rw[aQ (by simp[j]),aq0 z y j]
   .rw[aB (by simp[j])];have:¬eB (-z):=by unfold eB;omega
    rw[an this]
theorem ZZ(a)(h:0<=a/\a<18446744073709551616):bits .and .u64 a 4294967295=a % 4294967296:=by
 obtain⟨n,rfl⟩:=cm h.1;show u64.wrap (((BitVec.ofInt 64 ((n:Nat):Int) &&& BitVec.ofInt 64 4294967295).toNat:Nat):Int)=_;rw[BitVec.toNat_and,mr,mr]
 have y:(((n:Nat):Int) % ((2 ^ 64:Nat):Int)).toNat=n:=by
  have:((2 ^ 64:Nat):Int)=18446744073709551616:=by decide
  omega
 have j:((4294967295:Int) % ((2 ^ 64:Nat):Int)).toNat=2 ^ 32-1:=by decide
 rw[y,j,Nat.and_two_pow_sub_one_eq_mod,bY];have:(2:Nat) ^ 32=4294967296:=by decide
 rw[this];omega
theorem I4(a)(h:0<=a):Int.fdiv a (2 ^ (min (Int.toNat 32) (IntKind.bits .u64)))=a / 4294967296:=by
 have e:(2:Int) ^ (min (Int.toNat 32) (IntKind.bits .u64))=4294967296:=by decide +kernel
 rw[e,eE _ (by omega)]
theorem Yw{a b:Int}(j:0<=a/\a<4294967296)(hb:0<=b/\b<4294967296):0<=a*b/\a*b<=18446744065119617025:=by refine⟨iY j.1 hb.1,?_⟩;have y:a*b<=4294967295*b:=iw (by omega) hb.1;omega
theorem Yx{x y:Int}(Y:0<=x/\x<18446744073709551616)(X:0<=y/\y<18446744073709551616):yz x y=some (x*y / 18446744073709551616,x*y % 18446744073709551616,()):=by
 show j3 aj x y=_;unfold j3;rw[ud,ud,ud,ud,ud];simp only[I4 x Y.1,I4 y X.1,ZZ x Y,ZZ y X];have G:0<=x / 4294967296/\x / 4294967296<4294967296:=by omega
 have H:0<=x % 4294967296/\x % 4294967296<4294967296:=by omega
 have j:0<=y / 4294967296/\y / 4294967296<4294967296:=by omega
 have F:0<=y % 4294967296/\y % 4294967296<4294967296:=by omega
 have ex:x=x / 4294967296*4294967296+x % 4294967296:=by omega
 have ey:y=y / 4294967296*4294967296+y % 4294967296:=by omega
 have R:x*y=(x / 4294967296)*(y / 4294967296)*18446744073709551616+((x / 4294967296)*(y % 4294967296)+(x % 4294967296)*(y / 4294967296))*4294967296+(x % 4294967296)*(y % 4294967296):=by
  generalize x / 4294967296=K at *;generalize x % 4294967296=W at *;generalize y / 4294967296=J at *;generalize y % 4294967296=V at *;rw[ex,ey,nM,yf,yf];have a1:K*4294967296*(J*4294967296)=K*J*18446744073709551616:=by rw[sD,Int.mul_left_comm 4294967296,<-sD];rfl
  have a2:K*4294967296*V=K*V*4294967296:=by rw[sD,iv 4294967296,<-sD]
  have a3:W*(J*4294967296)=W*J*4294967296:=by rw[<-sD]
  rw[a1,a2,a3,nM];omega
 have hD:=Yw G j;have hB:=Yw G F;have hC:=Yw H j;have hA:=Yw H F;rw[R];generalize (x / 4294967296)*(y / 4294967296)=D at *;generalize (x / 4294967296)*(y % 4294967296)=B at *;generalize (x % 4294967296)*(y / 4294967296)=C at *;generalize (x % 4294967296)*(y % 4294967296)=A at *;have w1:u64.wrap A=A:=by rw[bY];omega
 have w2:u64.wrap B=B:=by rw[bY];omega
 have w3:u64.wrap C=C:=by rw[bY];omega
 have w4:u64.wrap D=D:=by rw[bY];omega
 rw[w1,w2,w3,w4,I4 A (by omega)];have w5:u64.wrap (B+A / 4294967296)=B+A / 4294967296:=by rw[bY];omega
 rw[w5,I4 _ (by omega),ZZ _ (by omega)];have w6:u64.wrap ((B+A / 4294967296) % 4294967296+C)=(B+A / 4294967296) % 4294967296+C:=by rw[bY];omega
 rw[w6,I4 _ (by omega)];have w7:u64.wrap (D+(B+A / 4294967296) / 4294967296)=D+(B+A / 4294967296) / 4294967296:=by rw[bY];omega
 rw[w7,bY,bY];congr 1;refine iZ ?_ (iZ ?_ rfl)
 .dsimp only;omega
 .first|rfl|(show _ % 18446744073709551616=_;omega)
theorem L7(a b):(if(decide (a<0) != decide (b<0))=true then -(jb a*jb b)else jb a*jb b)=a*b:=by unfold jb;by_cases j:a<0<;>by_cases hb:b<0<;>simp[j,hb,Int.neg_mul,Hk]
theorem Tj{a}(h:cy a):0<=jb a/\jb a<=9223372036854775808:=by unfold cy at h;unfold jb;split<;>omega
theorem Hq{a b A B:Int}(j:0<=a/\a<=A)(hb:0<=b/\b<=B):0<=a*b/\a*b<=A*B:=⟨iY j.1 hb.1,vm j.2 hb.2 hb.1 (by omega)⟩
theorem Tk(z):decide ((wide z).1<0)=decide (z<0):=by refine dM.2 ?_;show z / 18446744073709551616<0↔_;omega
theorem jN{β}[qL β]{a b r:Option β}(ha:a=r)(hb:b=r):aj.gA a b=r:=by rw[ha,hb];exact ajK r
theorem Ee{a b}(ha:cy a)(hb:cy b):C0 a b=some (wide (a*b)):=by
 show oP aj a b=_;unfold oP;have y:=Tj ha;have j:=Tj hb;have s1:=I5 (wide a) (mX a (ue ha));have s2:=I5 (wide b) (mX b (ue hb));rw[sG]at s1 s2;have hp:=Hq y j;have m1:yz (Ci (jb a)).2.1 (Ci (jb b)).2.1=some (Ci (jb a*jb b)):=by show yz (jb a % 18446744073709551616) (jb b % 18446744073709551616)=_;rw[nN y.1 (by omega),nN j.1 (by omega),Yx (by omega) (by omega)];rfl
 rw[ai (K6 a ha),ai (K6 b hb),ai s1,ai s2,ai m1]
 have F:0<=jb a*jb b/\jb a*jb b<340282366920938463463374607431768211456:=by
  have:(9223372036854775808:Int)*9223372036854775808=85070591730234615865843651857942052864:=by decide
  omega
 have g:(aj.ae (jg (Ci (jb a*jb b)) (cY true (decide ((wide a).1<0)==decide ((wide b).1<0)))) λC=>some C.1)=some (wide (a*b)):=by
  have G:cY true (decide (a<0)==decide (b<0))=(decide (a<0) != decide (b<0)):=by rw[Wn];rfl
  rw[Tk,Tk,G,ai (F3 _ _ F),L7];dsimp only;rw[KY];have:=L7 a b;have H:(9223372036854775808:Int)*9223372036854775808=85070591730234615865843651857942052864:=by decide
  unfold eB;split at this<;>omega
 refine jN ?_ ?_
 .rw[ai (xd _)];refine jN ?_ ?_
  .rw[ai (xd _),iW];exact g
  .rw[ai (xd _)];exact g
 .rw[ai (xd _),ai (xd _)];exact g
theorem CA{β}[qL β](e)(f:Bool->Option β):aj.qq e f=aim e f:=rfl
theorem aaH{v n}(hv:cy v)(j:cy n):adJ (wide v) n=some (wide (v*n),0,()):=by
 show tp aj (wide v) n=_;unfold tp;have H:=Tj hv;have G:=Tj j;have C:=I5 (wide v) (mX v (ue hv));have y:=I5 (wide n) (mX n (ue j));rw[sG]at C y;have X:=Hq H G;have Y:(9223372036854775808:Int)*9223372036854775808=85070591730234615865843651857942052864:=by decide
 have V:(Ci (jb v)).1=0:=by show jb v / 18446744073709551616=0;omega
 have R:(Ci (jb v)).2.1=jb v:=by show jb v % 18446744073709551616=_;omega
 have K:(Ci (jb n)).2.1=jb n:=by show jb n % 18446744073709551616=_;omega
 rw[ai C,ai (K6 n j),ai y,V,R,K,ai (Yx (x:=0) (by omega) (by omega)),ai (Yx (x:=jb v) (by omega) (by omega)),Int.zero_mul]
 have W:IM (0 % 18446744073709551616:Int) (jb v*jb n / 18446744073709551616) 0=some (jb v*jb n / 18446744073709551616,0,()):=by
  rw[Tl];congr 1;refine iZ ?_ (iZ ?_ rfl)
  .dsimp only;omega
  .dsimp only;omega
 refine vC W ?_;rw[ai (xd _),Tk];have J:cY true (decide (v<0)==decide (n<0))=(decide (v<0) != decide (n<0)):=by rw[Wn];rfl
 show aj.ae (jg (Ci (jb v*jb n)) (cY true (decide (v<0)==decide (n<0)))) _=_;have F:eB (v*n):=by have:=L7 v n;unfold eB;split at this<;>omega
 rw[J,ai (F3 _ _ (by omega)),L7];refine tdy F ?_;rw[aQ (by decide),ai (Tm _ _),KY _ F];rfl
def oE(t:List bH)(id:Int):Option bH:=t.find? λi=>i.1==id
def ajx:bH:=(0,0,0,0,[],())
theorem amU{s:List Int}(h:s.length<=1000000):Dw s=some s:=by
 show iX aj s=_;unfold iX;rw[CA];refine xj ?_ λhe=>?_
 .refine zp (by decide) ?_;rw[c9];rfl
 .have:s=[]:=by simpa using he
  subst this;rfl
theorem aq1{s}{id}(hl:s.length<=1000000):o6 id s=some (yU (λi=>i.1==id) s,id,()):=by exact tX hl (λi:bH=>i.1==id) (λx (c:Int×Unit)=>JD aj c.1 x) (id,()) (λx _=>rfl)
theorem Tn{s}{id}(hl:s.length<=1000000):aq2 s id=some (yU (λi=>i.1==id) s):=by exact ai (aq1 hl) _
theorem N9{i}(h:i.2.2.2.2.1.length<=1000000):aaP i=some i:=by exact ai (amU h) _
theorem Xd{t}{id}(hl:t.length<=1000000)(hm:∀i∈t,i.2.2.2.2.1.length<=1000000):Vs t id=some (match oE t id with|some i=>(i,true,())|none=>(ajx,false,())):=by
 show px aj t id=_;unfold px oE;rw[ai (Tn hl)];rcases kT (λi:bH=>i.1==id) t with⟨h1,j⟩|⟨k,y,h1,j,_⟩
 .rw[h1,j];exact aQ (by decide) _ _
 .rw[h1,j,cQ (by omega),bN y];exact ai (N9 (hm _ (aF y))) _
theorem nW{X β}{f:X->(X->Option β)->Option β}(Q:Option β->Prop)(μ:X->Nat)(R:X->Prop){z:X}(F:R z)(hm:μ z<18446744073709551616)
 (h:∀z,R z->∀j:X->Option β,(∀y,R y->μ y<μ z->Q (j y))->Q (f z j)):Q (aj.aZ f z):=by
 have key:∀n z,R z->μ z<n->Q (xJ n f z):=by
  intro n;induction n with
  |zero=>intro z _ h;omega
  |succ n G=>intro z F hm;exact h z F _ λy C H=>G y C (by omega)
 exact key FU z F (by rw[O4];exact hm)
theorem aq3{X β}{N}(V:N<9223372036854775808){f:X->(X->Option β)->Option β}(st:Nat->X)(y:Nat->Prop)(r:Option β){z0:X}(J:z0=st 0)(K:y 0)
 (F:y N->∀j:X->Option β,f (st N) j=r) (C:∀i,i<N->y i->∀j:X->Option β,(y (i+1)->j (st (i+1))=r)->f (st i) j=r):aj.aZ f z0=r:=by
 subst J
 have key:∀n i,i<=N->N-i<n->y i->xJ n f (st i)=r:=by
  intro n;induction n with
  |zero=>intro i _ h;omega
  |succ n H=>
   intro i hi R hv;by_cases h:i<N
   .exact C i h hv _ λG=>H (i+1) (by omega) (by omega) G
   .have:i=N:=by omega
    subst this;exact F hv _
 exact key FU 0 (bE _) (by rw[O4];omega) K
theorem Xj{X β}{Q:Option β->Prop}{j:X->Option β}{f:(X->Option β)->Option β}(h:∀k,k=j->Q (f k)):Q (aj.aH j f):=h j rfl
def okI(i:bH):Prop:=(1<=i.2.1/\i.2.1<=65536)/\(0<=i.2.2.1/\i.2.2.1<2147483648)/\(0<=i.2.2.2.1/\i.2.2.2.1<2147483648)/\i.2.2.2.2.1.length<=8
def Uq(t:List bH):Prop:=(∀i∈t,okI i)/\t.length<=10
theorem Xl{β}{b:Int}(h:b≠0:=by omega)(K:Option β):aj.pV b K=K:=Wq h K
theorem jO{α}{p:α->Bool}{l:List α}(h:∀x∈l,p x=false):l.filter p=[]:=pG.2 λx j=>by simp[h x j]
theorem Bx{α}{p:α->Bool}{l:List α}(h:∀x∈l,p x=true):l.filter p=l:=lj.2 h
def Cj(a b:bh):Prop:=a.1<b.1\/(a.1=b.1/\a.2.1<b.2.1)
instance (a b:bh):Decidable (Cj a b):=by unfold Cj;infer_instance
def mM(x:bh):Prop:=(1<=x.1/\x.1<=4)/\(0<=x.2.1/\x.2.1<=255)/\0<x.2.2.1
instance (x:bh):Decidable (mM x):=by unfold mM;infer_instance
def FC(l:List bh):Prop:=(∀x∈l,mM x)/\l.Pairwise Cj/\l.length<=16
instance (l:List bh):Decidable (FC l):=by unfold FC;infer_instance
def Nf(l:List bh):Bool:=decide (FC l)
def b_(l:List bj):Prop:=(∀h∈l,h.2.1≠[]/\FC h.2.1)/\jP (l.map (·.1))
instance (l:List bj):Decidable (b_ l):=by unfold b_ jP;infer_instance
def CQ(l:List bj):Bool:=decide (b_ l)
def tM(l:List bh):Prop:=l.length<=20/\∀x∈l,cy x.2.2.1
def HS(l:List bj):Prop:=jP (l.map (·.1))/\∀h∈l,tM h.2.1
def eC:List bj->ar->List bh
 |[],_=>[]
 |h::l,u=>if h.1=u then h.2.1 else eC l u
def ed(l:List bj)(u:ar):List bj:=l.filter λh=>decide (h.1≠u)
theorem abt{l}(h:HS l)(u:ar):HS (ed l u):=by refine⟨?_,λx j=>h.2 x (aM.1 j).1⟩;have:List.Sublist ((ed l u).map (·.1)) (l.map (·.1)):=rG _ (fh);exact de this h.1
theorem pO{l}(h:∀x∈l,tM x.2.1)(u):tM (eC l u):=by
 induction l with
 |nil=>exact⟨by simp[eC],λx F=>by cases F⟩
 |cons x l j=>
  rw[eC];split
  .exact h x (by simp)
  .exact j λy C=>h y (by simp[C])
theorem YD(l)(u x):eC (ed l u) x=if x=u then[]else eC l x:=by
 induction l with
 |nil=>simp[ed,eC]
 |cons h l C=>
  unfold ed at C ⊢;rw[bw];by_cases y:h.1=u
  .rw[ag (by simpa using y),C,eC];by_cases j:x=u
   .rw[ah j,ah j]
   .rw[ag j,ag j,ag λe=>j (e.symm.trans y)]
  .rw[ah (by simpa using y),eC,eC,C];by_cases j:h.1=x
   .rw[ah j,ah j,ag λe=>y (j.trans e)]
   .rw[ag j,ag j]
def ara(k:Int)(l:List bh):Int:=eQ (λx=>if x.1=k then x.2.2.1 else 0) l
def abu(k:Int)(l:List bj):Int:=eQ (λh=>ara k h.2.1) l
theorem abv{l}(hs:jP (l.map (·.1)))(u:ar)(k:Int):abu k (ed l u)+ara k (eC l u)=abu k l:=by
 induction l with
 |nil=>rfl
 |cons h l y=>
  have⟨G,F⟩:=bz.1 hs;have y:=y F;unfold ed at y ⊢;rw[bw,eC];by_cases j:h.1=u
  .have e:l.filter (λh=>decide (h.1≠u))=l:=lj.2 λx C=>ap λe=>by have:nV h.1 x.1:=G _ (db C);rw[j,e]at this;exact jm u this
   rw[ag (by simpa using j),ah j,e];unfold abu;rw[dW];omega
  .rw[ah (by simpa using j),ag j];unfold abu at y ⊢;rw[dW,dW];omega
theorem JH{all}:∀{us:List ar} (acc:List aU),(∀u∈us,cy (me all u))->(AB all us acc).2.1=0
 |[],_,_=>rfl
 |u::us,acc,h=>by
  unfold AB;rw[ah (h u (by simp))];split
  .exact JH _ λx j=>h x (by simp[j])
  .exact JH _ λx j=>h x (by simp[j])
theorem xA{s}(h:s.length<=1000000):lv s=some s:=by
 show cX aj s=_;unfold cX;rw[CA];refine xj ?_ λj=>?_
 .refine zp (by decide) ?_;rw[c9];rfl
 .have:s=[]:=by simpa using j
  subst this;rfl
theorem KM{s}(h:s.length<=1000000):Iv s=some s:=by
 show jh aj s=_;unfold jh;rw[CA];refine xj ?_ λj=>?_
 .refine zp (by decide) ?_;rw[c9];rfl
 .have:s=[]:=by simpa using j
  subst this;rfl
def qC(l:List az):Prop:=(∀a∈l,a.2.2.2.1.length<=1000)/\l.length<=1000
theorem M0{l}(h:qC l):abw l=some l:=by
 have hl:=h.2;show rm aj l=_;refine qp (N:=l.length) (by omega) (λi=>((i:Int),l.take i,())) _ rfl ?_ ?_
 .intro j;refine FQ ?_;rw[bq]
 .intro i hi j C;have F:=h.1 _ (aF hi);have e:KL (l[i].1,l[i].2.1,l[i].2.2.1,l[i].2.2.2.1,())=some l[i]:=by show mS aj l[i]=_;unfold mS;rw[ai (KM (by omega))]
  show aj.af (decide ((i:Int)<(l.length:Int))) (aj.aI l (i:Int) λy=>aj.ae (KL (y.1,y.2.1,y.2.2.1,y.2.2.2.1,())) λv4=>aj.bg ((l.take i).length+1) 48 (j (i64.wrap ((i:Int)+1),l.take i++[(v4.1,v4.2.1,v4.2.2.1,v4.2.2.2.1,())],()))) _=_;have:(l.take i).length<=1000:=by rw[aY];omega
  rw[dk hi,bN hi,ai e,c9,cJ i];rw[aw hi]at C;exact C
def p9(id:Int)(a:az):Bool:=decide (a.2.1=id)
def cd(a:az):List ar:=if a.2.2.1=1 then[(a.1,0,())]else a.2.2.2.1.map λc=>(a.1,c,())
theorem xt{a}(h:a.2.2.2.1.length<=1000):wL (a.1,a.2.1,a.2.2.1,a.2.2.2.1,())=some (cd a):=by
 show ji aj a=_;unfold ji cd;refine dE (λy=>?_) λy=>?_
 .rw[ah y]
 .rw[ag y];refine qp (N:=a.2.2.2.1.length) (by omega) (λi=>((i:Int),(a.2.2.2.1.take i).map λc=>((a.1,c,()):ar),())) _ rfl ?_ ?_
  .intro j;refine FQ ?_;rw[bq]
  .intro i hi j C;show aj.af (decide ((i:Int)<(a.2.2.2.1.length:Int))) (aj.aI a.2.2.2.1 (i:Int) λF=>aj.bg (((a.2.2.2.1.take i).map λc=>((a.1,c,()):ar)).length+1) 16 (j (i64.wrap ((i:Int)+1),(a.2.2.2.1.take i).map (λc=>((a.1,c,()):ar))++[(a.1,F,())],()))) _=_;have:((a.2.2.2.1.take i).map λc=>((a.1,c,()):ar)).length<=1000:=by rw[bp,aY];omega
   rw[dk hi,bN hi,c9,cJ i];rw[aw hi,cC]at C;exact C
theorem Eb{a}(h:a.2.2.2.1.length<=1000):(cd a).length<=1000:=by
 unfold cd;split
 .simp
 .rw[bp];exact h
theorem axo(fe)(hl:fe.length<=1000000):∃r,anC fe=some r:=by
 refine nW (λo=>∃r,o=some r) (λz=>fe.length+1-z.1.toNat) (λz=>∃j:Nat,j<=fe.length/\z=((j:Int),())) ⟨0,bE _,rfl⟩ (by dsimp only;omega) ?_;rintro _ ⟨j,G,rfl⟩ y F;by_cases h:j<fe.length
 .rw[dk h];show ∃r,aj.aI fe (j:Int) _=some r;rw[bN h];by_cases C:fe[j]=0
  .rw[aB (by simp[C])];dsimp only;rw[cJ j];exact F _ ⟨j+1,by omega,rfl⟩ (by dsimp only;omega)
  .rw[aQ (by simp[C])];exact⟨_,rfl⟩
 .have:j=fe.length:=by omega
  subst this;rw[dT];exact⟨_,rfl⟩
theorem anD{α}{f}{l:List α}{i:Nat}(hi:i<l.length)(inv:jP ((l.take i).map f))(K:∀R:0<i,nV (f (l[i-1]'(by omega))) (f l[i])):jP ((l.take (i+1)).map f):=by
 rw[aw hi,cC];refine dv.2 ⟨inv,by simp,λa J b hb=>?_⟩;simp only[bK,nQ,ax]at hb;subst hb;have⟨k,C,j⟩:=dr.1 J;have H:k<i:=by simp at C;omega
 have G:=K (by omega);by_cases y:k=i-1
 .subst y;rw[<-j];simpa using G
 .have F:=bP.1 inv k (i-1) (by simpa using C) (by simp;omega) (by omega);rw[j]at F;refine rS F ?_;simpa using G
def kL(l:List bj):Prop:=(∀h∈l,tM h.2.1)/\l.length<=400000
theorem yZ{l}{u}(h:kL l):Hv l u=some (eC l u):=by
 have hl:=h.2;refine gB (l:=l) (by omega) (s0:=()) (λ_ _=>True) (λl' _=>some (eC l' u)) trivial ?_ ?_
 .rintro _ j _;rw[dT];rfl
 .rintro i hi _ _ j y;have C:=(h.1 _ (aF hi)).1;rw[dk hi,bN hi,Td,eqA];rw[eC];refine dh (λh=>?_) λh=>?_
  .rw[ah h,ai (xA (by omega))]
  .rw[ag h];dsimp only;rw[cJ i];exact y _ trivial
theorem avf{l}{u}(h:kL l):abd l u []=some (ed l u):=by
 have hl:=h.2;have one:(aj.ae (lv []) λv1=>
 aj.aZ (λj J=>
  aj.af (decide (j.2.1<(l.length:Int))) (
   aj.aH (λz4=>(J (z4.1,IntKind.i64.wrap (j.2.1+1),j.2.2.1,j.2.2.2.1,j.2.2.2.2.1,z4.2.1,())))
    λX=>aj.aI l j.2.1 λW=>
    aj.aH (λK=>
     aj.af (cY true ((W.1.1==u.1)&&(W.1.2.1==u.2.1))) (aj.ae (lv W.2.1) λv8=>aj.bg (K.2.1.length+((W.1,v8,())::[]).length) 40 (X (K.1,K.2.1++((W.1,v8,())::[]),())))
      (
      aj.af (!K.1) (aj.bg (K.2.1.length+(((j.2.2.1,j.2.2.2.1,()),j.2.2.2.2.1,())::[]).length) 40 (X (true,K.2.1++(((j.2.2.1,j.2.2.2.1,()),j.2.2.2.2.1,())::[]),()))) (X (K.1,K.2.1,()))))
     λY=>
     aj.aH (λF=>
      aj.af F.1 (aj.bg (F.2.1.length+(((j.2.2.1,j.2.2.2.1,()),j.2.2.2.2.1,())::[]).length) 40 (Y (true,F.2.1++(((j.2.2.1,j.2.2.2.1,()),j.2.2.2.2.1,())::[]),()))) (Y (j.1,F.2.1,())))
      λC=>
      aj.af (!j.1) (aj.ae (Ob u W.1) λv12=>(C (v12,j.2.2.2.2.2.1,()))) (C (false,j.2.2.2.2.2.1,())))
   (
   aj.aH (λz13=>some z13.1)
    λG=>
    aj.af (!j.1) (aj.bg (j.2.2.2.2.2.1.length+(((j.2.2.1,j.2.2.2.1,()),j.2.2.2.2.1,())::[]).length) 40 (G (j.2.2.2.2.2.1++(((j.2.2.1,j.2.2.2.1,()),j.2.2.2.2.1,())::[]),()))) (G (j.2.2.2.2.2.1,()))))
  ((([]:List bh).length:Int)==0,0,u.1,u.2.1,v1,[],()))=some (ed l u):=by
   rw[ai (xA (s:=[]) (by simp))];refine qp (N:=l.length) (by omega) (λi=>(true,(i:Int),u.1,u.2.1,[],ed (l.take i) u,())) _ rfl ?_ ?_
   .intro V;refine FQ ?_;refine bB λG hk=>?_
    have kk:∀x,G (x,())=some x:=by intro x;subst hk;rfl
    clear hk;refine zp (by rfl) ?_;rw[kk,bq]
   .intro i hi V ha;have h2:=(h.1 _ (aF hi)).1;have hwl:(ed (l.take i) u).length<=400000:=bU (cR _ _) (by rw[aY];omega);refine Ii hi ?_;refine bB λX hk5=>?_
    have y:X (true,ed (l.take (i+1)) u,())=some (ed l u):=by subst hk5;dsimp only;rw[cJ i];exact ha
    clear hk5 ha;refine tix hi ?_
    have es:ed (l.take (i+1)) u=if l[i].1=u then ed (l.take i) u else ed (l.take i) u++[l[i]]:=by
     unfold ed;rw[aw hi,e8,bw,p8];by_cases H:l[i].1=u
     .rw[ah H,ag (by simpa using H),cz]
     .rw[ag H,ah (by simpa using H)]
    rw[es]at y;refine bB λY hk9=>?_
    have k9':Y (true,ed (l.take i) u,())=some (ed l u):=by
     subst hk9;show aj.af (cY true ((l[i].1.1==u.1)&&(l[i].1.2.1==u.2.1))) _ _=_;rw[Wn,eqA];by_cases H:l[i].1=u
     .rw[ah H]at y;rw[aB (by simp[H])];refine zp (by rfl) ?_;exact y
     .rw[ag H]at y;rw[aQ (by simp[H]),ai (xA (by omega))];show aj.bg ((ed (l.take i) u).length+1) 40 (X (true,ed (l.take i) u++[l[i]],()))=_;rw[c9];exact y
    clear hk9;refine bB λC R=>?_
    have ay4:C (false,ed (l.take i) u,())=some (ed l u):=by subst R;show aj.af false _ (Y (true,ed (l.take i) u,()))=_;rw[aB rfl];exact k9'
    clear R;show aj.af (!true) _ (C (false,ed (l.take i) u,()))=_;rw[aB (by rfl)];exact ay4
 exact jN one one
def pu(s:aV):List aU:=s.2.2.2.2.2.2.2.2.2.2.1
def ho(s:aV):List bj:=s.2.2.2.2.2.2.2.2.2.2.2.1
def fX(s:aV)(p:List aU)(h:List bj):aV:=(s.1,s.2.1,s.2.2.1,s.2.2.2.1,s.2.2.2.2.1,s.2.2.2.2.2.1,s.2.2.2.2.2.2.1,s.2.2.2.2.2.2.2.1,s.2.2.2.2.2.2.2.2.1,s.2.2.2.2.2.2.2.2.2.1,p,h,())
def av4(a:az):Prop:=1<=a.1/\a.2.2.2.1.Pairwise (· < ·)
def C1(x y:Int):Int:=if x<y then -1 else if y<x then 1 else 0
theorem YF(x y):Pg x y=some (C1 x y):=by
 show py aj x y=_;unfold py C1;have e:∀x:Int,WE x=some false:=λx=>by show some (x != x)=_;simp
 rw[ai (e x),ai (e y),aB rfl,aB rfl];refine dh (λh=>?_) λh=>?_
 .rw[ah h]
 .rw[ag h];refine dh (λj=>?_) λj=>?_
  .rw[ah j]
  .rw[ag j]
def orI:List Int->Int
 |[]=>0
 |x::l=>if x=0 then orI l else x
theorem axq(l)(hl:l.length<=1000000):anC l=some (orI l):=by
 refine gB (l:=l) (by omega) (s0:=()) (λ_ _=>True) (λl' _=>some (orI l')) trivial ?_ ?_
 .rintro _ j _;rw[dT];rfl
 .rintro i hi _ _ j C;rw[dk hi,bN hi];rw[orI];by_cases y:l[i]=0
  .rw[aB (by simp[y]),ah y];dsimp only;rw[cJ i];exact C _ trivial
  .rw[aQ (by simp[y]),ag y]
theorem Hs(a b:bh):Ja a b=some (orI [C1 a.1 b.1,C1 a.2.1 b.2.1]):=by show qR aj a b=_;unfold qR;rw[ai (YF _ _),ai (YF _ _),ai (axq _ (by simp))]
theorem aiP(a b:bh):decide (0<=orI [C1 a.1 b.1,C1 a.2.1 b.2.1])=!decide (Cj a b):=by
 unfold Cj;simp only[orI,C1];by_cases C:a.1<b.1
 .simp[C]
 .by_cases G:b.1<a.1
  .have j:¬a.1=b.1:=by omega
   simp[C,G,j]
  .have j:a.1=b.1:=by omega
   by_cases y:a.2.1<b.2.1
   .simp[j,y]
   .by_cases F:b.2.1<a.2.1<;>simp[j,y,F]
theorem Vz(x:bh):aei x=some (decide (mM x)):=by
 show tv aj x=_;unfold tv mM;refine dh (λF=>?_) λF=>?_
 .refine dh (λC=>?_) λC=>?_
  .refine dh (λy=>?_) λy=>?_
   .refine dh (λj=>?_) λj=>?_
    .simp[F,C,y,j]
    .simp[j]
   .simp[y]
  .simp[C]
 .simp[F]
def LP(l:List bh):Prop:=(∀x∈l,mM x)/\l.Pairwise Cj
theorem acD{a b c}(y:Cj a b)(j:Cj b c):Cj a c:=by unfold Cj at *;omega
theorem agK{l:List bh}{i:Nat}(hi:i<l.length)(inv:LP (l.take i))(V:mM l[i])(R:∀W:0<i,Cj (l[i-1]'(by omega)) l[i]):LP (l.take (i+1)):=by
 rw[aw hi];refine⟨λx j=>?_,?_⟩
 .rcases aX.1 j with j|j
  .exact inv.1 x j
  .simp at j;rw[j];exact V
 .refine dv.2 ⟨inv.2,by simp,λa K b hb=>?_⟩;simp only[ax]at hb;subst hb;have⟨k,F,y⟩:=dr.1 K;have J:k<i:=by simp at F;omega
  have H:=R (by omega);by_cases C:k=i-1
  .subst C;rw[<-y];simpa using H
  .have G:=bP.1 inv.2 k (i-1) (by simpa using F) (by simp;omega) (by omega);rw[y]at G;refine acD G ?_;simpa using H
theorem ard{l:List bh}(h:LP (l.take l.length)):Nf l=decide ((l.length:Int)<=16):=by rw[bq]at h;unfold Nf FC;refine dM.2 ⟨λh=>by omega,λj=>⟨h.1,h.2,by omega⟩⟩
theorem anG{l:List bh}{i:Nat}(hi:i<l.length)(h:¬mM l[i]):Nf l=false:=an λj=>h (j.1 _ (aF hi))
theorem anH{l:List bh}{i:Nat}(hi:i<l.length)(y:0<i)(h:¬Cj (l[i-1]'(by omega)) l[i]):Nf l=false:=an λj=>h (bP.1 j.2.1 (i-1) i (by omega) hi (by omega))
theorem Rq{l:List bh}(hl:l.length<=1000000):agJ l=some (Nf l):=by
 refine Et (N:=l.length) (by omega) (λi _=>LP (l.take i)) (some (Nf l)) (by simp[LP]) ?_ ?_
 .rintro _ j h;rw[dT,ard h]
 .rintro i hi _ inv j K;rw[dk hi,bN hi];refine bB λk J=>?_
  have G:k (true,())=some false:=by subst J;rfl
  have H:k (false,())=j (((i+1:Nat):Int),()):=by rw[<-cJ i];subst J;rfl
  rw[ai (Vz _)];by_cases y:mM l[i]
  .rw[aB (by simp[y])];by_cases F:0<i
   .rw[eA (by omega),Aq i F (by rw[gC];omega),bN,ai (Hs _ _),iW,aiP];by_cases C:Cj (l[i-1]'(by omega)) l[i]
    .rw[ap C];exact H.trans (K _ (agK hi inv y λ_=>C))
    .rw[an C,anH hi F C];exact G
   .rw[cQ (by omega),iW];exact H.trans (K _ (agK hi inv y λh=>absurd h F))
  .rw[aQ (by simp[y]),iW,G,anG hi y]
def HP(l:List bj):Prop:=(∀h∈l,h.2.1≠[]/\FC h.2.1)/\jP (l.map (·.1))
theorem agL{l:List bj}{i:Nat}(hi:i<l.length)(inv:HP (l.take i))(C:l[i].2.1≠[]/\FC l[i].2.1)(y:∀F:0<i,nV (l[i-1]'(by omega)).1 l[i].1):HP (l.take (i+1)):=by
 refine⟨λx j=>?_,anD hi inv.2 y⟩;rw[aw hi]at j;rcases aX.1 j with j|j
 .exact inv.1 x j
 .simp at j;rw[j];exact C
theorem are{l:List bj}(h:HP (l.take l.length)):CQ l=true:=by rw[bq]at h;exact ap h
theorem anI{l:List bj}{i:Nat}(hi:i<l.length)(h:l[i].2.1=[]):CQ l=false:=an λj=>(j.1 _ (aF hi)).1 h
theorem anJ{l:List bj}{i:Nat}(hi:i<l.length)(h:Nf l[i].2.1=false):CQ l=false:=an λj=>of_decide_eq_false h (j.1 _ (aF hi)).2
theorem anK{l:List bj}{i:Nat}(hi:i<l.length)(y:0<i)(h:¬nV (l[i-1]'(by omega)).1 l[i].1):CQ l=false:=an λj=>h (by have:=bP.1 j.2 (i-1) i (by simp;omega) (by simpa using hi) (by omega);simpa using this)
theorem Jc{l:List bj}(h:kL l):Qu l=some (CQ l):=by
 have hl:=h.2;refine Et (N:=l.length) (by omega) (λi _=>HP (l.take i)) (some (CQ l)) (by simp[HP,jP]) ?_ ?_
 .rintro _ j h;rw[dT,are h]
 .rintro i hi _ inv j R;rw[dk hi,bN hi];refine bB λk K=>?_
  have F:k (true,())=some false:=by subst K;rfl
  have J:k (false,())=j (((i+1:Nat):Int),()):=by rw[<-cJ i];subst K;rfl
  by_cases y:l[i].2.1=[]
  .rw[aQ (by rw[y];rfl),iW,F,anI hi y]
  .have G:((l[i].2.1.length:Int)==0)=false:=by
    cases V:l[i].2.1 with
    |nil=>exact absurd V y
    |cons x xs=>simp;omega
   rw[aB G,ai (Rq (by have:=(h.1 _ (aF hi)).1;omega))];cases hL:Nf l[i].2.1 with
   |false=>rw[aQ (by rfl),iW,F,anJ hi hL]
   |true=>
    rw[aB (by rfl)];by_cases H:0<i
    .rw[eA (by omega),Aq i H (by rw[gC];omega),bN,ai (BJ _ _),iW];by_cases C:nV (l[i-1]'(by omega)).1 l[i].1
     .rw[ap C];exact J.trans (R _ (agL hi inv ⟨y,bD hL⟩ λ_=>C))
     .rw[an C,anK hi H C];exact F
    .rw[cQ (by omega),iW];exact J.trans (R _ (agL hi inv ⟨y,bD hL⟩ λh=>absurd h H))
theorem aiN{l}(h:CQ l=true)(u):CQ (ed l u)=true:=by have h:=bD h;refine ap ⟨λx j=>h.1 x (aM.1 j).1,?_⟩;exact de ((fh).map _) h.2
def It(u:ar)(l:List bj):List bj:=l.filter λp=>decide (nV p.1 u)
def adS(u:ar)(l:List bj):List bj:=l.filter λp=>decide (p.1=u)
def Az(u:ar)(l:List bj):List bj:=l.filter λp=>decide (nV u p.1)
theorem auO(u):∀{l:List bj},jP (l.map (·.1))->l=It u l++(adS u l++Az u l)
 |[],_=>rfl
 |p::l,h=>by
  have⟨y,R⟩:=bz.1 h;have y:∀x∈l,nV p.1 x.1:=λx j=>y _ (db j)
  have J:=auO u (l:=l) R;unfold It adS Az at J ⊢;rw[bw,bw,bw];by_cases G:nV p.1 u
  .have V:¬p.1=u:=λe=>jm u (by rw[e]at G;exact G)
   have C:¬nV u p.1:=λe=>CB G e
   rw[ah (by simpa using G),ag (by simpa using V),ag (by simpa using C),jk,<-J]
  .by_cases F:p.1=u
   .have C:¬nV u p.1:=by rw[F];exact jm u
    have H:∀x∈l,decide (nV x.1 u)=false:=λx j=>an λe=>CB e (by rw[<-F];exact y x j)
    have a2:∀x∈l,decide (x.1=u)=false:=λx j=>an λe=>jm u (by have:=y x j;rw[F,e]at this;exact this)
    have a3:∀x∈l,decide (nV u x.1)=true:=λx j=>ap (by rw[<-F];exact y x j)
    rw[ag (by simpa using G),ah (by simpa using F),ag (by simpa using C),jO H,jO a2,Bx a3];rfl
   .have C:=cT λK=>F (Eo G K)
    have H:∀x∈l,decide (nV x.1 u)=false:=λx j=>an λe=>CB (rS C (y x j)) e
    have a2:∀x∈l,decide (x.1=u)=false:=λx j=>an λe=>jm u (by have:=rS C (y x j);rw[e]at this;exact this)
    have a3:∀x∈l,decide (nV u x.1)=true:=λx j=>ap (rS C (y x j))
    rw[ag (by simpa using G),ag (by simpa using F),ah (by simpa using C),jO H,jO a2,Bx a3];rfl
theorem atu{l:List bj}(h:jP (l.map (·.1))):(l.map (·.1)).Nodup:=Nl h
theorem aiC{l}(h:(l.map (·.1)).Nodup){p}(j:p∈l):eC l p.1=p.2.1:=by
 induction l with
 |nil=>cases j
 |cons x l y=>
  have⟨F,C⟩:=fw.1 h;rw[eC];rcases aG.1 j with rfl|j
  .rw[ah rfl]
  .rw[ag λe=>F (by show x.1∈_;rw[e];exact db j),y C j]
theorem adT{l}{u}(h:∀p∈l,p.1≠u):eC l u=[]:=by
 induction l with
 |nil=>rfl
 |cons x l j=>rw[eC,ag (h x (by simp)),j λy C=>h y (by simp[C])]
theorem acI{l:List bj}(h:jP (l.map (·.1)))(u:ar):(adS u l=[]/\(∀p∈l,p.1≠u)/\eC l u=[])\/(adS u l=[(u,eC l u,())]/\(u,eC l u,())∈l):=by
 by_cases F:∃p∈l,p.1=u
 .right;obtain⟨p,j,rfl⟩:=F;have e:=aiC (atu h) j;have J:((p.1,eC l p.1,()):bj)=p:=by rw[e]
  rw[J];refine⟨?_,j⟩;have R:=atu h;clear h e J;induction l with
  |nil=>cases j
  |cons x l G=>
   have⟨H,V⟩:=fw.1 R;unfold adS at G ⊢;rw[bw];rcases aG.1 j with rfl|j
   .rw[ah (by simp),jO λy K=>an λe=>H (by show p.1∈_;rw[<-e];exact db K)]
   .rw[ag (by simpa using λe=>H (by show x.1∈_;rw[e];exact db j)),G j V]
 .left;have C:∀p∈l,p.1≠u:=λp j e=>F ⟨p,j,e⟩
  exact⟨jO λp j=>an (C p j),C,adT C⟩
def Ij(l:List bj)(u:ar)(j:List bh):List bj:=It u l++((if j=[]then[]else[(u,j,())])++Az u l)
theorem Ru{l}(h:jP (l.map (·.1)))(u:ar)(j:List bh):(Ij l u j).length<=l.length+1:=by have y:=bQ List.length (auO u h);unfold Ij;rw[aq,aq]at y;rw[aq,aq];split<;>simp<;>omega
theorem F8{l}{u}{now}{p}:p∈Ij l u now↔(p∈l/\p.1≠u)\/(now≠[]/\p=(u,now,())):=by
 unfold Ij It Az;rw[aX,aX,aM,aM];constructor
 .rintro(⟨y,j⟩|h|⟨y,j⟩)
  .exact .inl ⟨y,λe=>jm u (by simp only[bc]at j;rw[e]at j;exact j)⟩
  .split at h
   .cases h
   .rename_i G;exact .inr ⟨G,by simpa using h⟩
  .exact .inl ⟨y,λe=>jm u (by simp only[bc]at j;rw[e]at j;exact j)⟩
 .rintro(⟨y,j⟩|⟨G,rfl⟩)
  .by_cases C:nV p.1 u
   .exact .inl ⟨y,by simpa using C⟩
   .by_cases F:nV u p.1
    .exact .inr (.inr ⟨y,by simpa using F⟩)
    .exact absurd (Eo C F) j
  .rw[ag G];exact .inr (.inl (by simp))
theorem k_{l}(h:jP (l.map (·.1)))(u:ar)(F:List bh):jP ((Ij l u F).map (·.1)):=by
 unfold Ij;rw[cC,cC];have C:∀x∈(It u l).map (·.1),nV x u:=λx G=>by obtain⟨p,J,rfl⟩:=aN.1 G;simpa using(aM.1 J).2
 have j:∀x∈(Az u l).map (·.1),nV u x:=λx G=>by obtain⟨p,J,rfl⟩:=aN.1 G;simpa using(aM.1 J).2
 have R:jP ((It u l).map (·.1)):=de ((fh).map _) h;have K:jP ((Az u l).map (·.1)):=de ((fh).map _) h
 have y:∀x∈(if F=[]then([]:List bj)else[(u,F,())]).map (·.1),x=u:=λx G=>by
  split at G
  .cases G
  .simpa using G
 refine dv.2 ⟨R,dv.2 ⟨?_,K,λa H b hb=>?_⟩,λa H b hb=>?_⟩
 .split<;>simp
 .rw[y a H];exact j b hb
 .rcases aX.1 hb with hb|hb
  .rw[y b hb];exact C a H
  .exact rS (C a H) (j b hb)
def uP(u:ar)(j:List bh):List bj->Bool->List bj->List bj
 |[],d,out=>if d=true then out else out++[(u,j,())]
 |p::l,d,out=>
  if d=true\/nV p.1 u then(if p.1=u then uP u j l d out else uP u j l d (out++[p]))
  else(if p.1=u then uP u j l true (out++[(u,j,())])else uP u j l true (out++[(u,j,())]++[p]))
theorem L8(u)(now):∀(l out:List bj),uP u now l true out=out++l.filter λp=>decide (p.1≠u)
 |[],out=>by rw[uP,ah rfl,p8,cz]
 |p::l,out=>by
  rw[uP,ah (.inl rfl),bw];by_cases h:p.1=u
  .rw[ah h,L8 u now l,ag (by simpa using h)]
  .rw[ag h,L8 u now l,ah (by simpa using h),bn];rfl
theorem ag7{u}{l:List bj}(h:jP (l.map (·.1))):(l.filter λp=>decide (p.1≠u))=It u l++Az u l:=by
 have e:=auO u h
 have C:(It u l).filter (λp=>decide (p.1≠u))=It u l:=Bx λx j=>ap λe=>by
  have:=(aM.1 j).2
  simp only[bc]at this
  rw[e]at this;exact jm u this
 have a2:(adS u l).filter (λp=>decide (p.1≠u))=[]:=jO λx j=>an λy=>by
  have:=(aM.1 j).2
  simp only[bc]at this
  exact y this
 have a3:(Az u l).filter (λp=>decide (p.1≠u))=Az u l:=Bx λx j=>ap λe=>by
  have:=(aM.1 j).2
  simp only[bc]at this
  rw[e]at this;exact jm u this
 calc (l.filter λp=>decide (p.1≠u))=(It u l++(adS u l++Az u l)).filter (λp=>decide (p.1≠u)):=by rw[<-e]
  _=It u l++Az u l:=by rw[e8,e8,C,a2,a3];rfl
theorem ag8(u)(y:List bh):∀(l out:List bj),jP (l.map (·.1))->uP u y l false out=out++(It u l++([(u,y,())]++Az u l))
 |[],out,_=>by rw[uP,ag (by simp)];rfl
 |p::l,out,h=>by
  have⟨R,V⟩:=bz.1 h;have R:∀x∈l,nV p.1 x.1:=λx C=>R _ (db C)
  rw[uP];by_cases j:nV p.1 u
  .have F:¬p.1=u:=λe=>jm u (by rw[e]at j;exact j)
   rw[ah (.inr j),ag F,ag8 u y l _ V];have J:It u (p::l)=p::It u l:=by unfold It;rw[bw,ah (by simpa using j)]
   have H:Az u (p::l)=Az u l:=by unfold Az;rw[bw,ag (by simpa using λe=>CB j e)]
   rw[J,H,bn];rfl
  .rw[ag (by simpa using j)]
   have K:∀x∈p::l,¬nV x.1 u:=by
    intro x C G;rcases aG.1 C with rfl|C
    .exact j G
    .exact j (rS (R x C) G)
   have J:It u (p::l)=[]:=jO λx C=>an (K x C)
   have H:=ag7 (u:=u) h;rw[J,da]at H;rw[J,<-H,bw];by_cases F:p.1=u
   .rw[ah F,ag (by simpa using F),L8,bn];rfl
   .rw[ag F,ah (by simpa using F),L8];simp only[bn,da,jk]
theorem aiD{l}(h:jP (l.map (·.1)))(u:ar)(j:List bh):uP u j l (decide (j=[])) []=Ij l u j:=by
 unfold Ij;by_cases y:j=[]
 .rw[ap y,L8,ah y,ag7 h];rfl
 .rw[an y,ag8 u j l [] h,ag y];rfl
def OK(l:List bj)(f t:ar):List bj×Int×Unit:=if CQ l=true then(if f=t then([],24,())else if eC l t=[]then(Ij (Ij l f []) t (eC l f),0,())else([],21,()))else([],3,())
theorem aqG{l}(h:CQ l=true):jP (l.map (·.1)):=(bD h).2
theorem Rt{l}(h:kL l)(hl:l.length<=390000)(hs:jP (l.map (·.1)))(u:ar){all:List bh}(y:tM all):kL (Ij l u all):=
 ⟨λp j=>by
  rcases F8.1 j with⟨h1,_⟩|⟨_,rfl⟩
  .exact h.1 p h1
  .exact y,by have:=Ru hs u all;omega⟩
theorem y0:tM []:=⟨by simp,λx j=>by cases j⟩
def Fi(l:List bA)(u:ar):List bA:=l.filter λc=>decide (c.1≠u)
theorem tW(v x:ar):cY false ((v.1==x.1)&&(v.2.1==x.2.1))=decide (v=x):=by rw[Td];exact eqA v x
theorem Xr{l}{u}{all}(h:kL l)(hs:jP (l.map (·.1)))(hal:all.length<=1000):abd l u all=some (Ij l u all):=by
 have hl:=h.2;show zy aj l u all=_;rw[<-aiD hs];refine jN ?_ ?_<;>
 .rw[ai (xA (s:=all) (by omega))]
  have hz:((all.length:Int)==0)=decide (all=[]):=by
   cases all with
   |nil=>rfl
   |cons x xs=>simp;omega
  rw[hz];refine mz (l:=l) (s0:=(decide (all=[]),[])) (by omega) (λi (z:Bool×List bj)=>(z.1,(i:Int),u.1,u.2.1,all,z.2,())) (λi z=>z.2.length<=2*i) (λl' z=>some (uP u all l' z.1 z.2)) rfl (by simp) ?_ ?_
  .rintro⟨d,out⟩ ho Y;refine FQ ?_;refine bB λk hk=>?_
   have kk:∀x,k (x,())=some x:=by intro x;subst hk;rfl
   clear hk;simp only at ho;show aj.af (!d) (aj.bg (out.length+1) 40 (k (out++[(u,all,())],()))) (k (out,()))=some (uP u all [] d out);cases d with
   |true=>rw[aB (by rfl),kk,uP,ah rfl]
   |false=>rw[aQ (by rfl),c9,kk,uP,ag (by decide)]
  .rintro i hi ⟨d,out⟩ ho Y ha;simp only at ho;have h2:=(h.1 _ (aF hi)).1;refine Ii hi ?_;refine bB λk5 hk5=>?_
   have R:∀(C:Bool) (j:List bj),j.length<=2*(i+1)->k5 (C,j,())=some (uP u all (l.drop (i+1)) C j):=by intro C j V;rw[<-ha (C,j) V];subst hk5;dsimp only;rw[cJ i]
   clear hk5 ha;refine tix hi ?_;rw[uP];refine bB λk9 X=>?_
   have k9u:l[i].1=u->∀(C:Bool) (j:List bj),j.length<=2*i+1->k9 (C,j,())=some (uP u all (l.drop (i+1)) true (if C=true then j else j++[(u,all,())])):=by
    intro y C j V;subst X;show aj.af (cY true ((l[i].1.1==u.1)&&(l[i].1.2.1==u.2.1))) _ _=_;rw[Wn,eqA,aB (by simp[y])];show aj.af (!C) (aj.bg (j.length+1) 40 (k5 (true,j++[(u,all,())],()))) (k5 (C,j,()))=_;cases C with
    |true=>rw[aB (by rfl),ah rfl,R true j (by omega)]
    |false=>rw[aQ (by rfl),ag (by decide),c9,R true _ (by rw[aq];simp;omega)]
   have K:¬l[i].1=u->∀(C:Bool) (j:List bj),j.length<=2*i+1->k9 (C,j,())=some (uP u all (l.drop (i+1)) C (j++[l[i]])):=by intro y C j V;subst X;show aj.af (cY true ((l[i].1.1==u.1)&&(l[i].1.2.1==u.2.1))) _ _=_;rw[Wn,eqA,aQ (by simp[y]),ai (xA (by omega))];show aj.bg (j.length+1) 40 (k5 (C,j++[l[i]],()))=_;rw[c9,R C _ (by rw[aq];simp;omega)]
   clear X;refine bB λH G=>?_
   have ay1:H (true,out,())=k9 (true,out++[(u,all,())],()):=by subst G;show aj.af true (aj.bg (out.length+1) 40 (k9 (true,out++[(u,all,())],()))) _=_;rw[aQ rfl,c9]
   have J:H (false,out,())=k9 (d,out,()):=by subst G;show aj.af false _ (k9 (d,out,()))=_;rw[aB rfl]
   clear G;show aj.af (!d) (aj.ae (Ob u l[i].1) λv=>H (v,out,())) (H (false,out,()))=_;cases d with
   |true=>
    rw[aB (by rfl),J,ah (.inl rfl)];by_cases y:l[i].1=u
    .rw[ah y,k9u y true out (by omega),ah rfl]
    .rw[ag y,K y true out (by omega)]
   |false=>
    rw[aQ (by rfl),ai (BJ _ _)];by_cases F:nV u l[i].1
    .have W:¬nV l[i].1 u:=λe=>CB F e
     have y:¬l[i].1=u:=λe=>jm u (by rw[e]at F;exact F)
     rw[ap F,ay1,K y true _ (by rw[aq];simp;omega),ag (by simpa using W),ag y]
    .rw[an F,J];by_cases y:l[i].1=u
     .have W:¬nV l[i].1 u:=by rw[y];exact jm u
      rw[k9u y false out (by omega),ag (by decide),ag (by simpa using W),ah y]
     .have W:nV l[i].1 u:=cT λW=>y (Eo W F)
      rw[K y false out (by omega),ah (.inr W),ag y]
theorem ar7(a)(id):ahd id a=some (!(p9 id a),id,()):=by show some (a.2.1 != id,id,())=_;unfold p9;by_cases h:a.2.1=id<;>simp[h]
theorem avv{l}{id}(hl:l.length<=1000000):
 (ij id l=some (-1,id,())/\∀a∈l,p9 id a=true)\/
 ∃i:Nat,i<l.length/\ij id l=some ((i:Int),id,())/\(∀a∈l.take i,p9 id a=true)/\∀h:i<l.length,p9 id l[i]=false:=by
 refine nW (λo=>(o=some ((-1:Int),id,())/\∀a∈l,p9 id a=true)\/∃i:Nat,i<l.length/\o=some ((i:Int),id,())/\(∀a∈l.take i,p9 id a=true)/\∀h:i<l.length,p9 id l[i]=false) (λz=>l.length+1-z.1.toNat) (λz=>∃j:Nat,j<=l.length/\z=((j:Int),id,())/\∀a∈l.take j,p9 id a=true) ⟨0,bE _,rfl,by simp⟩ (by dsimp only;omega) ?_;rintro _ ⟨j,G,rfl,y⟩ C F;by_cases h:j<l.length
 .rw[dk h];show(aj.aI l (j:Int) _=_/\_)\/∃i:Nat,_/\aj.aI l (j:Int) _=_/\_;rw[bN h,ai (show vZ aj id l[j]=_ from ar7 _ _)];by_cases hv:p9 id l[j]=true
  .rw[hv,aB (by rfl)];dsimp only;rw[cJ j];refine F _ ⟨j+1,by omega,rfl,λa hm=>?_⟩ (by dsimp only;omega);rw[aw h]at hm;rcases aX.1 hm with hm|hm
   .exact y a hm
   .simp only[ax]at hm;subst hm;exact hv
  .have hv:p9 id l[j]=false:=by simpa using hv
   rw[hv,aQ (by rfl)];exact .inr ⟨j,h,rfl,y,λ_=>hv⟩
 .have:j=l.length:=by omega
  subst this;rw[dT];rw[bq]at y;exact .inl ⟨rfl,y⟩
theorem asP{l}{id}(hl:l.length<=1000000):l5 id l=some (l.filter (p9 id),id,()):=by
 show cU aj id l=_;unfold cU;rcases avv (id:=id) hl with⟨e,R⟩|⟨y,F,e,hp,hn⟩
 .rw[ai e,aQ (by rfl),lj.2 R]
 .rw[ai e,aB (show((y:Int) == -1)=false by simp)];have J:=F;have hf0:(l.take (y+1)).filter (p9 id)=l.take y:=by rw[aw F,e8,lj.2 hp,bw,hn F];simp
  have hz:((y:Int),i64.wrap ((y:Int)+1),id,l,())=(((y:Nat):Int),((y+1:Nat):Int),id,l,()):=by rw[cJ y]
  show aj.aZ _ ((y:Int),i64.wrap ((y:Int)+1),id,l,())=_;rw[hz];refine(fR (λz=>l.length+1-z.2.1.toNat) (λz=>∃(i j:Nat) (s:List az),i<j/\j<=l.length/\s.length=l.length/\s.take i=(l.take j).filter (p9 id)/\s.drop j=l.drop j/\z=((i:Int),(j:Int),id,s,())) (λ_=>some (l.filter (p9 id),id,())) ⟨y,y+1,l,by omega,J,rfl,hf0.symm,rfl,rfl⟩ (by dsimp only;omega) ?_);rintro _ ⟨i,j,s,hij,hj,hs,X,hd,rfl⟩ again ha;show aj.af (decide ((j:Int)<(s.length:Int))) _ _=_;by_cases h:j<s.length
  .have C:j<l.length:=by omega
   have hx:s[j]=l[j]:=by
    have V:(s.drop j)[0]?=(l.drop j)[0]?:=by rw[hd]
    rw[cI,cI,gP,ay h,ay C]at V;exact cG V
   rw[dk h];refine bB λk5 H=>?_
   have kk:∀(G:Nat) (s':List az),G<j+1->s'.length=l.length->s'.take G=(l.take (j+1)).filter (p9 id)->s'.drop (j+1)=l.drop (j+1)->k5 ((G:Int),id,s',())=some (l.filter (p9 id),id,()):=by intro G s' g1 g2 g3 g4;subst H;dsimp only;rw[cJ j];exact ha _ ⟨G,j+1,s',by omega,by omega,g2,g3,g4,rfl⟩ (by dsimp only;omega)
   clear H ha
   have K:s.drop (j+1)=l.drop (j+1):=by
    have:=bQ (List.drop 1) hd
    rwa [mq,mq]at this
   have W:i<s.length:=by omega
   refine tix h ?_;refine tnt h ?_;rw[hx,ai (show vZ aj id l[j]=_ from ar7 _ _)];by_cases hv:p9 id l[j]=true
   .rw[hv,aQ (by rfl)];refine tix W ?_;refine tnt W ?_;dsimp only;rw[aP,cJ i];refine kk (i+1) (s.set i l[j]) (by omega) (by rw[ft];exact hs) ?_ ?_
    .rw[aw C,e8,<-X,bw,hv,p8,ah rfl];have V:i<(s.set i l[j]).length:=by rw[ft];exact W
     rw[aw V,qk];congr 1;rw[yP (au _)]
    .rw[yQ (by omega)];exact K
   .have hv:p9 id l[j]=false:=by simpa using hv
    rw[hv,aB (by rfl)];refine kk i s (by omega) hs ?_ K;rw[aw C,e8,bw,hv,X];simp
  .have:j=s.length:=by omega
   subst this;have hll:=hs;rw[dT];show aj.gW (i:Int) s.length _=_;rw[Fb,aP];show aj.gW (i:Int) s.length _=_;rw[Fb,aP];show aj.gW (i:Int) (s.take i++List.replicate (s.length-i) (0,0,0,[],())).length _=_;have Y:(s.take i).length=i:=by rw[aY];omega
   rw[Fb (by omega) (by rw[aq,Y];omega),aP];dsimp only;rw[kx (by omega),Bf,Nat.min_self,X,hll,bq]
theorem ZH{l}{id}(h:qC l):W6 l id=some (l.filter (p9 id)):=by show tV aj l id=_;unfold tV;have hl:=h.2;rw[ai (M0 h),ai (asP (by omega))]
def mF(a b:bh):Prop:=a.1=b.1/\a.2.1=b.2.1
instance (a b:bh):Decidable (mF a b):=by unfold mF;infer_instance
def Nc(l:List bh):Prop:=l.Pairwise Cj
def fC(x:bh)(l:List bh):List bh:=l.filter λy=>decide (Cj y x)
def Bl(x:bh)(l:List bh):List bh:=l.filter λy=>decide (mF y x)
def Bw(x:bh)(l:List bh):List bh:=l.filter λy=>decide (Cj x y)
theorem Z3(x):∀{l:List bh},Nc l->l=fC x l++(Bl x l++Bw x l)
 |[],_=>rfl
 |y::l,h=>by
  have⟨G,K⟩:=bz.1 h;have H:=Z3 x K;unfold fC Bl Bw at H ⊢;rw[bw,bw,bw];by_cases C:Cj y x
  .have R:¬mF y x:=by unfold Cj at C;unfold mF;omega
   have F:¬Cj x y:=by unfold Cj at C ⊢;omega
   rw[ah (by simpa using C),ag (by simpa using R),ag (by simpa using F)];exact bQ (y::·) H
  .have J:∀z∈l,decide (Cj z x)=false:=λz j=>an λe=>C (acD (G z j) e)
   by_cases hs:mF y x
   .have F:¬Cj x y:=by unfold mF at hs;unfold Cj;omega
    have a2:∀z∈l,decide (mF z x)=false:=λz j=>an λe=>by have:=G z j;unfold Cj at this;unfold mF at hs e;omega
    have a3:∀z∈l,decide (Cj x z)=true:=λz j=>ap (by have:=G z j;unfold Cj at this ⊢;unfold mF at hs;omega)
    rw[ag (by simpa using C),ah (by simpa using hs),ag (by simpa using F),jO J,jO a2,Bx a3];rfl
   .have F:Cj x y:=by unfold Cj at C ⊢;unfold mF at hs;omega
    have a2:∀z∈l,decide (mF z x)=false:=λz j=>an λe=>by have:=G z j;unfold Cj at this F;unfold mF at e;omega
    have a3:∀z∈l,decide (Cj x z)=true:=λz j=>ap (acD F (G z j))
    rw[ag (by simpa using C),ag (by simpa using hs),ah (by simpa using F),jO J,jO a2,Bx a3];rfl
def xy:List bh->Int->Int->Int
 |[],_,_=>0
 |y::l,a,t=>if y.1=a/\y.2.1=t then y.2.2.1 else xy l a t
theorem Nd{l}{x}(h:Bl x l=[]):xy l x.1 x.2.1=0:=by
 induction l with
 |nil=>rfl
 |cons y l j=>
  unfold Bl at h j;rw[bw]at h;by_cases hs:mF y x
  .rw[ah (by simpa using hs)]at h;cases h
  .rw[ag (by simpa using hs)]at h;unfold mF at hs;rw[xy,ag hs,j h]
theorem ahr{l}{x y}{m}(h:Bl x l=y::m):xy l x.1 x.2.1=y.2.2.1:=by
 induction l with
 |nil=>cases h
 |cons z l j=>
  unfold Bl at h j;rw[bw]at h;by_cases hs:mF z x
  .rw[ah (by simpa using hs)]at h;obtain⟨rfl,_⟩:=List.cons.inj h;unfold mF at hs;rw[xy,ah hs]
  .rw[ag (by simpa using hs)]at h;unfold mF at hs;rw[xy,ag hs,j h]
theorem Rn{l}(h:Nc l)(x:bh):Bl x l=[]\/∃y,Bl x l=[y]/\mF y x/\y∈l:=by
 cases e:Bl x l with
 |nil=>exact .inl rfl
 |cons y m=>
  have H:y∈Bl x l:=by rw[e];simp
  have j:=aM.1 H;have hs:mF y x:=by simpa using j.2
  refine .inr ⟨y,?_,hs,j.1⟩;have F:Nc (Bl x l):=de fh h;rw[e]at F;cases m with
  |nil=>rfl
  |cons z m=>
   have J:=(bz.1 F).1 z (by simp);have G:z∈Bl x l:=by rw[e];simp
   have C:mF z x:=by simpa using(aM.1 G).2
   unfold Cj at J;unfold mF at hs C;omega
def F4(l:List bh)(x:bh):List bh:=fC x l++((if x.2.2.1=0 then[]else[x])++Bw x l)
theorem atk{l}(h:Nc l)(x:bh){i:Nat}(hi:i<l.length):(Cj l[i] x↔i<(fC x l).length):=by
 have e:=Z3 x h
 have F:∀y∈Bl x l++Bw x l,¬Cj y x:=λy j hl=>by
  rcases aX.1 j with j|j
  .have:=(aM.1 j).2;simp only[bc]at this;unfold Cj at hl;unfold mF at this;omega
  .have:=(aM.1 j).2;simp only[bc]at this;unfold Cj at hl this;omega
 have hl:∀y∈fC x l,Cj y x:=λy j=>by simpa using(aM.1 j).2
 generalize fC x l=a at *;generalize Bl x l++Bw x l=b at *;subst e;by_cases C:i<a.length
 .rw[sE C];exact⟨λ_=>C,λ_=>hl _ (aF _)⟩
 .rw[mR (by omega)];exact⟨λhh=>absurd hh (F _ (aF _)),λhh=>absurd hh C⟩
theorem Xn{l}(h:Nc l)(x:bh):(∃hi:(fC x l).length<l.length,mF l[(fC x l).length] x/\Bl x l=[l[(fC x l).length]])\/(Bl x l=[]/\∀hi:(fC x l).length<l.length,¬mF l[(fC x l).length] x):=by
 have e:=Z3 x h;rcases Rn h x with hm|⟨y,hm,hs,_⟩
 .right;refine⟨hm,λhi hs=>?_⟩;have:l[(fC x l).length]∈Bl x l:=aM.2 ⟨aF hi,by simpa using hs⟩;rw[hm]at this;cases this
 .left;rw[hm]at e;have j:(fC x l).length<l.length:=by have:=bQ List.length e;simp at this;omega
  have F:l[(fC x l).length]=y:=by
   have C:l[(fC x l).length]?=some y:=by
    have:(fC x l++([y]++Bw x l))[(fC x l).length]?=some y:=by simp
    rwa [<-e]at this
   rw[ay j]at C;exact cG C
  exact⟨j,by rw[F];exact⟨hs,hm⟩⟩
theorem Vw{l}(h:Nc l){x:bh}(hi:(fC x l).length<l.length)(hs:mF l[(fC x l).length] x)(q:Int)(j:q≠0):
 l.set (fC x l).length (x.1,x.2.1,q,())=F4 l (x.1,x.2.1,q,()):=by
 have e:=Z3 x h
 have hm:Bl x l=[l[(fC x l).length]]:=by
  rcases Xn h x with⟨_,_,hm⟩|⟨_,C⟩
  .exact hm
  .exact absurd hs (C hi)
 generalize H:l[(fC x l).length]=y at hm;have G:F4 l (x.1,x.2.1,q,())=fC x l++([(x.1,x.2.1,q,())]++Bw x l):=by unfold F4;rw[ag j];rfl
 rw[G];rw[hm]at e;have F:l.set (fC x l).length (x.1,x.2.1,q,())=(fC x l++([y]++Bw x l)).set (fC x l).length (x.1,x.2.1,q,()):=by rw[<-e]
 rw[F,ql _ _ (au _),zn];rfl
theorem ahs{l}(h:Nc l){x:bh}(hi:(fC x l).length<l.length)(hs:mF l[(fC x l).length] x):
 l.take (fC x l).length++l.drop ((fC x l).length+1)=fC x l++Bw x l:=by
 have e:=Z3 x h
 have hm:Bl x l=[l[(fC x l).length]]:=by
  rcases Xn h x with⟨_,_,hm⟩|⟨_,j⟩
  .exact hm
  .exact absurd hs (j hi)
 generalize C:l[(fC x l).length]=y at hm;rw[hm]at e;generalize fC x l=a at *;generalize Bw x l=b at *;subst e;simp
theorem aht{l}(h:Nc l){x:bh}(hm:Bl x l=[]):
 l.take (fC x l).length++x::l.drop (fC x l).length=fC x l++(x::Bw x l):=by
 have e:=Z3 x h;rw[hm]at e;generalize fC x l=a at *;generalize Bw x l=b at *;subst e;simp
def oF(x:bh):Int:=x.2.2.1
def cF(a:gK):Int:=a.2.1
def PI(l:List bh)(x:bh):List bh×Int×Unit:=if Nf l=true then if mM x then if cy (xy l x.1 x.2.1+x.2.2.1)then if xy l x.1 x.2.1=0/\l.length=16 then([],25,())else(F4 l (x.1,x.2.1,xy l x.1 x.2.1+x.2.2.1,()),0,())else([],7,())else([],2,())else([],3,())
def CZ(l:List bh)(x:bh):List bh×Int×Unit:=if Nf l=true then if mM x then if xy l x.1 x.2.1<x.2.2.1 then([],23,())else(F4 l (x.1,x.2.1,xy l x.1 x.2.1-x.2.2.1,()),0,())else([],2,())else([],3,())
def yY(l:List bj)(u:ar)(x:bh):List bj×Int×Unit:=if CQ l=true then if(PI (eC l u) x).2.1=0 then(Ij l u (PI (eC l u) x).1,0,())else([],(PI (eC l u) x).2.1,())else([],3,())
def pN(l:List bj)(u:ar)(x:bh):List bj×Int×Unit:=if CQ l=true then if(CZ (eC l u) x).2.1=0 then(Ij l u (CZ (eC l u) x).1,0,())else([],(CZ (eC l u) x).2.1,())else([],3,())
def Ff(l:List bj)(f t:ar)(x:bh)(tag:Int):List bj×Int×Unit:=if CQ l=true then if f=t then([],24,())else if(pN l f x).2.1=0 then yY (pN l f x).1 t (x.1,tag,x.2.2.1,())else([],(pN l f x).2.1,())else([],3,())
def zA:gK:=(0,0,0,())
def iD:List gK->Int->gK×Bool×Unit
 |[],_=>(zA,false,())
 |a::l,k=>if a.1=k then(a,true,())else iD l k
def uf(as:List gK):List bh->List Int->List Int×Int×Unit
 |[],acc=>(acc,0,())
 |x::l,acc=>if(iD as x.1).2.1=true then if cy (oF x*cF (iD as x.1).1)then uf as l (acc++[oF x*cF (iD as x.1).1])else([],7,())else([],11,())
def Ef(as:List gK)(l:List bh):Int×Int×Unit:=if Nf l=true then if(uf as l []).2.1=0 then cP (uf as l []).1.sum else(0,(uf as l []).2.1,())else(0,3,())
def gu(p:List aU)(u:ar):Int×Int×Unit:=if hJ p u = -9223372036854775808 then(0,7,())else if hJ p u<0 then(- hJ p u,0,())else(0,0,())
def By(as:List gK)(p:List aU)(h:List bj)(u:ar):Int×Int×Unit:=if(Ef as (eC h u)).2.1=0 then if cy ((Ef as (eC h u)).1+hJ p u)then(max 0 ((Ef as (eC h u)).1+hJ p u),0,())else(0,7,())else(0,(Ef as (eC h u)).2.1,())
abbrev PH:=List aU×List bj×Int
def tU:ar:=(0,1,())
def fU:ar:=(0,0,())
def Qq(m d:Int):Int := -((-m) / d)
def se(as:List gK)(u:ar)(x:bh)(m:Int)(p:List aU)(h:List bj):PH:=if(iD as x.1).2.1=true then if cF (iD as x.1).1=0 then(p,h,0)else if cy (min (Qq m (cF (iD as x.1).1)) (oF x)*cF (iD as x.1).1)then if(Ff h u tU (x.1,x.2.1,min (Qq m (cF (iD as x.1).1)) (oF x),()) 0).2.1=0 then if(ja p tU u (min (Qq m (cF (iD as x.1).1)) (oF x)*cF (iD as x.1).1)).2.1=0 then((ja p tU u (min (Qq m (cF (iD as x.1).1)) (oF x)*cF (iD as x.1).1)).1,(Ff h u tU (x.1,x.2.1,min (Qq m (cF (iD as x.1).1)) (oF x),()) 0).1,0)else([],[],(ja p tU u (min (Qq m (cF (iD as x.1).1)) (oF x)*cF (iD as x.1).1)).2.1)else([],[],(Ff h u tU (x.1,x.2.1,min (Qq m (cF (iD as x.1).1)) (oF x),()) 0).2.1)else([],[],7)else([],[],11)
def mN(as:List gK)(u:ar)(cash:Int):List bh->List aU->List bj->PH
 |[],p,h=>(p,h,0)
 |x::l,p,h=>if cy (cash-hJ p u)then if 0<cash-hJ p u then
  if(se as u x (cash-hJ p u) p h).2.2=0 then mN as u cash l (se as u x (cash-hJ p u) p h).1 (se as u x (cash-hJ p u) p h).2.1 else([],[],(se as u x (cash-hJ p u) p h).2.2)
  else mN as u cash l p h else([],[],7)
def lG(as:List gK)(p:List aU)(h:List bj)(u:ar)(cash:Int):PH:=if xb p=true/\CQ h=true then if u=tU then([],[],2)else mN as u cash (eC h u) p h else([],[],3)
abbrev xe:=ar×ar×Int×Unit
abbrev Ng:=List aU×List bj×List xe×Int
def Bz(as:List gK)(p:List aU)(h:List bj)(by' to:ar)(n:Int):Ng:=if n=0 then(p,h,[],0)else if(lG as p h by' n).2.2=0 then if(ja (lG as p h by' n).1 by' to n).2.1=0 then((ja (lG as p h by' n).1 by' to n).1,(lG as p h by' n).2.1,[(by',to,n,())],0)else([],[],[],(ja (lG as p h by' n).1 by' to n).2.1)else([],[],[],(lG as p h by' n).2.2)
def I7(as:List gK)(p:List aU)(h:List bj)(by' to:ar):Ng:=if(gu p to).2.1=0 then if(By as p h by').2.1=0 then if by'=to then(p,h,[],0)else Bz as p h by' to (min (gu p to).1 (By as p h by').1)else([],[],[],(By as p h by').2.1)else([],[],[],(gu p to).2.1)
def PJ(as:List gK)(p:List aU)(h:List bj)(u:ar):Ng:=if(gu p u).2.1=0 then if(lG as p h u 0).2.2=0 then if(gu p u).1=(gu (lG as p h u 0).1 u).1 then((lG as p h u 0).1,(lG as p h u 0).2.1,[],0)else((lG as p h u 0).1,(lG as p h u 0).2.1,[(u,u,(gu p u).1-(gu (lG as p h u 0).1 u).1,())],0)else([],[],[],(lG as p h u 0).2.2)else([],[],[],(gu p u).2.1)
theorem KZ{l}{k}(hl:l.length<=1000):I8 l k=some (iD l k):=by
 refine gB (l:=l) (by omega) (s0:=()) (λ_ _=>True) (λl' _=>some (iD l' k)) trivial ?_ ?_
 .rintro _ j _;rw[dT];rfl
 .rintro i hi _ _ j y;rw[dk hi,bN hi];rw[iD];by_cases h:l[i].1=k
  .rw[aQ (by simp[h]),ah h]
  .rw[aB (by simp[h]),ag h];dsimp only;rw[cJ i];exact y _ trivial
def pn(a:gK):Prop:=(1<=a.1/\a.1<=4)/\(0<=a.2.1/\a.2.1<=2147483647)/\(0<=a.2.2.1/\a.2.2.1<=10000)
instance (a:gK):Decidable (pn a):=by unfold pn;infer_instance
theorem Ro(p):K0 p=some (decide (0<=p)&&decide (p<=2147483647)):=by
 refine dh (λh=>?_) λh=>?_
 .rw[ap h];rfl
 .rw[an h];rfl
theorem Nh{a}(h:pn a):OH a=some 0:=by
 have⟨⟨K,J⟩,⟨F,C⟩,H,G⟩:=h;refine bB λk y=>?_
 have j:k (false,())=some 0:=by subst y;rfl
 rw[cQ (by omega),cQ (by omega),ai (Ro _),ap F,ap C,aB (by rfl),cQ (by omega),an (by omega)];exact j
theorem jr{z}(h:cy z):cP z=(z,0,()):=ah h
theorem sQ{z}(h:¬cy z):cP z=(0,7,()):=ag h
theorem Xo{a b}(y:cy a)(hb:cy b):eB (a*b):=by
 unfold cy at y hb;unfold eB;rcases Int.le_total 0 a with h1|h1<;>rcases Int.le_total 0 b with j|j
 .have:=Hq (a:=a) (b:=b) (A:=9223372036854775808) (B:=9223372036854775808) ⟨h1,by omega⟩ ⟨j,by omega⟩;omega
 .have:=Hq (a:=a) (b := -b) (A:=9223372036854775807) (B:=9223372036854775808) ⟨h1,by omega⟩ ⟨by omega,by omega⟩;rw[Hk]at this;omega
 .have:=Hq (a := -a) (b:=b) (A:=9223372036854775808) (B:=9223372036854775807) ⟨by omega,by omega⟩ ⟨j,by omega⟩;rw[Int.neg_mul]at this;omega
 .have:=Hq (a := -a) (b := -b) (A:=9223372036854775808) (B:=9223372036854775808) ⟨by omega,by omega⟩ ⟨by omega,by omega⟩;rw[Int.neg_mul_neg]at this;omega
theorem Z4{X β}(f)(z:X)(r:Option β)(h:∀j,f z j=r):aj.aZ f z=r:=ug (N:=0) (by decide) (λ_=>z) r rfl h (λi hi=>absurd hi (by omega))
theorem Rp{a b}(G:cy a)(hb:cy b):Z5 (a::(b::[]))=some (cP (a*b)):=by
 have R:cy 1:=by unfold cy;omega
 have W:=Xo R G;have V:=Xo G hb;have C:=Ee R G;have F:=Ee G hb;have J:=I9 W;have H:=I9 V;rw[Int.one_mul]at C J;rw[jr G]at J;by_cases K:cy (a*b)
 .rw[jr K]at H ⊢;refine ug (N:=2) (by decide) (λi=>((if i=0 then 1 else if i=1 then a else a*b),((i:Nat):Int),())) _ rfl ?_ ?_
  .intro j;rfl
  .intro i hi j y;have:i=0\/i=1:=by omega
   rcases this with rfl|rfl
   .show aj.af true (aj.ae (C0 1 a) _) _=_;rw[aQ (by rfl),ai C];refine vC J ?_;exact y
   .show aj.af true (aj.ae (C0 a b) _) _=_;rw[aQ (by rfl),ai F];refine vC H ?_;exact y
 .rw[sQ K]at H ⊢;refine ug (N:=1) (by decide) (λi=>((if i=0 then 1 else a),((i:Nat):Int),())) _ rfl ?_ ?_
  .intro j;show aj.af true (aj.ae (C0 a b) _) _=_;rw[aQ (by rfl),ai F];refine vC H ?_;rfl
  .intro i hi j y;have:i=0:=by omega
   subst this;show aj.af true (aj.ae (C0 1 a) _) _=_;rw[aQ (by rfl),ai C];refine vC J ?_;exact y
theorem pn.eT{a}(h:pn a):cy (cF a):=by unfold pn at h;unfold cy cF;omega
theorem Ni{a}{q:Int}(h:pn a)(j:cy q):F5 a q=some (cP (q*cF a)):=by show po aj a q=_;unfold po;rw[ai (Nh h),aB (by rfl)];exact vC (Rp j h.eT) rfl
theorem Z6{as}(h:∀a∈as,pn a){k}(j:(iD as k).2.1=true):pn (iD as k).1:=by
 induction as with
 |nil=>cases j
 |cons a l C=>
  rw[iD]at j ⊢;by_cases y:a.1=k
  .rw[ah y];exact h a (by simp)
  .rw[ag y]at j ⊢;exact C (λb hb=>h b (by simp[hb])) j
theorem ajX{as}{l:List bh}(R:∀a∈as,pn a)(H:as.length<=1000)(hl:tM l):
 Ck as l=some ((if Nf l=true then uf as l []else([],3,())),()):=by
 show iE aj as l=_;unfold iE;have V:=hl.1;rw[ai (Rq (by omega))];by_cases F:Nf l=true
 .rw[F,aB (by rfl),ah rfl];refine gB (l:=l) (by omega) (λi (z:List Int×Unit)=>z.1.length<=i) (λl' (z:List Int×Unit)=>some (uf as l' z.1,())) (au _) ?_ ?_
  .rintro⟨acc,⟨⟩⟩ j _;rw[dT];rfl
  .rintro i hi ⟨acc,⟨⟩⟩ C j J;simp only at C;refine Ii hi ?_;rw[bN hi,uf];rw[ai (KZ H)];by_cases y:(iD as l[i].1).2.1=true
   .have K:cy (oF l[i]):=hl.2 _ (aF hi);rw[aB (by rw[y];rfl),ah y];show aj.ae (F5 (iD as l[i].1).1 (oF l[i])) _=_;rw[ai (Ni (Z6 R y) K)];by_cases G:cy (oF l[i]*cF (iD as l[i].1).1)
    .rw[jr G,ah G];show aj.af false _ (aj.bg (acc.length+1) 8 (j (IntKind.i64.wrap ((i:Int)+1),acc++[oF l[i]*cF (iD as l[i].1).1],())))=_;rw[aB (by rfl),c9,cJ i];exact J (acc++[oF l[i]*cF (iD as l[i].1).1],()) (by simp;omega)
    .rw[sQ G,ag G];exact Um (by rfl) rfl
   .have y:(iD as l[i].1).2.1=false:=by simpa using y
    rw[aQ (by rw[y];rfl),ag (by rw[y];simp)]
 .have F:Nf l=false:=by simpa using F
  rw[F,aQ (by rfl),ag (by simp)]
theorem Z7(as):∀(l:List bh) (acc:List Int),(uf as l acc).1.length<=acc.length+l.length
 |[],acc=>by simp[uf]
 |x::l,acc=>by
  rw[uf];split
  .split
   .have:=Z7 as l (acc++[oF x*cF (iD as x.1).1]);simp at this ⊢;omega
   .simp
  .simp
theorem afh(as):∀(l:List bh) (acc:List Int),(∀x∈acc,cy x)->∀x∈(uf as l acc).1,cy x
 |[],acc,h=>by simpa[uf]using h
 |x::l,acc,h=>by
  rw[uf];split
  .split
   .rename_i C;exact afh as l _ λy j=>(aX.1 j).elim (h y) λj=>by simp at j;exact j▸C
   .simp
  .simp
theorem ajY{as}{l}(J:∀a∈as,pn a)(y:as.length<=1000)(hl:tM l):OI as l=some (Ef as l):=by
 show uh aj as l=_;unfold uh Ef;rw[ai (ajX J y hl)];by_cases j:Nf l=true
 .rw[ah j,ah j];have G:=Z7 as l [];have F:=afh as l [] (by simp);have K:=hl.1;generalize uf as l []=v at *;have⟨R,H,⟨⟩⟩:=v;simp only at G F;by_cases C:H=0
  .subst C;refine zp (by rfl) ?_;rw[ai (sR F (by simp at G;omega))];rfl
  .refine tby C ?_;rw[ag C]
 .rw[ag j,ag j];exact Um (by rfl) rfl
theorem ajZ{as}{l}:cy (Ef as l).1:=by
 unfold Ef;split
 .split
  .unfold cP;split
   .assumption
   .unfold cy;omega
  .unfold cy;omega
 .unfold cy;omega
theorem acE{a}(h:cy a):K2 a=some (if a<0 then cP (-a)else(a,0,())):=by
 show ui aj a=_;unfold ui;by_cases j:a<0
 .have:=I1 (a:=0) (b:=a) (by unfold cy;omega) h;rw[zk]at this;rw[eA j,ai this,ah j]
 .rw[cQ j,ag j]
theorem Qr{l}(h:tT l)(u):cy (hJ l u):=by
 induction l with
 |nil=>unfold hJ cy;omega
 |cons x l j=>
  rw[hJ];split
  .exact h x (by simp)
  .exact j λy C=>h y (by simp[C])
theorem Xp{s}{u}(C:tT (pu s))(hl:(pu s).length<=1000000):Vx s u=some (gu (pu s) u):=by
 show qH aj s u=_;unfold qH gu;show aj.ae (oG (pu s) u) _=_;rw[ai (IF hl)];have y:=Qr C u;generalize hJ (pu s) u=c at *;have e:(if c<0 then c else 0)=min 0 c:=by unfold cy at y;split<;>omega
 show aj.ae (K2 (if c<0 then c else 0)) _=_;by_cases j:c<0
 .rw[ah j,ai (acE y),ah j];by_cases hm:c = -9223372036854775808
  .rw[ah hm,hm,sQ (by unfold cy;omega)]
  .rw[ag hm,ah j,jr (by unfold cy at *;omega)]
 .rw[ag j,ai (acE (by unfold cy;omega)),ag (by omega),ag (by omega),ag j]
def iz(s:aV):List gK:=s.2.2.2.1
theorem aka{s}{u}(J:∀a∈iz s,pn a)(y:(iz s).length<=1000)(hh:kL (ho s))(H:tT (pu s))(hl:(pu s).length<=1000000):ahu s u=some (By (iz s) (pu s) (ho s) u):=by
 show wj aj s u=_;unfold wj By;refine vC (yZ hh) ?_;show aj.ae (OI (iz s) (eC (ho s) u)) _=_;rw[ai (ajY J y (pO hh.1 u))];have G:=ajZ (as:=iz s) (l:=eC (ho s) u);generalize Ef (iz s) (eC (ho s) u)=v at *;have⟨n,e,⟨⟩⟩:=v;simp only at G;show aj.af (e != 0) (some (0,e,())) (aj.ae (oG (pu s) u) λv3=>aj.ae (Hr (n::(v3::[]))) λv4=>some ((if v4.1>0 then v4.1 else 0),v4.2))=some (if e=0 then(if cy (n+hJ (pu s) u)then(max 0 (n+hJ (pu s) u),0,())else(0,7,()))else(0,e,()));by_cases C:e=0
 .subst C;rw[ah rfl,aB (by rfl),ai (IF hl)];have K:=Qr H u;generalize hJ (pu s) u=c at *;refine vC (sR (l:=[n,c]) (by intro x F;simp at F;rcases F with rfl|rfl<;>assumption) (by simp)) ?_;have es:[n,c].sum=n+c:=by simp
  rw[es];by_cases j:cy (n+c)
  .rw[jr j,ah j];dsimp only;congr 2;split<;>omega
  .rw[sQ j,ag j];rfl
 .rw[ag C,fz C]
theorem Z8{m d}(hm:0<m)(j:0<d):Qq m d=if 0<m % d then m / d+1 else m / d:=by
 unfold Qq;have F:=i7 m (vn j);have C:=gn m j;have y:=qm m d;have key:∀q r:Int,0<=r->r<d -> -m=d*q+r->(-m) / d=q:=λq r a b e=>by rw[e,Int.add_comm,Int.add_mul_ediv_left _ _ (vn j),jB a b];omega
 split
 .rw[key (-(m / d)-1) (d-m % d) (by omega) (by omega) (by rw[Int.mul_sub,Hk,Int.mul_one];omega)];omega
 .rw[key (-(m / d)) 0 (by omega) j (by rw[Hk];omega)];omega
theorem arF{m d}(hm:0<m)(j:0<d):0<Qq m d/\Qq m d<=m:=by
 have C:=qm m d;have H:=i7 m (vn j);have G:=gn m j;have y:=fx (gR hm) (gR j)
 have F:m / d<=d*(m / d):=by
  have:=iw (show(1:Int)<=d by omega) y
  rwa [Int.one_mul]at this
 rw[Z8 hm j];split
 .omega
 .refine⟨?_,by omega⟩;rcases Int.lt_or_eq_of_le y with h|h
  .exact h
  .exfalso;rw[<-h,Int.mul_zero]at C;omega
theorem afg{lo y}(j:0<=lo)(J:lo<18446744073709551616)(F:0<y)(C:y<18446744073709551616):pK 0 lo y=some (lo / y,lo % y,()):=by show jW aj 0 lo y=_;unfold jW;have H:=fx j (gR F);have G:lo / y<=lo:=wX _ j;rw[aB (by simp;omega),cQ (by omega),aQ (by rfl),Xl,Xl,jA j,mv j,F2 _ (by omega)]
theorem atl{m d}(hm:0<=m)(hI:cy m)(F:0<d)(J:cy d):Z0 (wide m) d=some (wide (m / d),m % d,0,()):=by
 show q9 aj (wide m) d=_;unfold q9;unfold cy at hI J;have h1:=i7 m (vn F);have h2:=gn m F;have G:=fx hm (gR F);have hq2:m / d<=m:=wX _ hm;have e0:u64.wrap d=d:=F2 _ (by omega);have K:zM (wide m)=some (Ci m):=by have:=I5 (wide m) (mX m (by unfold eB;omega));rw[sG]at this;rw[this];unfold jb;rw[ag (by omega)]
 have e1:Ci m=(0,m,()):=by unfold Ci;rw[jB hm (by omega),nN hm (by omega)]
 have j:pM (wide m)=some false:=by
  rw[xd];have:(wide m).1=0:=by unfold wide;exact jB hm (by omega)
  rw[this];rfl
 have C:jg (0,m / d,()) false=some (wide (m / d),true,()):=by
  have V:=F3 (m / d) false ⟨G,by omega⟩;have hi:eB (m / d):=by unfold eB;omega
  have es:Ci (m / d)=(0,m / d,()):=by unfold Ci;rw[jB G (by omega),nN G (by omega)]
  rw[es]at V;rw[V];show some (Z1 (m / d),decide (eB (m / d)),())=_;rw[KY _ hi,ap hi]
 rw[aB (by simp;omega),cQ (by omega),e0,ai K,e1,Xl (by omega),Xl (by omega)];show aj.ae (pK (Int.tmod 0 d) m d) _=_;rw[Int.zero_tmod,ai (afg hm (by omega) F (by omega))];refine bB λk hk=>?_
 have Y:k (m % d,u64.wrap (Int.tdiv 0 d),m / d,())=some (wide (m / d),m % d,0,()):=by
  subst hk;rw[Int.zero_tdiv,show u64.wrap 0=0 by decide];have R:i64.wrap (m % d)=m % d:=bF _ (by omega);have y:aj.ae (pM (wide m)) (λX=>aj.ae (jg (0,m / d,()) X) λW=>some (W.1,i64.wrap (m % d),(0:Int),()))=some (wide (m / d),m % d,0,()):=by rw[ai j,ai C,R]
  refine jN ?_ y;rw[ai j];exact jN (by rw[ai C,R]) (by rw[ai C,R])
 refine bB λk2 H=>?_
 have kf:k2 (false,())=some (wide (m / d),m % d,0,()):=by subst H;refine zp (by rfl) ?_;exact Y
 refine vC j ?_;rw[aB (by rfl),kf]
theorem akb{a}{m:Int}(ha:pn a)(J:0<cF a)(hm:0<m)(H:cy m):acF a m=some (Qq m (cF a),0,()):=by
 show xz aj a m=_;unfold xz;have R:=ha.eT;have hb:=arF hm J;have G:cy (Qq m (cF a)):=by unfold cy at H ⊢;omega
 rw[ai (Nh ha),aB (by rfl),cQ (by omega)]
 have W:atm m 1 (cF a)=some (Qq m (cF a),0,()):=by
  show K5 aj m 1 (cF a)=_;unfold K5;have F:=Ee H (show cy 1 by unfold cy;omega);rw[Int.mul_one]at F;rw[ai F,ai (atl (gR hm) H J R)];refine bB λk hk=>?_
  have X:∀z,cy z->k (0,wide z)=some (z,0,()):=by intro z Y;subst hk;refine vC (CY (ue Y)) ?_;rw[jr Y]
  refine bB λk2 V=>?_
  have K:=Z8 hm J;have hq:=fx (gR hm) (gR J);have hq2:m / cF a<=m:=wX _ (gR hm)
  have kf:∀b,b=decide (0<m % cF a)->k2 (b,())=some (Qq m (cF a),0,()):=by
   rintro _ rfl;subst V;by_cases h:0<m % cF a
   .rw[ah h]at K;rw[ap h]
    have j:aj.ae (afi 1) (λv9=>aj.ae (zN (wide (m / cF a)::(v9::[]))) λC=>k (C.2.1,C.1))=some (Qq m (cF a),0,()):=by
     rw[ai (K6 1 (by unfold cy;omega))]
     have y:=Rr [wide (m / cF a),wide 1] (by
      intro w F;simp only[aG,dN,lk]at F;rcases F with rfl|rfl
      .exact mX _ (by unfold cy at H;unfold eB;omega)
      .exact mX _ (by unfold eB;omega)) (by simp)
     have es:q' [wide (m / cF a),wide 1]=m / cF a+1:=by unfold q';simp[sG]
     have ef:fit (m / cF a+1)=(wide (m / cF a+1),0,()):=ah (by unfold cy at H;unfold eB;omega);rw[es,ef]at y;rw[ai y];rw[<-K];exact X _ G
    refine Um (by rfl) ?_;exact jN j j
   .rw[ag h]at K;rw[an h];refine zp (by rfl) ?_;rw[<-K];exact X _ G
  refine Um (by rfl) ?_;exact kf _ rfl
 exact vC W rfl
open sH
theorem F6(a b):(orI [C1 a.1 b.1,C1 a.2.1 b.2.1]<0↔Cj a b)/\(orI [C1 a.1 b.1,C1 a.2.1 b.2.1]=0↔mF a b):=by
 unfold Cj mF;simp only[orI,C1];by_cases F:a.1<b.1
 .simp[F];omega
 .by_cases H:b.1<a.1
  .have j:¬a.1=b.1:=by omega
   simp[F,H,j]
  .have j:a.1=b.1:=by omega
   by_cases C:a.2.1<b.2.1
   .simp[j,C];omega
   .by_cases G:b.2.1<a.2.1
    .have y:¬a.2.1=b.2.1:=by omega
     simp[j,C,G,y]
    .have y:a.2.1=b.2.1:=by omega
     simp[j,y]
theorem atn(i j:Nat)(h:i+j<9223372036854775807):i64.wrap (Int.fdiv (u64.wrap (i64.wrap ((i:Int)+(j:Int)))) (2 ^ (min (Int.toNat 1) u64.bits)))=(((i+j) / 2:Nat):Int):=by rw[show i64.wrap ((i:Int)+(j:Int))=((i+j:Nat):Int)by rw[dO];omega,F2 _ (by omega)];rw[show(2:Int) ^ (min (Int.toNat 1) u64.bits)=2 by decide,eE _ (by decide)];rw[bF _ (by omega)];omega
theorem akc(x)(l):(fC x l).length<=l.length:=cR _ _
def Cm(x:bh)(l:List bh):Bool:=!(Bl x l).isEmpty
theorem av3{l}{x}(hs:Nc l)(hl:l.length<=1000):kg l x=some (((((fC x l).length:Nat):Int),Cm x l,()),()):=by
 show cD aj l x=_;have K:=akc x l;refine fR (λz=>(z.2.1-z.1).toNat) (λz=>∃i j:Nat,z=((i:Int),(j:Int),())/\i<=(fC x l).length/\(fC x l).length<=j/\j<=l.length) (λ_=>some (((((fC x l).length:Nat):Int),Cm x l,()),())) ⟨0,l.length,rfl,bE _,K,au _⟩ (by dsimp only;omega) ?_;rintro _ ⟨i,j,rfl,h1,h2,h3⟩ y R
 show aj.af (decide ((i:Int)<(j:Int))) (aj.iV 1 (aj.aI l (i64.wrap (Int.fdiv (u64.wrap (i64.wrap ((i:Int)+(j:Int)))) (2 ^ (min (Int.toNat 1) u64.bits)))) λW=>aj.ae (Ja W x) λv4=>
  aj.af (decide (v4<0)) (y (i64.wrap (i64.wrap (Int.fdiv (u64.wrap (i64.wrap ((i:Int)+(j:Int)))) (2 ^ (min (Int.toNat 1) u64.bits)))+1),(j:Int),())) (y ((i:Int),i64.wrap (Int.fdiv (u64.wrap (i64.wrap ((i:Int)+(j:Int)))) (2 ^ (min (Int.toNat 1) u64.bits))),()))))
  (aj.af (decide ((i:Int)<(l.length:Int))) (aj.aI l (i:Int) λV=>aj.ae (Ja V x) λX=>some (((i:Int),X==0,()),())) (some (((i:Int),false,()),())))=_
 rw[atn i j (by omega)];by_cases hij:i<j
 .have hh:(i+j) / 2<l.length:=by omega
  rw[eA (by omega),ud (by decide),bN hh,ai (Hs _ _)];have⟨o1,_⟩:=F6 l[(i+j) / 2] x;have F:=atk hs x hh;by_cases C:Cj l[(i+j) / 2] x
  .rw[eA (o1.2 C),cJ _];have:=F.1 C;exact R _ ⟨(i+j) / 2+1,j,rfl,by omega,h2,h3⟩ (by dsimp only;omega)
  .rw[aB (an λh=>C (o1.1 h))];have:¬(i+j) / 2<(fC x l).length:=λh=>C (F.2 h)
   exact R _ ⟨i,(i+j) / 2,rfl,h1,by omega,by omega⟩ (by dsimp only;omega)
 .have hi:i=(fC x l).length:=by omega
  subst hi;rw[cQ (by omega)];rcases Xn hs x with⟨hi,J,hm⟩|⟨hm,Y⟩
  .have H:Cm x l=true:=by unfold Cm;rw[hm];rfl
   rw[eA (by omega),bN hi,ai (Hs _ _),H];have⟨_,G⟩:=F6 l[(fC x l).length] x;rw[G.2 J];rfl
  .have H:Cm x l=false:=by unfold Cm;rw[hm];rfl
   rw[H];by_cases hi:(fC x l).length<l.length
   .rw[eA (by omega),bN hi,ai (Hs _ _)];have⟨_,G⟩:=F6 l[(fC x l).length] x;have:(orI [C1 l[(fC x l).length].1 x.1,C1 l[(fC x l).length].2.1 x.2.1]==0)=false:=by rw[beq_eq_false_iff_ne];exact λh=>Y hi (G.1 h)
    rw[this]
   .rw[cQ (by omega)]
theorem Vy{l}{x}(hl:l.length<=1000):Xq l x=some (if Nf l=true then if mM x then 0 else 2 else 3):=by
 show qb aj l x=_;unfold qb;rw[ai (Rq (by omega))];by_cases h:Nf l=true
 .rw[h,aB (by rfl),ah rfl,ai (Vz x)];by_cases j:mM x
  .rw[ap j,aB (by rfl),ah j]
  .rw[an j,aQ (by rfl),ag j]
 .have h:Nf l=false:=by simpa using h
  rw[h,aQ (by rfl)];rfl
theorem Ht{l}(h:Nf l=true):FC l:=bD h
theorem OJ{l}(h:FC l)(x:bh):(Cm x l=true/\∃hi:(fC x l).length<l.length,mF l[(fC x l).length] x/\xy l x.1 x.2.1=l[(fC x l).length].2.2.1/\0<l[(fC x l).length].2.2.1)\/(Cm x l=false/\Bl x l=[]/\xy l x.1 x.2.1=0):=by
 rcases Xn h.2.1 x with⟨hi,j,hm⟩|⟨hm,_⟩
 .exact .inl ⟨by unfold Cm;rw[hm];rfl,hi,j,ahr hm,(h.1 _ (aF hi)).2.2⟩
 .exact .inr ⟨by unfold Cm;rw[hm];rfl,hm,Nd hm⟩
theorem ahv{l}{i:Nat}{x:bh}(h:i<=l.length)(hl:l.length<=1000):Nj l (i:Int) (x::[])=some (l.take i++x::l.drop i,()):=by show Jb 24 l (i:Int) [x]=_;unfold Jb;rw[show(decide (0<=(i:Int))&&decide ((i:Int)<=(l.length:Int))&&Nat.ble ((l.length+1)*24) 140737488355328)=true by rw[aD,aD,bc,bc];exact⟨⟨by omega,by omega⟩,gJ (by omega)⟩];rfl
theorem ahw{l}{i:Nat}(h:i<l.length):Hu l (i:Int) ((i+1:Nat):Int)=some (l.take i++l.drop (i+1),()):=by show Uo l (i:Int) ((i+1:Nat):Int)=_;unfold Uo;rw[show(decide (0<=(i:Int))&&decide ((i:Int)<((i+1:Nat):Int))&&decide (((i+1:Nat):Int)<=(l.length:Int)))=true by rw[aD,aD,bc,bc,bc];exact⟨⟨by omega,by omega⟩,by omega⟩];rfl
theorem ato{l}{x:bh}(hl:tM l)(Y:cy x.2.2.1):akd l x=some (PI l x):=by
 show C2 aj l x=_;unfold C2 PI;have h20:=hl.1;rw[ai (Vy (by omega))];by_cases H:Nf l=true
 .rw[ah H,ah H];by_cases G:mM x
  .rw[ah G,ah G,aB (by rfl)];have j:=Ht H;have h16:=j.2.2;rw[ai (av3 j.2.1 (by omega))];have hq:=G.2.2;rcases OJ j x with⟨K,hi,C,R,W⟩|⟨K,hm,R⟩
   .rw[K,R];refine zp (by rfl) ?_;rw[bN hi];have hy:=hl.2 _ (aF hi);have y:=sR (l:=[l[(fC x l).length].2.2.1,x.2.2.1]) (by intro z V;simp at V;rcases V with rfl|rfl<;>assumption) (by simp);have es:[l[(fC x l).length].2.2.1,x.2.2.1].sum=l[(fC x l).length].2.2.1+x.2.2.1:=by simp
    rw[es]at y;rw[ai y];by_cases F:cy (l[(fC x l).length].2.2.1+x.2.2.1)
    .rw[jr F,ah F,ag (by rintro⟨h,_⟩;omega)];refine zp (by rfl) ?_;rw[ai (xA (by omega)),bN hi];refine tnt hi ?_;rw[aP,C.1,C.2];dsimp only;rw[Vw j.2.1 hi C _ (by omega)]
    .rw[sQ F,ag F];exact Um (by rfl) rfl
   .rw[K,R];have F:cy (0+x.2.2.1):=by rw[rF];exact Y
    rw[ah F];refine Um (by rfl) ?_;by_cases X:l.length=16
    .rw[eA (by omega),ah ⟨rfl,X⟩]
    .rw[cQ (by omega),ag (by rintro⟨_,h⟩;exact X h)];have ex:((x.1,x.2.1,0+x.2.2.1,()):bh)=x:=by rw[rF]
     have J:F4 l x=fC x l++(x::Bw x l):=by unfold F4;rw[ag (by omega)];rfl
     rw[ex,J,<-aht j.2.1 hm];refine jN ?_ ?_<;>
     .rw[ai (xA (by omega))];exact vC (ahv (akc x l) (by omega)) rfl
  .rw[ag G,ag G];exact Um (by rfl) rfl
 .rw[ag H,ag H];exact Um (by rfl) rfl
theorem aoM{l}{x:bh}(hl:tM l)(hx:cy x.2.2.1):ahx l x=some (CZ l x):=by
 show zO aj l x=_;unfold zO CZ;have h20:=hl.1;rw[ai (Vy (by omega))];by_cases K:Nf l=true
 .rw[ah K,ah K];by_cases J:mM x
  .rw[ah J,ah J,aB (by rfl)];have j:=Ht K;have h16:=j.2.2;rw[ai (av3 j.2.1 (by omega))];have hq:=J.2.2;refine bB λk hk=>?_
   have kt:k (true,())=some ([],23,()):=by subst hk;rfl
   rcases OJ j x with⟨Y,hi,y,hg,atp⟩|⟨Y,hm,hg⟩
   .rw[Y,hg];refine zp (by rfl) ?_;rw[bN hi];have hy:=hl.2 _ (aF hi);by_cases C:l[(fC x l).length].2.2.1<x.2.2.1
    .rw[ap C,ah C,kt]
    .rw[an C,ag C];subst hk;refine zp (by rfl) ?_;rw[ai (xA (by omega)),bN hi];refine tnt hi ?_;rw[bN hi];refine tnt hi ?_;rw[aP,y.1,y.2];have ew:i64.wrap (l[(fC x l).length].2.2.1-x.2.2.1)=l[(fC x l).length].2.2.1-x.2.2.1:=bF _ (by unfold cy at hy hx;omega);rw[ew];have H:(l.set (fC x l).length (x.1,x.2.1,l[(fC x l).length].2.2.1-x.2.2.1,())).length=l.length:=ft;have G:(fC x l).length<(l.set (fC x l).length (x.1,x.2.1,l[(fC x l).length].2.2.1-x.2.2.1,())).length:=by rw[H];exact hi
     refine bB λX hk2=>?_
     have kk:∀z:List bh,X (z,())=some (z,0,()):=by intro z;subst hk2;rfl
     show aj.aI (l.set (fC x l).length (x.1,x.2.1,l[(fC x l).length].2.2.1-x.2.2.1,())) (((fC x l).length:Nat):Int) (λ_=>aj.ct (l.set (fC x l).length (x.1,x.2.1,l[(fC x l).length].2.2.1-x.2.2.1,())) (fC x l).length λV=>aj.af (V.2.2.1==0) (aj.ae (Hu (l.set (fC x l).length (x.1,x.2.1,l[(fC x l).length].2.2.1-x.2.2.1,())) (((fC x l).length:Nat):Int) (i64.wrap ((((fC x l).length:Nat):Int)+1))) λW=>X W) (X (l.set (fC x l).length (x.1,x.2.1,l[(fC x l).length].2.2.1-x.2.2.1,()),())))=_;have F:=iI (β:=List bh×Int×Unit) G;rw[aP]at F;rw[bN G,F,qk,cJ _];by_cases R:l[(fC x l).length].2.2.1-x.2.2.1=0
     .rw[aQ (by simp[R]),ai (ahw G),kk];have e1:(l.set (fC x l).length (x.1,x.2.1,l[(fC x l).length].2.2.1-x.2.2.1,())).take (fC x l).length=l.take (fC x l).length:=by rw[yP (au _)]
      have e2:(l.set (fC x l).length (x.1,x.2.1,l[(fC x l).length].2.2.1-x.2.2.1,())).drop ((fC x l).length+1)=l.drop ((fC x l).length+1):=by rw[yQ (by omega)]
      rw[e1,e2,ahs j.2.1 hi y];unfold F4;rw[ah R];rfl
     .rw[aB (by simp[R]),kk,Vw j.2.1 hi y _ R]
   .rw[Y,hg,ah hq];refine Um (by rfl) ?_;rw[kt]
  .rw[ag J,ag J];exact Um (by rfl) rfl
 .rw[ag K,ag K];exact Um (by rfl) rfl
theorem VA{l}{u}{now}{e}(h:kL l)(C:now.length<=1000):F7 l u now e=some (if CQ l=true then if e=0 then(Ij l u now,0,())else([],e,())else([],3,())):=by
 show lq aj l u now e=_;unfold lq;rw[ai (Jc h)];by_cases j:CQ l=true
 .rw[j,aB (by rfl),ah rfl];by_cases y:e=0
  .rw[ah y,aB (by simp[y]),ai (Xr h (bD j).2 C)]
  .rw[ag y,aQ (by simp[y])]
 .have j:CQ l=false:=by simpa using j
  rw[j,aQ (by rfl),ag (by simp)]
theorem ake{l}(h:Nc l)(x:bh):(F4 l x).length<=l.length+1:=by have j:=bQ List.length (Z3 x h);unfold F4;rw[aq,aq]at j;rw[aq,aq];split<;>simp<;>omega
theorem K9{l}{x p}(h:p∈F4 l x):p∈l\/p=x:=by
 unfold F4 at h;rcases aX.1 h with h|h
 .exact .inl (aM.1 h).1
 .rcases aX.1 h with h|h
  .split at h
   .cases h
   .exact .inr (by simpa using h)
  .exact .inl (aM.1 h).1
theorem aoN{l}(h:∀x∈l,cy x.2.2.1)(a t):cy (xy l a t):=by
 induction l with
 |nil=>unfold xy cy;omega
 |cons x l j=>
  rw[xy];split
  .exact h x (by simp)
  .exact j λy C=>h y (by simp[C])
theorem akf{l}(h:∀x∈l,mM x)(a t):0<=xy l a t:=by
 induction l with
 |nil=>exact ky _
 |cons x l j=>
  rw[xy];split
  .exact gR (h x (by simp)).2.2
  .exact j λy C=>h y (by simp[C])
theorem Z9{l}(hi:FC l)(hl:tM l){x:bh}(j:cy x.2.2.1):tM (F4 l x):=⟨by have:=ake hi.2.1 x;have:=hi.2.2;omega,λp y=>(K9 y).elim (hl.2 p) λe=>e▸j⟩
theorem Xs{l:List bh}(hl:tM l){x:bh}:tM (PI l x).1:=by
 unfold PI;by_cases j:Nf l=true
 .rw[ah j];split
  .split
   .rename_i y;split
    .exact y0
    .exact Z9 (Ht j) hl y
   .exact y0
  .exact y0
 .rw[ag j];exact y0
theorem Rs{l:List bh}(hl:tM l){x:bh}:tM (CZ l x).1:=by
 unfold CZ;by_cases y:Nf l=true
 .rw[ah y];by_cases j:mM x
  .rw[ah j];by_cases C:xy l x.1 x.2.1<x.2.2.1
   .rw[ah C];exact y0
   .rw[ag C];refine Z9 (Ht y) hl ?_;have F:=aoN hl.2 x.1 x.2.1;have a3:=j.2.2;unfold cy at *;dsimp only;omega
  .rw[ag j];exact y0
 .rw[ag y];exact y0
theorem afj{l}(h:tM l):l.length<=1000:=by have:=h.1;omega
theorem afk{l}{u}{x}(h:kL l)(j:cy x.2.2.1):VB l u x=some (pN l u x):=by show nX aj l u x=_;unfold nX pN;have hl:=pO h.1 u;rw[ai (yZ h),ai (aoM hl j),ai (VA h (afj (Rs hl)))]
theorem akg{l}{u}{x}(h:kL l)(j:cy x.2.2.1):Z' l u x=some (yY l u x):=by show qc aj l u x=_;unfold qc yY;have hl:=pO h.1 u;rw[ai (yZ h),ai (ato hl j),ai (VA h (afj (Xs hl)))]
theorem qI:kL []:=⟨λ_ h=>(by cases h),by simp⟩
theorem a_{l}(h:kL l)(hl:l.length<=390000)(u)(x):kL (pN l u x).1/\(pN l u x).1.length<=l.length+1:=by
 unfold pN;by_cases h1:CQ l=true
 .have hs:=(bD h1:b_ l).2;rw[ah h1];split
  .exact⟨Rt h hl hs u (Rs (pO h.1 u)),Ru hs u _⟩
  .exact⟨qI,by simp⟩
 .rw[ag h1];exact⟨qI,by simp⟩
theorem aoO{l}(h:kL l)(hl:l.length<=390000)(u)(x):kL (yY l u x).1/\(yY l u x).1.length<=l.length+1:=by
 unfold yY;by_cases h1:CQ l=true
 .have hs:=(bD h1:b_ l).2;rw[ah h1];split
  .exact⟨Rt h hl hs u (Xs (pO h.1 u)),Ru hs u _⟩
  .exact⟨qI,by simp⟩
 .rw[ag h1];exact⟨qI,by simp⟩
theorem akh{l}(h:kL l)(hl:l.length<=380000)(f t)(x)(tag):kL (Ff l f t x tag).1/\(Ff l f t x tag).1.length<=l.length+2:=by
 unfold Ff;have⟨y,F⟩:=a_ h (by omega) f x;split
 .split
  .exact⟨qI,by simp⟩
  .split
   .have⟨j,C⟩:=aoO y (by omega) t (x.1,tag,x.2.2.1,());exact⟨j,by omega⟩
   .exact⟨qI,by simp⟩
 .exact⟨qI,by simp⟩
theorem aoP{l}{f t}{x}{tag:Int}(h:kL l)(hl:l.length<=380000)(F:cy x.2.2.1):VC l f t x tag=some (Ff l f t x tag):=by
 show zP aj l f t x tag=_;unfold zP Ff;rw[ai (Jc h)];by_cases y:CQ l=true
 .rw[y,aB (by rfl),ah rfl,tW];by_cases j:f=t
  .rw[ah j,aQ (by simp[j])]
  .rw[ag j,aB (by simp[j]),ai (afk h F)];by_cases C:(pN l f x).2.1=0
   .rw[ah C,aB (by simp[C])];exact vC (akg (x:=(x.1,tag,x.2.2.1,())) (a_ h (by omega) f x).1 F) rfl
   .rw[ag C,fz C]
 .have y:CQ l=false:=by simpa using y
  rw[y,aQ (by rfl),ag (by simp)]
set_option synthInstance.maxSize 100000
set_option synthInstance.maxHeartbeats 0
def zS:aV:=(0,[],[],[],[],[],[],[],[],[],[],[],())
def Bm(s:aV)(r:PH):aV×Int×Unit:=if r.2.2=0 then(fX s r.1 r.2.1,0,())else(zS,r.2.2,())
theorem aki(s):fX s (pu s) (ho s)=s:=rfl
theorem afl{l f}(h:(qJ l f).2.1=0):tT (qJ l f).1:=by have⟨_,y,j⟩:=Qs h;rw[y];exact Xt j
theorem c_{p}{f t}{n}(h:(ja p f t n).2.1=0):cy (-n)/\ja p f t n=qJ p [(f,-n,()),(t,n,())]:=by
 unfold ja at h ⊢;by_cases j:cy (-n)
 .rw[ah j];exact⟨j,rfl⟩
 .rw[ag j]at h;split at h<;>simp at h
theorem d_{p}{f t}{n}(h:(ja p f t n).2.1=0):tT (ja p f t n).1/\(ja p f t n).1.length<=p.length+2:=by have⟨_,e⟩:=c_ h;rw[e]at h ⊢;exact⟨afl h,Rv _ _⟩
theorem Jd:xf=some tU:=rfl
theorem acG:VD=some fU:=rfl
theorem acH(n q:Int):(if q<n then q else n)=min n q:=by split<;>omega
theorem atq{s}{p}{h}{u}{x}{m:Int}(ha:∀a∈iz s,pn a)(hl1:(iz s).length<=1000)(hh:kL h)(hhl:h.length<=380000)(hf:tT p)(hl:p.length<=800000)
 (hx:0<oF x/\cy (oF x)) (hm:0<m) (hI:cy m):VE (fX s p h) u x m=some (Bm s (se (iz s) u x m p h)):=by
 show zQ aj (fX s p h) u x m=_;unfold zQ se;show aj.ae (I8 (iz s) x.1) _=_;rw[ai (KZ hl1)];by_cases j:(iD (iz s) x.1).2.1=true
 .rw[aB (by rw[j];rfl),ah j];have J:=Z6 ha j;generalize (iD (iz s) x.1).1=a at J;by_cases C:cF a=0
  .rw[ah C,aQ (by show(cF a==0)=true;simp[C])];rfl
  .have Y:0<cF a:=by have:=J.2.1.1;unfold cF at C ⊢;omega
   rw[ag C,aB (by show(cF a==0)=false;simp[C]),ai (akb J Y hm hI)];have hb:=arF hm Y;have hq:0<min (Qq m (cF a)) (oF x)/\cy (min (Qq m (cF a)) (oF x)):=by have:=hx.2;unfold cy at *;omega
   show aj.af false _ (aj.ae (F5 a (if oF x<Qq m (cF a)then oF x else Qq m (cF a))) _)=_;rw[aB (by rfl),acH];generalize hqe:min (Qq m (cF a)) (oF x)=q at hq;rw[ai (Ni J hq.2)];refine bB λk hk=>?_
   have K:∀e st,e≠0->k (e,st)=some (zS,e,()):=by
    intro e st he;subst hk;refine bB λk6 F=>?_
    have R:k6 (e,st)=some (zS,e,()):=by subst F;show aj.af (e != 0) _ _=_;rw[aQ (by simpa using he)];rfl
    clear F;show aj.af (e==0) _ (k6 (e,st))=_;rw[aB (by simpa using he),R]
   by_cases V:cy (q*cF a)
   .rw[jr V,ah V];have y:=aoP (l:=h) (f:=u) (t:=tU) (x:=(x.1,x.2.1,q,())) (tag:=0) hh hhl hq.2;generalize hP:Ff h u tU (x.1,x.2.1,q,()) 0=P at y;obtain⟨h',e1,⟨⟩⟩:=P
    have X:k (e1,fX s p h')=some (Bm s (if e1=0 then(if(ja p tU u (q*cF a)).2.1=0 then((ja p tU u (q*cF a)).1,h',0)else([],[],(ja p tU u (q*cF a)).2.1))else([],[],e1))):=by
     by_cases H:e1=0
     .rw[ah H];subst hk;refine bB λk6 F=>?_
      have hmv:=M6 (l:=p) (f:=tU) (t:=u) hf V (by omega);generalize hM:ja p tU u (q*cF a)=M at hmv;obtain⟨p',W,⟨⟩⟩:=M
      have R:k6 (W,fX s p' h')=some (Bm s (if W=0 then(p',h',0)else([],[],W))):=by
       subst F;show aj.af (W != 0) (some (zS,W,())) (some (fX s p' h',0,()))=_;unfold Bm;by_cases G:W=0
       .rw[aB (by simp[G]),ah G];rfl
       .rw[aQ (by simpa using G),ag G];dsimp only;rw[ag G]
      clear F;show aj.af (e1==0) _ _=_;rw[aQ (by simp[H])];refine jN ?_ ?_<;>
      .rw[ai Jd];dsimp only;rw[jr V];show aj.ae (qE p tU u (q*cF a)) _=_;rw[ai hmv];exact R
     .rw[ag H,K _ _ H];unfold Bm;rw[ag H]
    clear hk;show aj.af true _ _=_;rw[aQ (by rfl)];refine jN ?_ ?_<;>
    .rw[ai Jd];show aj.ae (VC h u tU (x.1,x.2.1,(if oF x<Qq m (cF a)then oF x else Qq m (cF a)),()) 0) _=_;rw[acH,hqe,ai y];exact X
   .rw[sQ V,ag V];clear hk;show aj.af false _ (k (7,fX s p h))=_;rw[aB (by rfl),K _ _ (by decide)];rfl
 .have j:(iD (iz s) x.1).2.1=false:=by simpa using j
  rw[aQ (by rw[j];rfl),ag (by rw[j];simp)];rfl
theorem afm{as}{u}{x}{m}{p}{h}(hh:kL h)(j:h.length<=380000)(y:tT p)(C:(se as u x m p h).2.2=0):
 tT (se as u x m p h).1/\(se as u x m p h).1.length<=p.length+2/\kL (se as u x m p h).2.1/\(se as u x m p h).2.1.length<=h.length+2:=by
 unfold se at C ⊢;split
 .split
  .exact⟨y,by simp,hh,by simp⟩
  .split
   .split
    .split
     .rename_i hm;have⟨F,a2⟩:=d_ hm;have⟨a3,a4⟩:=akh hh j u tU (x.1,x.2.1,min (Qq m (cF (iD as x.1).1)) (oF x),()) 0;exact⟨F,a2,a3,a4⟩
     .exact⟨λ_ h=>(by cases h),by simp,qI,by simp⟩
    .exact⟨λ_ h=>(by cases h),by simp,qI,by simp⟩
   .exact⟨λ_ h=>(by cases h),by simp,qI,by simp⟩
 .exact⟨λ_ h=>(by cases h),by simp,qI,by simp⟩
theorem Nk(as)(u)(cash):∀(l:List bh) (p:List aU) (h:List bj),kL h->h.length+2*l.length<=380000->tT p->(mN as u cash l p h).2.2=0->
 tT (mN as u cash l p h).1/\(mN as u cash l p h).1.length<=p.length+2*l.length/\kL (mN as u cash l p h).2.1/\(mN as u cash l p h).2.1.length<=h.length+2*l.length
 |[],p,h,hh,_,j,_=>⟨j,by simp[mN],hh,by simp[mN]⟩
 |x::l,p,h,hh,hl,j,he=>by
  rw[aJ]at hl;rw[mN]at he ⊢;split
  .rename_i y;rw[ah y]at he;split
   .rename_i C;rw[ah C]at he;by_cases hs:(se as u x (cash-hJ p u) p h).2.2=0
    .rw[ah hs]at he ⊢;have⟨J,a2,a3,a4⟩:=afm hh (by omega) j hs;have⟨b1,H,F,G⟩:=Nk as u cash l _ _ a3 (by omega) J he;exact⟨b1,by rw[aJ];omega,F,by rw[aJ];omega⟩
    .rw[ag hs]at he;exact absurd he hs
   .rename_i C;rw[ag C]at he;have⟨b1,H,F,G⟩:=Nk as u cash l _ _ hh (by omega) j he;exact⟨b1,by rw[aJ];omega,F,by rw[aJ];omega⟩
  .rename_i y;rw[ag y]at he;simp at he
theorem Eg{h}(hp:CQ h=true)(u):FC (eC h u):=by
 have hi:=(bD hp:b_ h).1;clear hp;induction h with
 |nil=>exact⟨λx F=>(by cases F),List.Pairwise.nil,by simp[eC]⟩
 |cons y l j=>
  rw[eC];split
  .exact(hi y (by simp)).2
  .exact j λz C=>hi z (by simp[C])
theorem Qt{as}{p}{h}{u}{cash}(hh:kL h)(hl:h.length<=370000)(F:tT p)(j:(lG as p h u cash).2.2=0):
 tT (lG as p h u cash).1/\(lG as p h u cash).1.length<=p.length+32/\kL (lG as p h u cash).2.1/\(lG as p h u cash).2.1.length<=h.length+32:=by
 unfold lG at j ⊢;by_cases y:xb p=true/\CQ h=true
 .rw[ah y]at j ⊢;by_cases C:u=tU
  .rw[ah C]at j;simp at j
  .rw[ag C]at j ⊢;have G:=(Eg y.2 u).2.2;have⟨H,a2,a3,a4⟩:=Nk as u cash (eC h u) p h hh (by omega) F j;exact⟨H,by omega,a3,by omega⟩
 .rw[ag y]at j;simp at j
def atr(st:aV)(L:List bh):Int×List aW×List bH×List bh×List az×List bA×List bR×List cj×List bC×List bC×List aU×List bj×List bh×Unit:=(st.1,st.2.1,st.2.2.1,st.2.2.2.1,st.2.2.2.2.1,st.2.2.2.2.2.1,st.2.2.2.2.2.2.1,st.2.2.2.2.2.2.2.1,st.2.2.2.2.2.2.2.2.1,st.2.2.2.2.2.2.2.2.2.1,st.2.2.2.2.2.2.2.2.2.2.1,st.2.2.2.2.2.2.2.2.2.2.2.1,L,())
theorem akj{s}{p}{h}{u}{cash:Int}(ha:∀a∈iz s,pn a)(hl1:(iz s).length<=1000)(hh:kL h)(hhl:h.length<=370000)(hf:tT p)(hl:p.length<=700000)(hc:cy cash):
 VF (fX s p h) u cash=some (Bm s (lG (iz s) p h u cash)):=by
 show wk aj (fX s p h) u cash=_;unfold wk lG;refine bB λk hk=>?_
 have kt:k (true,())=some (zS,3,()):=by subst hk;rfl
 have kf:CQ h=true->k (false,())=some (Bm s (if u=tU then([],[],2)else mN (iz s) u cash (eC h u) p h)):=by
  intro hp;subst hk;refine zp (by rfl) ?_;rw[ai Jd,tW];by_cases hu:u=tU
  .rw[aQ (by simp[hu]),ah hu];rfl
  .rw[aB (by simp[hu]),ag hu];show aj.ae (Hv h u) _=_;rw[ai (yZ hh)];have hinv:=Eg hp u;have X:=pO hh.1 u;generalize hL:eC h u=L at hinv X;have h16:=hinv.2.2;refine mz (l:=L) (s0:=(p,h)) (by omega) (λi (z:List aU×List bj)=>((i:Int),atr (fX s z.1 z.2) L)) (λi z=>kL z.2/\z.2.length+2*(L.length-i)<=370032/\tT z.1/\z.1.length+2*(L.length-i)<=700032) (λl' z=>some (Bm s (mN (iz s) u cash l' z.1 z.2))) rfl ⟨hh,by dsimp only;omega,hf,by dsimp only;omega⟩ ?_ ?_
   .rintro⟨p1,h1⟩ _ again;refine FQ ?_;rfl
   .rintro i hi ⟨p1,h1⟩ ⟨i1,i2,i3,i4⟩ again Y;simp only at i1 i2 i3 i4;show aj.af (decide ((i:Int)<(L.length:Int))) (aj.aI L (i:Int) λx6=>aj.ct L (Int.toNat (i:Int)) λx7=>aj.ae (oG p1 u) _) _=some (Bm s (mN (iz s) u cash (L[i]::L.drop (i+1)) p1 h1));rw[dk hi,bN hi,iI hi,ai (IF (by omega)),mN];have hg:=Qr i3 u;rw[ai (I1 hc hg)];have hqx:0<oF L[i]/\cy (oF L[i]):=⟨(hinv.1 _ (aF hi)).2.2,X.2 _ (aF hi)⟩;generalize hJ p1 u=g at hg;refine bB λJ G=>?_
    have H:∀(e:Int) (st:aV),e≠0->J (e,atr st L)=some (zS,e,()):=by intro e st he;subst G;exact tby he rfl
    have R:∀(r:PH),(r.2.2=0->kL r.2.1/\r.2.1.length<=h1.length+2/\tT r.1/\r.1.length<=p1.length+2)->∀st:aV,st=(Bm s r).1->
     J ((Bm s r).2.1,atr st L)=some (Bm s (if r.2.2=0 then mN (iz s) u cash (L.drop (i+1)) r.1 r.2.1 else([],[],r.2.2))):=by
     rintro⟨p2,h2,e⟩ hr st rfl;simp only at hr;by_cases he:e=0
     .subst G;obtain⟨r1,r2,r3,r4⟩:=hr he;have er:Bm s (p2,h2,e)=(fX s p2 h2,0,()):=ah he;rw[er,ah he];refine zp (by rfl) ?_;rw[cJ i];exact Y (p2,h2) ⟨r1,by dsimp only;omega,r3,by dsimp only;omega⟩
     .have er:Bm s (p2,h2,e)=(zS,e,()):=ag he;rw[er,ag he];exact(H e zS he).trans (bQ some (ag he:Bm s ([],[],e)=_).symm)
    clear G Y;by_cases hI:cy (cash-g)
    .rw[jr hI,ah hI];refine bB λC y=>?_
     have V:0<cash-g->C (true,L,())=some (Bm s (if(se (iz s) u L[i] (cash-g) p1 h1).2.2=0 then mN (iz s) u cash (L.drop (i+1)) (se (iz s) u L[i] (cash-g) p1 h1).1 (se (iz s) u L[i] (cash-g) p1 h1).2.1 else([],[],(se (iz s) u L[i] (cash-g) p1 h1).2.2))):=by intro j;subst y;have K:=atq (s:=s) (p:=p1) (h:=h1) (u:=u) (x:=L[i]) (m:=cash-g) ha hl1 i1 (by omega) i3 (by omega) hqx j hI;show aj.af true (aj.ae (VE (fX s p1 h1) u L[i] (cash-g)) _) _=_;rw[aQ (by rfl),ai K];exact R _ (λhe=>by obtain⟨a1,a2,a3,a4⟩:=afm i1 (by omega) i3 he;exact⟨a3,a4,a1,a2⟩) _ rfl
     have F:C (false,L,())=some (Bm s (mN (iz s) u cash (L.drop (i+1)) p1 h1)):=by subst y;have:=R (p1,h1,0) (λ_=>⟨i1,by simp,i3,by simp⟩) (fX s p1 h1) rfl;show aj.af false _ _=_;rw[aB (by rfl)];exact this
     clear y R;show aj.af true (C (decide (0<cash-g),L,())) _=_;rw[aQ (by rfl)];by_cases j:0<cash-g
     .rw[ap j,ah j];exact V j
     .rw[an j,ag j];exact F
    .rw[sQ hI,ag hI];refine bB λC y=>?_
     have F:C (false,L,())=some (Bm s ([],[],7)):=by subst y;show aj.af false _ (J (7,_))=_;rw[aB (by rfl)];exact H 7 (fX s p1 h1) (by decide)
     clear y;show aj.af false _ (C (false,L,()))=_;rw[aB (by rfl)];exact F
 clear hk;show aj.ae (KN p) _=_;rw[ai (ZL (by omega))];by_cases hp:xb p=true
 .rw[hp,aB (by rfl)];show aj.ae (Qu h) _=_;rw[ai (Jc hh)];by_cases W:CQ h=true
  .rw[W,ah ⟨rfl,rfl⟩];exact kf W
  .have W:CQ h=false:=by simpa using W
   rw[W,ag (by simp)];exact kt
 .have hp:xb p=false:=by simpa using hp
  rw[hp,aQ (by rfl),ag (by simp),kt];rfl
def rb(s:aV)(r:Ng):aV×List xe×Int×Unit:=if r.2.2.2=0 then(fX s r.1 r.2.1,r.2.2.1,0,())else(zS,[],r.2.2.2,())
theorem akk{s}{p}{h}{b t}{n:Int}(W:∀a∈iz s,pn a)(J:(iz s).length<=1000)(hh:kL h)(F:h.length<=370000)(K:tT p)(hl:p.length<=700000)(R:cy n):
 VG (fX s p h) b t n=some (rb s (Bz (iz s) p h b t n)):=by
 show wm aj (fX s p h) b t n=_;unfold wm Bz;by_cases G:n=0
 .rw[aQ (by simp[G]),ah G];rfl
 .rw[aB (by simp[G]),ag G,ai (akj W J hh F K hl R)];have C:=λhe=>Qt (as:=iz s) (u:=b) (cash:=n) hh F K he
  generalize lG (iz s) p h b n=r at C;have⟨p1,h1,e⟩:=r;simp only at C;refine bB λk hk=>?_
  have y:∀e st,e≠0->k (e,st)=some (zS,[],e,()):=by intro e st he;subst hk;refine tby he ?_;rfl
  have kok:∀st,k (0,st)=some (st,[(b,t,n,())],0,()):=by intro st;subst hk;refine zp (by rfl) ?_;exact jN rfl rfl
  by_cases he:e=0
  .have er:Bm s (p1,h1,e)=(fX s p1 h1,0,()):=ah he;have⟨X,a2,a3,a4⟩:=C he;rw[er,ah he];have H:=M6 (l:=p1) (f:=b) (t:=t) X R (by omega);show aj.af true (aj.ae (qE p1 b t n) _) _=_;rw[aQ (by rfl),ai H];generalize ja p1 b t n=M;have⟨p2,V,⟨⟩⟩:=M;dsimp only;by_cases j:V=0
   .subst j;rw[kok,ah rfl];rfl
   .rw[y _ _ j,ag j];exact bQ some (ag j:rb s ([],[],[],V)=_).symm
  .have er:Bm s (p1,h1,e)=(zS,e,()):=ag he;rw[er,ag he];refine tqn he ?_;rw[y _ _ he];exact bQ some (ag he:rb s ([],[],[],e)=_).symm
theorem arG(a b):aoQ (a::(b::[]))=some (if a=0 then b else a):=by
 by_cases C:a=0
 .rw[ah C];refine ug (N:=if b=0 then 2 else 1) (by split<;>decide) (λi=>(((i:Nat):Int),())) _ rfl ?_ ?_
  .intro j;by_cases hb:b=0
   .rw[ah hb,hb];rfl
   .rw[ag hb];show aj.af true (aj.af (b != 0) (some b) _) _=_;rw[aQ (by rfl),fz hb]
  .intro i hi j y;have:i=0\/(i=1/\b=0):=by split at hi<;>omega
   rcases this with rfl|⟨rfl,hb⟩
   .show aj.af true (aj.af (a != 0) (some a) _) _=_;rw[aQ (by rfl),aB (by simp[C])];exact y
   .show aj.af true (aj.af (b != 0) (some b) _) _=_;rw[aQ (by rfl),aB (by simp[hb])];exact y
 .rw[ag C];refine Z4 _ _ _ λj=>?_
  show aj.af true (aj.af (a != 0) (some a) _) _=_;rw[aQ (by rfl),fz C]
theorem K'{p}(j:tT p)(u):cy (gu p u).1/\0<=(gu p u).1:=by
 have y:=Qr j u;unfold gu;split
 .exact⟨by unfold cy;omega,ky _⟩
 .split
  .unfold cy at *;exact⟨by omega,by omega⟩
  .exact⟨by unfold cy;omega,ky _⟩
theorem afn(as)(p)(h)(u):cy (By as p h u).1/\0<=(By as p h u).1:=by
 unfold By;split
 .split
  .rename_i j;unfold cy at *;exact⟨by omega,by omega⟩
  .exact⟨by unfold cy;omega,ky _⟩
 .exact⟨by unfold cy;omega,ky _⟩
theorem ats{s}{p}{h}{b t}(H:∀a∈iz s,pn a)(y:(iz s).length<=1000)(hh:kL h)(G:h.length<=370000)(F:tT p)(hl:p.length<=700000):
 e_ (fX s p h) b t=some (rb s (I7 (iz s) p h b t)):=by
 show C3 aj (fX s p h) b t=_;unfold C3 I7;rw[ai (Xp (s:=fX s p h) F (by show p.length<=_;omega)),ai (aka (s:=fX s p h) H y hh F (by show p.length<=_;omega))];show aj.aH _ _=_;have ho:=K' F t;have K:=afn (iz s) p h b;have V:gu (pu (fX s p h)) t=gu p t:=rfl;have R:By (iz (fX s p h)) (pu (fX s p h)) (Go.Proofs.YthghpahghjppjaaGreat.ho (fX s p h)) b=By (iz s) p h b:=rfl;rw[V,R];generalize gu p t=o at *;generalize By (iz s) p h b=r at *;obtain⟨n,e,⟨⟩⟩:=o;obtain⟨m,f,⟨⟩⟩:=r;simp only at ho K;refine bB λk hk=>?_
 have C:k (true,())=some (zS,[],(if e=0 then f else e),()):=by subst hk;refine Um (by rfl) ?_;rw[ai (arG e f)];rfl
 have J:k (false,())=some (rb s (if b=t then(p,h,[],0)else Bz (iz s) p h b t (min n m))):=by
  subst hk;refine zp (by rfl) ?_;rw[tW,acH];by_cases hu:b=t
  .rw[aQ (by simp[hu]),ah hu];rfl
  .rw[aB (by simp[hu]),ag hu,ai (akk H y hh G F hl (by unfold cy at *;omega))]
 show aj.af (e != 0) (k (true,())) (k (f != 0,()))=some (rb s (if e=0 then(if f=0 then(if b=t then(p,h,[],0)else Bz (iz s) p h b t (min n m))else([],[],[],f))else([],[],[],e)));by_cases he:e=0
 .rw[aB (by simp[he]),ah he];rw[ah he]at C;by_cases j:f=0
  .rw[ah j,show(f != 0)=false by simp[j],J]
  .rw[ag j,show(f != 0)=true by simpa using j,C];exact bQ some (ag j:rb s ([],[],[],f)=_).symm
 .rw[fz he,ag he];rw[ag he]at C;rw[C];exact bQ some (ag he:rb s ([],[],[],e)=_).symm
theorem att{s}{p}{h}{u}(Y:∀a∈iz s,pn a)(R:(iz s).length<=1000)(hh:kL h)(G:h.length<=370000)(J:tT p)(hl:p.length<=700000):
 f_ (fX s p h) u=some (rb s (PJ (iz s) p h u)):=by
 show C4 aj (fX s p h) u=_;unfold C4 PJ;rw[ai (Xp (s:=fX s p h) J (by show p.length<=_;omega))];have ho:=K' J u;have V:gu (pu (fX s p h)) u=gu p u:=rfl;rw[V];clear V;generalize gu p u=o at *;obtain⟨n,e,⟨⟩⟩:=o;simp only at ho;show aj.af (e != 0) (some (zS,[],e,())) (aj.ae (VF (fX s p h) u 0) _)=some (rb s (if e=0 then _ else([],[],[],e)));by_cases he:e=0
 .rw[aB (by simp[he]),ah he,ai (akj Y R hh G J hl (by unfold cy;omega))];have C:=λhe=>Qt (as:=iz s) (u:=u) (cash:=0) hh G J he
  generalize lG (iz s) p h u 0=r at C;obtain⟨p1,h1,F⟩:=r;simp only at C;by_cases j:F=0
  .have er:Bm s (p1,h1,F)=(fX s p1 h1,0,()):=ah j;obtain⟨W,a2,a3,a4⟩:=C j;rw[er,ah j];show aj.af false _ (aj.ae (Vx (fX s p1 h1) u) _)=_;rw[aB (by rfl),ai (Xp (s:=fX s p1 h1) W (by show p1.length<=_;omega))];have K:=K' W u;have e3:gu (pu (fX s p1 h1)) u=gu p1 u:=rfl;rw[e3];generalize gu p1 u=X at *;obtain⟨y,f2,⟨⟩⟩:=X;simp only at K;show aj.af (n==y) (some (fX s p1 h1,[],0,())) (aj.gA (some (fX s p1 h1,[(u,u,i64.wrap (n-y),())],0,())) (some (fX s p1 h1,[(u,u,i64.wrap (n-y),())],0,())))=some (rb s (if n=y then(p1,h1,[],0)else(p1,h1,[(u,u,n-y,())],0)));by_cases H:n=y
   .rw[aQ (by simp[H]),ah H];rfl
   .have ew:i64.wrap (n-y)=n-y:=bF _ (by unfold cy at *;omega);rw[aB (by simpa using H),ag H,ew];exact jN rfl rfl
  .have er:Bm s (p1,h1,F)=(zS,F,()):=ag j;rw[er,ag j];show aj.af (F != 0) (some (zS,[],F,())) _=_;rw[aQ (by simpa using j)];exact bQ some (ag j:rb s ([],[],[],F)=_).symm
 .rw[aQ (by simpa using he),ag he];exact bQ some (ag he:rb s ([],[],[],e)=_).symm
set_option maxHeartbeats 4000000
set_option maxRecDepth 1000000
def jK(T S:Int):List Int->Int->List Dj
 |[],_=>[]
 |w::l,i=>(i,T*w / S,T*w % S,())::jK T S l (i+1)
def bump:List Dj->List Int->List Int
 |[],o=>o
 |q::qs,o=>bump qs (o.set q.1.toNat (o.getD q.1.toNat 0+1))
def partsOf(Q:List Dj):List Int:=Q.map λq=>q.2.1
def leftOf(Q:List Dj):List Int:=Q.map λq=>q.2.2.1
def WV(T:Int)(l:List Int):Nat:=(T-(partsOf (jK T l.sum l 0)).sum).toNat
def GU(T:Int)(l:List Int):List Int:=if T=0 then List.replicate l.length 0 else bump ((sV (jK T l.sum l 0)).take (WV T l)) (partsOf (jK T l.sum l 0))
theorem H'(T S):∀(l:List Int) (i:Int),(jK T S l i).length=l.length
 |[],_=>rfl
 |w::l,i=>by simp[jK,H' T S l]
theorem YV(T S):∀(l:List Int) (i:Int) (k:Nat) (h:k<l.length),(jK T S l i)[k]'(by rw[H'];exact h)=(i+k,T*l[k] / S,T*l[k] % S,())
 |w::l,i,0,h=>by simp[jK]
 |w::l,i,k+1,h=>by have:=YV T S l (i+1) k (by simpa using h);simp only[jK,vA];rw[this];congr 1;omega
theorem YW{T S}:∀{l:List Int} {i:Int} {q:Dj},q∈jK T S l i->∃w∈l,q.2.1=T*w / S/\q.2.2.1=T*w % S/\i<=q.1/\q.1<i+l.length
 |[],_,_,h=>by cases h
 |w::l,i,q,h=>by
  rcases aG.1 h with rfl|h
  .exact⟨w,ec,rfl,rfl,ky _,by simp;omega⟩
  .have⟨v,hv,y,j,F,C⟩:=YW h;exact⟨v,cH _ hv,y,j,by omega,by simp only[aJ];omega⟩
theorem YX(T S):∀(l:List Int) (i:Int),(jK T S l i).Pairwise λa b=>a.1<b.1
 |[],_=>.nil
 |w::l,i=>bz.2 ⟨λq j=>by have⟨_,_,_,_,h,_⟩:=YW j;omega,YX T S l (i+1)⟩
theorem agZ{T S}(hS:0<S):∀(l:List Int) (i:Int),(partsOf (jK T S l i)).sum*S+(leftOf (jK T S l i)).sum=T*l.sum
 |[],_=>by simp[jK,partsOf,leftOf]
 |w::l,i=>by have j:=agZ (T:=T) hS l (i+1);have e:=qm (T*w) S;simp only[jK,partsOf,leftOf,bK,gG]at j ⊢;rw[nM,yf,iv (T*w / S)];omega
theorem T3{S}:∀{L:List Dj},(∀q∈L,q.2.2.1<S)->(leftOf L).sum<=L.length*(S-1)
 |[],_=>by simp[leftOf]
 |q::L,h=>by
  have j:=T3 (L:=L) λx y=>h x (cH _ y)
  have C:=h q ec;simp only[leftOf,bK,gG,aJ]at j ⊢;have e:((L.length+1:Nat):Int)*(S-1)=L.length*(S-1)+(S-1):=by rw[FB,nM];simp
  rw[e];omega
theorem abQ:∀{L:List Dj},(∀q∈L,q.2.2.1=0)->(leftOf L).sum=0
 |[],_=>by simp[leftOf]
 |q::L,h=>by
  have j:=abQ (L:=L) λx y=>h x (cH _ y)
  have C:=h q ec;simp only[leftOf,bK,gG]at j ⊢;omega
theorem ao2{S}{r:Nat}{L:List Dj}(hS:0<S)(K:L.Pairwise λa b=>ψ a b=true)(G:∀q∈L,0<=q.2.2.1/\q.2.2.1<S)(hs:(leftOf L).sum=r*S):r<=L.length/\∀q∈L.take r,0<q.2.2.1:=by
 have key:∀k:Nat,k<r->((leftOf (L.drop k)).sum=0->False):=by
  intro k H V;have e:(leftOf L).sum=(leftOf (L.take k)).sum+(leftOf (L.drop k)).sum:=by rw[<-mV];unfold leftOf;rw[<-cC,jU]
  have h1:=T3 (S:=S) (L:=L.take k) λq F=>(G q (dw F)).2
  have Y:((L.take k).length:Int)*(S-1)<=k*(S-1):=iw (by rw[aY];omega) (by omega);have X:((k:Nat):Int)*(S-1)+k=k*S:=by rw[Int.mul_sub];omega
  have W:((k:Nat):Int)*S+S<=r*S:=by have:=iw (show((k+1:Nat):Int)<=r by omega) (show 0<=S by omega);rw[FB,nM]at this;simpa using this
  omega
 have hl:r<=L.length:=by
  rcases dI L.length r with h|h
  .exact(key _ h (by rw[fu];simp[leftOf])).elim
  .exact h
 refine⟨hl,λq F=>?_⟩;obtain⟨k,H,rfl⟩:=jG F;rw[aY]at H;rw[jC];have j:k<L.length:=by omega
 have hb:=G _ (aF j);rcases zm (0<(L[k]).2.2.1)with h|h
 .exact h
 .refine(key k (by omega) (abQ λx y=>?_)).elim;have J:=G x (kz y);rw[cn j]at y;rcases aG.1 y with rfl|y
  .omega
  .have R:=cn j;have C:(L.drop k).Pairwise λa b=>ψ a b=true:=K.sublist (B8 _ _)
   rw[R]at C;have:=(bz.1 C).1 x y;rw[HJ]at this;omega
theorem T4:∀(qs:List Dj) (o:List Int),(bump qs o).length=o.length
 |[],_=>rfl
 |q::qs,o=>by rw[bump,T4 qs];simp
theorem getD_set_ne{o:List Int}{i j:Nat}{v:Int}(h:i≠j):(o.set i v).getD j 0=o.getD j 0:=by rw[eF,eF,List.getElem?_set_ne h]
theorem aha{T:Int}:∀(qs:List Dj) (o:List Int),(∀x∈o,0<=x/\x<=T)->(∀q∈qs,0<=q.1/\o.getD q.1.toNat 0+1<=T)->(qs.Pairwise λa b=>a.1≠b.1)->∀x∈bump qs o,0<=x/\x<=T
 |[],o,h,_,_=>h
 |q::qs,o,h,F,hp=>by
  have⟨p1,p2⟩:=bz.1 hp
  have g0:0<=o.getD q.1.toNat 0:=by
   rw[eF];cases e:o[q.1.toNat]? with
   |none=>simp
   |some v=>exact(h v (kB e)).1
  have H:=F q ec;refine aha qs _ (λx y=>?_) (λC j=>?_) p2
  .rcases rO y with y|rfl
   .exact h x y
   .omega
  .have G:=F C (cH _ j);have J:=p1 C j;refine⟨G.1,?_⟩;rw[getD_set_ne (by omega)];exact G.2
structure OkW(T:Int)(l:List Int):Prop where
 t0:0<=T
 ts:T<=l.sum
 nn:∀w∈l,0<=w
 s64:cy l.sum
 len:l.length<=1000
theorem ajl{a b:List Int}(h:a.Perm b):a.sum=b.sum:=by
 induction h with
 |nil=>rfl
 |cons x _ j=>rw[gG,gG,j]
 |swap x y l=>simp only[gG];omega
 |trans _ _ h1 C=>exact h1.trans C
theorem GV:∀{l:List Int},(∀w∈l,0<=w)->0<=l.sum/\∀w∈l,w<=l.sum
 |[],_=>by simp
 |x::l,h=>by
  have⟨F,y⟩:=GV (l:=l) λw j=>h w (cH _ j)
  have C:=h x ec;refine⟨by rw[gG];omega,λw j=>?_⟩;rw[gG];rcases aG.1 j with rfl|j
  .omega
  .have:=y w j;omega
theorem OkW.w64{T}{l}(h:OkW T l):∀w∈l,cy w:=λw j=>by have F:=(GV h.nn).2 w j;have C:=h.nn w j;have y:=h.s64;unfold cy at *;omega
structure OkQ(T S:Int)(l:List Int)(Q:List Dj)(r:Nat):Prop where
 len:Q.length=l.length
 q:∀q∈Q,0<=q.1/\q.1<l.length/\0<=q.2.1/\q.2.1<=T/\0<=q.2.2.1/\q.2.2.1<S/\(0<q.2.2.1->q.2.1+1<=T)
 re:(r:Int)=T-(partsOf Q).sum
 rl:r<=l.length
 pos:∀q∈(sV Q).take r,0<q.2.2.1
theorem OkW.quo{T}{l:List Int}(h:OkW T l)(hT:T≠0):OkQ T l.sum l (jK T l.sum l 0) (WV T l):=by
 have hS:0<l.sum:=by have:=h.t0;have:=h.ts;omega
 have G:∀q∈jK T l.sum l 0,0<=q.1/\q.1<l.length/\0<=q.2.1/\q.2.1<=T/\0<=q.2.2.1/\q.2.2.1<l.sum/\(0<q.2.2.1->q.2.1+1<=T):=by
  intro q G;have⟨w,H,V,R,e3,e4⟩:=YW G;have W:=h.nn w H;have w1:=(GV h.nn).2 w H;have a:=iY h.t0 W;have b:=gd w1 h.t0;have c:=i7 (T*w) (vn hS);have d:=gn (T*w) hS;have m:=qm (T*w) l.sum;rw[<-V,<-R]at m;rw[<-R]at c d;have f:0<=q.2.1:=by rw[V];exact fx a (gR hS)
  have g:q.2.1<=T:=by
   rcases zm (q.2.1<=T)with g|g
   .exact g
   .have:=gd (show T+1<=q.2.1 by omega) (gR hS);rw[yf,iv l.sum T]at this;omega
  refine⟨e3,by omega,f,g,c,d,λhp=>?_⟩;rcases zm (q.2.1+1<=T)with g2|g2
  .exact g2
  .have e5:q.2.1=T:=by omega
   rw[e5,iv l.sum T]at m;omega
 have J:=agZ (T:=T) hS l 0;have j:=tf (jK T l.sum l 0);have C:∀L:List Dj,(∀q∈L,0<=q.2.2.1)->0<=(leftOf L).sum:=λL hL=>by refine(GV (l:=leftOf L) λw H=>?_).1;obtain⟨q,G,rfl⟩:=aN.1 H;exact hL q G
 have Y:=C _ λq F=>(G q F).2.2.2.2.1
 have e:(T-(partsOf (jK T l.sum l 0)).sum)*l.sum=(leftOf (jK T l.sum l 0)).sum:=by rw[Int.sub_mul];omega
 have X:0<=T-(partsOf (jK T l.sum l 0)).sum:=by
  rcases zm (0<=T-(partsOf (jK T l.sum l 0)).sum)with g|g
  .exact g
  .have:=iw (show T-(partsOf (jK T l.sum l 0)).sum <= -1 by omega) (gR hS);omega
 have K:((WV T l:Nat):Int)=T-(partsOf (jK T l.sum l 0)).sum:=by unfold WV;omega
 have y:(leftOf (sV (jK T l.sum l 0))).sum=(leftOf (jK T l.sum l 0)).sum:=ajl (j.map _);have hh:=ao2 (r:=WV T l) hS (Sf (jK T l.sum l 0)) (λq F=>by have:=G q (j.mem_iff.1 F);exact⟨this.2.2.2.2.1,this.2.2.2.2.2.1⟩) (by rw[y,K,e]);rw[j.length_eq,H']at hh;exact⟨H' _ _ _ _,G,K,hh.1,hh.2⟩
theorem abR{Q}{n:Nat}(C:∀(k:Nat) (h:k<Q.length),(Q[k]).1=(k:Int)){q:Dj}(y:q∈Q):(partsOf Q).getD q.1.toNat 0=q.2.1/\(leftOf Q).getD q.1.toNat 0=q.2.2.1:=by obtain⟨k,j,rfl⟩:=jG y;rw[C k j,aP];unfold partsOf leftOf;simp[eF,j]
theorem ao3(T S)(l):∀(k:Nat) (h:k<(jK T S l 0).length),((jK T S l 0)[k]).1=(k:Int):=λk h=>by rw[YV T S l 0 k (by rwa [H']at h)];exact rF _
theorem ahb{Q}(h:Q.Pairwise λa b=>a.1<b.1):(sV Q).Pairwise λa b=>a.1≠b.1:=(List.Perm.pairwise_iff (λh=>ga h) (tf Q)).2 (h.imp λh=>by omega)
theorem OkW.split{T}{l:List Int}(h:OkW T l):(GU T l).length=l.length/\∀x∈GU T l,0<=x/\x<=T:=by
 unfold GU;by_cases C:T=0
 .rw[ah C];refine⟨vY,λx y=>?_⟩;have:=List.eq_of_mem_replicate y;subst this;have:=h.t0;omega
 .rw[ag C];have K:=h.quo C;refine⟨by rw[T4];unfold partsOf;rw[bp,K.len],aha _ _ (λx y=>?_) (λq j=>?_) ((ahb (YX _ _ _ _)).sublist (List.take_sublist _ _))⟩
  .obtain⟨q,j,rfl⟩:=aN.1 y;have:=K.q q j;exact⟨this.2.2.1,this.2.2.2.1⟩
  .have hm:=(tf _).mem_iff.1 (dw j);have k:=K.q q hm;refine⟨k.1,?_⟩;rw[(abR (n:=0) (ao3 _ _ _) hm).1];exact k.2.2.2.2.2.2 (K.pos q j)
abbrev FD:=List aU->List bj->Ng
def om:List FD->List aU->List bj->List xe->Ng
 |[],p,h,d=>(p,h,d,0)
 |a::l,p,h,d=>if(a p h).2.2.2=0 then om l (a p h).1 (a p h).2.1 (d++(a p h).2.2.1)else([],[],[],(a p h).2.2.2)
theorem Po:∀(l:List FD) (p:List aU) (h:List bj) (d j:List xe),
 (om l p h (j++d)).2.2.2=(om l p h d).2.2.2/\((om l p h d).2.2.2=0->om l p h (j++d)=((om l p h d).1,(om l p h d).2.1,j++(om l p h d).2.2.1,0))
 |[],p,h,d,j=>by simp[om]
 |a::l,p,h,d,j=>by
  rw[om,om];by_cases y:(a p h).2.2.2=0
  .rw[ah y,ah y,bn];exact Po l _ _ _ j
  .rw[ag y,ag y];exact⟨rfl,λC=>absurd C y⟩
abbrev UA:=ar×Int
abbrev ax0:=ar×ar×Int
def sf:List UA->List UA->List ax0
 |[],_=>[]
 |_::_,[]=>[]
 |(u,x)::gs,(v,y)::ts=>(u,v,min x y)::if x<=y then sf gs ((v,y-x)::ts)else sf ((u,x-y)::gs) ts
termination_by gs ts=>gs.length+ts.length
theorem YN:∀(n:Nat) (gs ts:List UA),gs.length+ts.length<=n->(sf gs ts).length<=gs.length+ts.length
 |_,[],ts,_=>by rw[sf];simp
 |_,(u,x)::gs,[],_=>by rw[sf];simp
 |n,(u,x)::gs,(v,y)::ts,j=>by
  obtain⟨m,rfl⟩:∃m,n=m+1:=⟨n-1,by simp only[aJ]at j;omega⟩;rw[sf];simp only[aJ]at j ⊢;split
  .have:=YN m gs ((v,y-x)::ts) (by simp only[aJ];omega);simp only[aJ]at this;omega
  .have:=YN m ((u,x-y)::gs) ts (by simp only[aJ];omega);simp only[aJ]at this;omega
def JS(as:List gK)(x:ax0):FD:=λp h=>Bz as p h x.1 x.2.1 x.2.2
structure StR(p:List aU)(h:List bj)(d:List xe)(n:Nat):Prop where
 f:tT p
 pl:p.length<=94+40*n
 hh:kL h
 hl:h.length<=94+32*n
 dl:d.length<=n
def Fx(a:FD)(k:Nat):Prop:=∀p h d n,StR p h d n->n+k<=10000->(a p h).2.2.2=0->StR (a p h).1 (a p h).2.1 (d++(a p h).2.2.1) (n+k)
theorem YO(as)(b t)(m):Fx (λp h=>Bz as p h b t m) 1:=by
 intro p h d n S H j;have hh:=S.hl;have G:=S.pl;have J:=S.dl;dsimp only at j ⊢;unfold Bz at j ⊢;by_cases F:m=0
 .rw[ah F];exact⟨S.f,by dsimp only;omega,S.hh,by dsimp only;omega,by rw[cz];omega⟩
 .rw[ag F]at j ⊢;by_cases C:(lG as p h b m).2.2=0
  .rw[ah C]at j ⊢;have⟨_,a2,a3,a4⟩:=Qt S.hh (by omega) S.f C;by_cases y:(ja (lG as p h b m).1 b t m).2.1=0
   .rw[ah y];have:=d_ y;refine⟨this.1,?_,a3,?_,?_⟩
    .dsimp only;omega
    .dsimp only;omega
    .rw[aq];show d.length+1<=n+1;omega
   .rw[ag y]at j;exact absurd j y
  .rw[ag C]at j;exact absurd j C
theorem agV(as)(b t):Fx (λp h=>I7 as p h b t) 1:=by
 intro p h d n S G j;have hh:=S.hl;have H:=S.pl;have J:=S.dl;dsimp only at j ⊢;unfold I7 at j ⊢;by_cases C:(gu p t).2.1=0
 .rw[ah C]at j ⊢;by_cases y:(By as p h b).2.1=0
  .rw[ah y]at j ⊢;by_cases F:b=t
   .rw[ah F];exact⟨S.f,by dsimp only;omega,S.hh,by dsimp only;omega,by rw[cz];omega⟩
   .rw[ag F]at j ⊢;exact YO as b t _ p h d n S G j
  .rw[ag y]at j;exact absurd j y
 .rw[ag C]at j;exact absurd j C
theorem agW(as)(u):Fx (λp h=>PJ as p h u) 1:=by
 intro p h d n S J j;have hh:=S.hl;have H:=S.pl;have K:=S.dl;dsimp only at j ⊢;unfold PJ at j ⊢;by_cases C:(gu p u).2.1=0
 .rw[ah C]at j ⊢;by_cases y:(lG as p h u 0).2.2=0
  .rw[ah y]at j ⊢;have⟨G,a2,a3,a4⟩:=Qt S.hh (by omega) S.f y;by_cases F:(gu p u).1=(gu (lG as p h u 0).1 u).1
   .rw[ah F];exact⟨G,by dsimp only;omega,a3,by dsimp only;omega,by rw[cz];omega⟩
   .rw[ag F];exact⟨G,by dsimp only;omega,a3,by dsimp only;omega,by rw[aq];show d.length+1<=n+1;omega⟩
  .rw[ag y]at j;exact absurd j y
 .rw[ag C]at j;exact absurd j C
theorem agX{k}:∀(l:List FD),(∀a∈l,Fx a k)->∀p h d n,StR p h d n->n+k*l.length<=10000->(om l p h d).2.2.2=0->StR (om l p h d).1 (om l p h d).2.1 (om l p h d).2.2.1 (n+k*l.length)
 |[],_,p,h,d,n,S,_,_=>S
 |a::l,hl,p,h,d,n,S,y,he=>by
  rw[aJ,vB]at y ⊢;rw[om]at he ⊢;by_cases j:(a p h).2.2.2=0
  .rw[ah j]at he ⊢;have:=agX l (λb hb=>hl b (cH _ hb)) _ _ _ _ (hl a ec p h d n S (by omega) j) (by omega) he
   rwa [show n+k+k*l.length=n+(k*l.length+k)by omega]at this
  .rw[ag j]at he;exact absurd he j
def I3(n:Nat):Nat:=if n=0 then 0 else n.log2+1
theorem afe{n}(h:0<n):2 ^ I3 n<=2*n/\n+1<=2 ^ I3 n:=by unfold I3;rw[ag (by omega)];have y:=Nat.log2_self_le (n:=n) (by omega);have j:=Nat.lt_log2_self (n:=n);rw[pF]at *;omega
def arD(s:ByteArray)(n:Nat):Bool:=match s[n]? with|some b=>b.toNat==I3 n|none=>false
theorem ajS{β}{s}(hs:(List.range 256).all (arD s)=true){n:Nat}(y:n<256)(K:Int->Option β):aj.KV s (n:Int) K=K (I3 n:Nat):=by
 have j:=lZ.1 hs n (Bg.2 y);dsimp only;unfold aff;rw[ap (by omega)];unfold arD at j;rw[aP];cases hb:s[n]? with
 |none=>rw[hb]at j;cases j
 |some b=>
  rw[hb]at j;have C:b.toNat=I3 n:=by simpa using j
  show K (b.toNat:Int)=_;rw[C]
theorem arE{x z n b}(H:2 ^ n*z<=x)(F:x<2 ^ n*(z+1))(C:2 ^ b<=2*z)(y:z+1<=2 ^ b)(G:n+b<=64):9223372036854775808<=x*2 ^ (64-(n+b))/\x*2 ^ (64-(n+b))<18446744073709551616:=by
 have e:2 ^ n*2 ^ b*2 ^ (64-(n+b))=18446744073709551616:=by rw[<-tG,<-tG,show n+b+(64-(n+b))=64 by omega]
 have p:=yF (64-(n+b));constructor
 .have j:2 ^ n*2 ^ b<=2*x:=bU (lm _ C) (by rw[Nat.mul_left_comm];omega);have a2:=du (2 ^ (64-(n+b))) j;rw[e,xq]at a2;omega
 .have j:=dZ F (lm _ y);have a2:=Nat.mul_lt_mul_of_pos_right j p
  rwa [e]at a2
theorem ajT{x z n}(m)(y:2 ^ n*z<=x)(j:x<2 ^ n*(z+1)):2 ^ (n+m)*(z / 2 ^ m)<=x/\x<2 ^ (n+m)*(z / 2 ^ m+1):=by have p:=yF m;have C:2 ^ m*(z / 2 ^ m)<=z:=Nat.mul_div_le z _;have a2:=Nat.lt_mul_div_succ z p;rw[tG,xq,xq];exact⟨bU (lm _ C) y,dZ j (lm _ a2)⟩
def F1(x:Nat)(o:Option Int):Prop:=∃n z:Nat,o=some ((n+I3 z:Nat):Int)/\0<z/\z<256/\n<=56/\2 ^ n*z<=x/\x<2 ^ n*(z+1)
theorem ajU(z m:Nat)(hm:m<=64):Int.fdiv (z:Int) (2 ^ (min (Int.toNat (m:Int)) u64.bits))=((z / 2 ^ m:Nat):Int):=by rw[aP,show min m u64.bits=m from gz hm,eE _ (Int.pow_nonneg (by decide))];simp
theorem aoK{x:Nat}(Y:0<x)(hx:x<18446744073709551616):F1 x (PG (x:Int)):=by
 show F1 x (q8 aj (x:Int));refine Xj (Q:=F1 x) λC H=>?_
 have W:∀z n:Nat,0<z->z<4294967296->n<=32->2 ^ n*z<=x->x<2 ^ n*(z+1)->F1 x (C ((z:Int),(n:Int),())):=by
  intro z n a b c d e;subst H;refine Xj (Q:=F1 x) λF J=>?_
  have V:∀z n:Nat,0<z->z<65536->n<=48->2 ^ n*z<=x->x<2 ^ n*(z+1)->F1 x (F ((z:Int),(n:Int),())):=by
   intro z n a b c d e;subst J;refine Xj (Q:=F1 x) λG K=>?_
   have R:∀z n:Nat,0<z->z<256->n<=56->2 ^ n*z<=x->x<2 ^ n*(z+1)->F1 x (G ((z:Int),(n:Int),())):=by
    intro z n a b c d e;subst K;refine⟨n,z,?_,a,b,c,d,e⟩;have eu:IntKind.u8.wrap (z:Int)=(z:Int):=IntWalk.u8_in _ (by omega);show aj.KV _ (IntKind.u8.wrap (z:Int)) _=_;rw[eu,ajS (by kernel_rfl) b]
    have hb:I3 z<=8:=by
     rcases dI 8 (I3 z)with h|h
     .have X:=nL (show 0<2 by omega) h;have h6:=bU X (afe a).1;omega
     .exact h
    dsimp only;rw[bF ((I3 z:Nat):Int) (by omega),bF _ (by omega)];rfl
   show F1 x (aj.af (decide ((256:Int)<=(z:Int))) (aj.iV 8 (G (Int.fdiv (z:Int) (2 ^ (min (Int.toNat ((8:Nat):Int)) u64.bits)),i64.wrap ((n:Int)+8),()))) (G ((z:Int),(n:Int),())));by_cases h:256<=z
   .rw[aQ (ap (by omega)),ud,ajU _ _ (by omega),bF _ (by omega)];obtain⟨y,j⟩:=ajT 8 d e;exact R (z / 2 ^ 8) (n+8) (by omega) (by omega) (by omega) y j
   .rw[aB (an (by omega))];exact R z n a (by omega) (by omega) d e
  show F1 x (aj.af (decide ((65536:Int)<=(z:Int))) (aj.iV 16 (F (Int.fdiv (z:Int) (2 ^ (min (Int.toNat ((16:Nat):Int)) u64.bits)),i64.wrap ((n:Int)+16),()))) (F ((z:Int),(n:Int),())));by_cases h:65536<=z
  .rw[aQ (ap (by omega)),ud,ajU _ _ (by omega),bF _ (by omega)];obtain⟨y,j⟩:=ajT 16 d e;exact V (z / 2 ^ 16) (n+16) (by omega) (by omega) (by omega) y j
  .rw[aB (an (by omega))];exact V z n a (by omega) (by omega) d e
 show F1 x (aj.af (decide ((4294967296:Int)<=(x:Int))) (aj.iV 32 (C (Int.fdiv (x:Int) (2 ^ (min (Int.toNat ((32:Nat):Int)) u64.bits)),((32:Nat):Int),()))) (C ((x:Int),((0:Nat):Int),())));by_cases h:4294967296<=x
 .rw[aQ (ap (by omega)),ud,ajU _ _ (by omega)];obtain⟨y,j⟩:=ajT (x:=x) (z:=x) (n:=0) 32 (by simp) (by simp);exact W (x / 2 ^ 32) 32 (by omega) (by omega) (by omega) (by simpa using y) (by simpa using j)
 .rw[aB (an (by omega))];exact W x 0 Y (by omega) (by omega) (by simp) (by simp)
theorem ati{x:Nat}(R:0<x)(J:x<18446744073709551616):∃s:Nat,Ch (x:Int)=some (s:Int)/\s<=63/\9223372036854775808<=x*2 ^ s/\x*2 ^ s<18446744073709551616:=by
 have key:=aoK R J;have⟨n,z,e,H,G,V,F,C⟩:=key;have⟨j,y⟩:=afe H
 have hb:I3 z<=8:=by
  rcases dI 8 (I3 z)with h|h
  .have:=nL (show 0<2 by omega) h;have:=bU this j;omega
  .exact h
 have K:0<I3 z:=by unfold I3;rw[ag (by omega)];omega
 refine⟨64-(n+I3 z),?_,by omega,(arE F C j y (by omega)).1,(arE F C j y (by omega)).2⟩;show iC aj (x:Int)=_;unfold iC;rw[ai e,bF _ (by omega)];congr 1;omega
structure CX(yn1 yn0 u v:Int):Prop where
 a:2147483648<=yn1
 b:yn1<4294967296
 c:0<=yn0
 d:yn0<4294967296
 e:0<=v
 f:v<4294967296
 g:0<=u
 h:u<yn1*4294967296+yn0
def digit(j y u v:Int):Int:=(u*4294967296+v) / (j*4294967296+y)
theorem Xk(q j y:Int):q*(j*4294967296+y)=q*j*4294967296+q*y:=by rw[yf,sD]
theorem CX.le{j y u v}(H:CX j y u v){q:Int}(h:q*y<=(u-q*j)*4294967296+v):q<=digit j y u v:=by have:=H.a;have:=H.c;refine(Int.le_ediv_iff_mul_le (by omega)).2 ?_;rw[Xk];omega
theorem CX.gt{j y u v}(H:CX j y u v){q:Int}(h:(u-q*j)*4294967296+v<q*y):digit j y u v<q:=by have:=H.a;have:=H.c;refine iR (by omega) ?_;rw[Xk];omega
theorem CX.nn{j y u v}(H:CX j y u v):0<=digit j y u v/\digit j y u v<4294967296:=by
 have R:=H.a;have K:=H.c;have J:=H.g;have G:=H.e;have F:=H.f;have C:=H.h;constructor
 .exact fx (by omega) (by omega)
 .refine iR (by omega) ?_;rw[iv];omega
theorem CX.first{j y u v}(H:CX j y u v):digit j y u v<=u / j/\u / j<=4294967297:=by
 have V:=H.a;have C:=H.c;have R:=H.g;have K:=H.e;have J:=H.f;have G:=H.h;have F:=H.d;constructor
 .refine(Int.le_ediv_iff_mul_le (by omega)).2 ?_;have a:=Int.ediv_mul_le (u*4294967296+v) (show j*4294967296+y≠0 by omega);have b:digit j y u v*(j*4294967296+y)<=u*4294967296+v:=a;rw[Xk]at b;have c:=iY H.nn.1 C;omega
 .have:u / j<4294967298:=by refine iR (by omega) ?_;rw[iv];omega
  omega
theorem CX.brk{j y u v}(H:CX j y u v){q:Int}(K:q<=4294967297)(R:digit j y u v<q)(F:4294967296<=u-(q-1)*j):q-1=digit j y u v:=by
 have g1:=H.a;have G:=H.c;have g3:=H.g;have g4:=H.e;have Y:=H.f;have X:=H.h;have W:=H.d;have V:=H.b;have J:=H.nn.1
 have C:q-1<=4294967295:=by
  rcases zm (4294967295<q-1)with hh|hh
  .have e:q-1=4294967296:=by omega
   rw[e]at F;omega
  .omega
 have a1:(q-1)*y<=4294967295*4294967295:=vm C (by omega) G (by omega);have:=H.le (q:=q-1) (by omega);omega
theorem u64_in(z)(j:0<=z:=by omega)(h:z<18446744073709551616:=by omega):u64.wrap z=z:=F2 z ⟨j,h⟩
theorem CX.look{y j u v}(H:CX y j u v){q r:Int}(K:digit y j u v<=q)(C:r=u-q*y)(J:0<=r)(G:r<4294967296):
 (4294967296<=q->digit y j u v<q)/\(q<4294967296->(if u64.wrap (u64.wrap (4294967296*r)+v)<u64.wrap (q*j)then digit y j u v<q else digit y j u v=q)):=by
 have W:=H.e;have V:=H.f;have F:=H.c;have R:=H.d;have n:=H.nn;refine⟨λh=>by omega,λh=>?_⟩;have a0:=iY (show 0<=q by omega) F;have X:q*j<=4294967295*4294967295:=vm (by omega) (by omega) F (by omega);rw[u64_in (4294967296*r),u64_in _,u64_in (q*j) a0];split
 .exact H.gt (by rw[<-C];omega)
 .have:=H.le (q:=q) (by rw[<-C];omega);omega
theorem CX.av1{β}{j y u v q0 K}(H:CX j y u v)(hq:q0=u / j)(X:K=u-q0*j)(k:Int×Unit->Option β):
 aj.aZ (λz C=>aj.aH (λ_=>aj.af (decide (4294967296<=u64.wrap (z.1+j))) (k (u64.wrap (z.2.1-1),())) (C (u64.wrap (z.1+j),u64.wrap (z.2.1-1),()))) λW=>aj.af (decide (4294967296<=z.2.1)) (W ()) (aj.af (decide (u64.wrap (u64.wrap (4294967296*z.1)+v)<u64.wrap (z.2.1*y))) (W ()) (k z.2))) (K,q0,())=k (digit j y u v,()):=by
 have g1:=H.a;have g8:=H.b;have n:=H.nn;have⟨f1,f2⟩:=H.first;have e1:u % j=K:=by rw[X,hq,E4,iv]
 have e2:=i7 u (show j≠0 by omega);have e3:=gn u (show 0<j by omega);refine(fR (λz=>z.2.1.toNat) (λz=>digit j y u v<=z.2.1/\z.2.1<=4294967297/\z.1=u-z.2.1*j/\0<=z.1/\z.1<4294967296) (λ_=>k (digit j y u v,())) ⟨by show _<=q0;omega,by show q0<=_;omega,X,by omega,by omega⟩ (by dsimp only;omega) ?_);rintro⟨r,q,⟨⟩⟩ ⟨h1,h2,V,h4,Y⟩ C ha;dsimp only at h1 h2 V h4 Y;have⟨l1,G⟩:=H.look h1 V h4 Y
 have F:digit j y u v<q->aj.af (decide (4294967296<=u64.wrap (r+j))) (k (u64.wrap (q-1),())) (C (u64.wrap (r+j),u64.wrap (q-1),()))=k (digit j y u v,()):=by
  intro R;have er:u-(q-1)*j=r+j:=by rw[V,Int.sub_mul];omega
  rw[u64_in (r+j),u64_in (q-1)];refine dh (λhb=>?_) λhb=>?_
  .rw[H.brk h2 R (by rw[er];exact hb)]
  .exact ha (r+j,q-1,()) ⟨by show _<=q-1;omega,by show q-1<=_;omega,er.symm,by show 0<=r+j;omega,by show r+j<_;omega⟩ (by show(q-1).toNat<q.toNat;omega)
 show aj.af (decide (4294967296<=q)) _ _=_;by_cases hb:4294967296<=q
 .rw[aQ (ap hb)];exact F (l1 hb)
 .have G:=G (by omega);rw[aB (an hb)];by_cases J:u64.wrap (u64.wrap (4294967296*r)+v)<u64.wrap (q*y)
  .rw[ah J]at G;show aj.af (decide (u64.wrap (u64.wrap (4294967296*r)+v)<u64.wrap (q*y))) _ _=_;rw[aQ (ap J)];exact F G
  .rw[ag J]at G;show aj.af (decide (u64.wrap (u64.wrap (4294967296*r)+v)<u64.wrap (q*y))) _ _=_;rw[aB (an J),G]
theorem CX.av2{β}{j y u v q0 J}(H:CX j y u v)(hq:q0=u / j)(X:J=u-q0*j)(k:Int×Unit->Option β):
 aj.aZ (λz C=>aj.aH (λ_=>aj.af (decide (4294967296<=u64.wrap (z.2.1+j))) (k (u64.wrap (z.1-1),())) (C (u64.wrap (z.1-1),u64.wrap (z.2.1+j),()))) λW=>aj.af (decide (4294967296<=z.1)) (W ()) (aj.af (decide (u64.wrap (u64.wrap (4294967296*z.2.1)+v)<u64.wrap (z.1*y))) (W ()) (k (z.1,())))) (q0,J,())=k (digit j y u v,()):=by
 have g1:=H.a;have g8:=H.b;have n:=H.nn;have⟨f1,f2⟩:=H.first;have e1:u % j=J:=by rw[X,hq,E4,iv]
 have e2:=i7 u (show j≠0 by omega);have e3:=gn u (show 0<j by omega);refine(fR (λz=>z.1.toNat) (λz=>digit j y u v<=z.1/\z.1<=4294967297/\z.2.1=u-z.1*j/\0<=z.2.1/\z.2.1<4294967296) (λ_=>k (digit j y u v,())) ⟨by omega,by omega,X,by show 0<=J;omega,by show J<_;omega⟩ (by omega) ?_);rintro⟨q,r,⟨⟩⟩ ⟨h1,h2,V,h4,Y⟩ C ha;dsimp only at h1 h2 V h4 Y;have⟨l1,G⟩:=H.look h1 V h4 Y
 have F:digit j y u v<q->aj.af (decide (4294967296<=u64.wrap (r+j))) (k (u64.wrap (q-1),())) (C (u64.wrap (q-1),u64.wrap (r+j),()))=k (digit j y u v,()):=by
  intro R;have er:u-(q-1)*j=r+j:=by rw[V,Int.sub_mul];omega
  rw[u64_in (r+j),u64_in (q-1)];refine dh (λhb=>?_) λhb=>?_
  .rw[H.brk h2 R (by rw[er];exact hb)]
  .exact ha (q-1,r+j,()) ⟨by omega,by omega,er.symm,by show 0<=r+j;omega,by show r+j<_;omega⟩ (by show(q-1).toNat<q.toNat;omega)
 show aj.af (decide (4294967296<=q)) _ _=_;by_cases hb:4294967296<=q
 .rw[aQ (ap hb)];exact F (l1 hb)
 .have G:=G (by omega);rw[aB (an hb)];by_cases K:u64.wrap (u64.wrap (4294967296*r)+v)<u64.wrap (q*y)
  .rw[ah K]at G;show aj.af (decide (u64.wrap (u64.wrap (4294967296*r)+v)<u64.wrap (q*y))) _ _=_;rw[aQ (ap K)];exact F G
  .rw[ag K]at G;show aj.af (decide (u64.wrap (u64.wrap (4294967296*r)+v)<u64.wrap (q*y))) _ _=_;rw[aB (an K),G]
theorem atj(a b s:Nat)(hs:s<=64)(hb:b<2 ^ s)(h:a*2 ^ s+b<18446744073709551616):bits .or .u64 ((a*2 ^ s:Nat):Int) (b:Int)=((a*2 ^ s+b:Nat):Int):=by
 show u64.wrap (((BitVec.ofInt 64 ((a*2 ^ s:Nat):Int) ||| BitVec.ofInt 64 ((b:Nat):Int)).toNat:Nat):Int)=_;rw[BitVec.toNat_or,mr,mr];have j:((2 ^ 64:Nat):Int)=18446744073709551616:=by decide
 have C:(((a*2 ^ s:Nat):Int) % ((2 ^ 64:Nat):Int)).toNat=a*2 ^ s:=by rw[j];omega
 have y:(((b:Nat):Int) % ((2 ^ 64:Nat):Int)).toNat=b:=by rw[j];omega
 rw[C,y,jz a,<-Nat.two_pow_add_eq_or_of_lt hb,jz (2 ^ s),bY];omega
theorem ZY{a b c}(y:0<=a+b-c)(j:a+b-c<18446744073709551616):u64.wrap (u64.wrap (u64.wrap a+b)-u64.wrap c)=a+b-c:=by rw[bY,bY,bY,bY];omega
theorem acC{j y u v1 v0}(H:CX j y u v1)(W:0<=v0)(V:v0<4294967296){q1 w q0:Int}(e1:q1=digit j y u v1)(X:w=u*4294967296+v1-q1*(j*4294967296+y))(e0:q0=digit j y w v0):
 (0<=w/\w<j*4294967296+y)/\CX j y w v0/\(0<=w*4294967296+v0-q0*(j*4294967296+y)/\w*4294967296+v0-q0*(j*4294967296+y)<j*4294967296+y)/\u*18446744073709551616+(v1*4294967296+v0)=(q1*4294967296+q0)*(j*4294967296+y)+(w*4294967296+v0-q0*(j*4294967296+y)):=by
 have a:=H.a;have c:=H.c;have p:0<j*4294967296+y:=by omega
 have w1:w=(u*4294967296+v1) % (j*4294967296+y):=by rw[X,e1,digit,E4,iv ((u*4294967296+v1) / _)]
 have F:=i7 (u*4294967296+v1) (show j*4294967296+y≠0 by omega);have C:=gn (u*4294967296+v1) p;rw[<-w1]at F C;have H0:CX j y w v0:=⟨H.a,H.b,H.c,H.d,W,V,F,C⟩;have K:w*4294967296+v0-q0*(j*4294967296+y)=(w*4294967296+v0) % (j*4294967296+y):=by rw[e0,digit,E4,iv ((w*4294967296+v0) / _)]
 have J:=i7 (w*4294967296+v0) (show j*4294967296+y≠0 by omega);have G:=gn (w*4294967296+v0) p;rw[<-K]at J G;refine⟨⟨F,C⟩,H0,⟨J,G⟩,?_⟩;generalize j*4294967296+y=Y at *;have R:(q1*4294967296+q0)*Y=q1*Y*4294967296+q0*Y:=by rw[nM,Int.mul_right_comm]
 rw[R];omega
theorem ajV{hi lo y:Nat}(h0:0<hi)(h1:hi<y)(hy:y<18446744073709551616)(hl:lo<18446744073709551616):
    pK (hi:Int) (lo:Int) (y:Int)=some ((((hi*18446744073709551616+lo) / y:Nat):Int),((((hi*18446744073709551616+lo) % y:Nat):Int),())):=by
  have⟨s,es,hs,b1,b2⟩:=ati (x:=y) (by omega) hy
  show jW aj (hi:Int) (lo:Int) (y:Int)=_
  unfold jW
  have pP:=yF s
  have pP':=yF (64-s)
  have ePP:2 ^ (64-s)*2 ^ s=18446744073709551616:=by rw[<-tG,show 64-s+s=64 by omega]
  have hhi:hi*2 ^ s+2 ^ s<=y*2 ^ s:=by
    have:=du (2 ^ s) (show hi+1<=y from h1)
    rwa [iN,B9]at this
  have hlq:lo / 2 ^ (64-s)<2 ^ s:=by rw[mC pP'];rw[jz,ePP];exact hl
  have hlm:lo*2 ^ s=lo / 2 ^ (64-s)*18446744073709551616+lo*2 ^ s % 18446744073709551616:=by
    have e:lo*2 ^ s / 18446744073709551616=lo / 2 ^ (64-s):=by rw[<-ePP,Nat.mul_div_mul_right _ _ pP]
    have:=yG (lo*2 ^ s) 18446744073709551616
    rw[e]at this;omega
  have eS:u64.wrap (s:Int)=(s:Int):=u64_in _
  have eS':u64.wrap (64-(s:Int))=((64-s:Nat):Int):=by rw[u64_in _];omega
  have eP:∀m:Nat,m<=64->(2:Int) ^ (min (Int.toNat (m:Int)) u64.bits)=((2 ^ m:Nat):Int):=λm hm=>by
    rw[aP,show min m u64.bits=m from gz hm];simp
  have ey:u64.wrap ((y:Int)*((2 ^ s:Nat):Int))=((y*2 ^ s:Nat):Int):=by rw[<-mU,u64_in _]
  have eh:u64.wrap ((hi:Int)*((2 ^ s:Nat):Int))=((hi*2 ^ s:Nat):Int):=by rw[<-mU,u64_in _]
  have el:u64.wrap ((lo:Int)*((2 ^ s:Nat):Int))=((lo*2 ^ s % 18446744073709551616:Nat):Int):=by rw[<-mU,bY];omega
  have ef:Int.fdiv (lo:Int) ((2 ^ (64-s):Nat):Int)=((lo / 2 ^ (64-s):Nat):Int):=by rw[eE _ (by omega)];simp
  rw[aB (by simp;omega),cQ (by omega),aB (by simp;omega),ai es]
  simp (config:={proj:=false}) only[eS,eS',eP s (by omega),eP (64-s) (by omega),ey,eh,el,ef,atj hi _ s (by omega) hlq (by omega)]
  rw[I4 ((y*2 ^ s:Nat):Int) (by omega),I4 ((lo*2 ^ s % 18446744073709551616:Nat):Int) (by omega),ZZ ((y*2 ^ s:Nat):Int) (by omega),ZZ ((lo*2 ^ s % 18446744073709551616:Nat):Int) (by omega)]
  have hN:((hi*18446744073709551616+lo)*2 ^ s:Nat)=(hi*2 ^ s+lo / 2 ^ (64-s))*18446744073709551616+lo*2 ^ s % 18446744073709551616:=by
    rw[iN,Nat.mul_right_comm,hlm,iN];omega
  obtain⟨N,hNe⟩:∃N,N=hi*18446744073709551616+lo:=⟨_,rfl⟩
  rw[<-hNe]at hN ⊢
  have hu:hi*2 ^ s+lo / 2 ^ (64-s)<y*2 ^ s:=by omega
  have hl2:lo*2 ^ s % 18446744073709551616<18446744073709551616:=Bh _ (by omega)
  generalize hi*2 ^ s+lo / 2 ^ (64-s)=u at*
  generalize lo*2 ^ s % 18446744073709551616=l at*
  have fin:∀qt r:Int,((u:Nat):Int)*18446744073709551616+(l:Int)=qt*((y*2 ^ s:Nat):Int)+r->0<=r->r<((y*2 ^ s:Nat):Int)->0<=qt->qt=((N / y:Nat):Int)/\Int.fdiv r ((2 ^ s:Nat):Int)=((N % y:Nat):Int):=by
    intro qt r e J r1 q0
    obtain⟨F,rfl⟩:=cm q0
    obtain⟨H,rfl⟩:=cm J
    have e2:N*2 ^ s=F*(y*2 ^ s)+H:=by
      rw[hN];rw[<-mU]at e;omega
    have r2:H<y*2 ^ s:=by omega
    have d1:N*2 ^ s / (y*2 ^ s)=N / y:=Nat.mul_div_mul_right _ _ pP
    have d2:N*2 ^ s % (y*2 ^ s)=N % y*2 ^ s:=Nat.mul_mod_mul_right _ _ _
    have d3:(F*(y*2 ^ s)+H) / (y*2 ^ s)=F:=by
      rw[jz F,Nat.mul_add_div (by omega),Nat.div_eq_of_lt r2];rfl
    have d4:(F*(y*2 ^ s)+H) % (y*2 ^ s)=H:=by
      rw[jz F,Nat.mul_add_mod,ka r2]
    rw[e2,d3]at d1
    rw[e2,d4]at d2
    refine⟨by rw[d1],?_⟩
    rw[d2,eE _ (by omega),<-Int.natCast_ediv,Nat.mul_div_cancel _ pP]
  generalize hY:((y*2 ^ s:Nat):Int)=Y at*
  have Y1:9223372036854775808<=Y:=by omega
  have Y2:Y<18446744073709551616:=by omega
  have V:((u:Nat):Int)<Y:=by omega
  have R:(0:Int)<=((u:Nat):Int):=by omega
  have hl0:(0:Int)<=((l:Nat):Int):=by omega
  have hl3:((l:Nat):Int)<18446744073709551616:=by omega
  generalize ((u:Nat):Int)=G at*
  generalize ((l:Nat):Int)=K at*
  have X:Y / 4294967296*4294967296+Y % 4294967296=Y:=by omega
  have H1:CX (Y / 4294967296) (Y % 4294967296) G (K / 4294967296):=⟨by omega,by omega,by omega,by omega,by omega,by omega,by omega,by omega⟩
  have j:∀w:Int,0<=w->w<Y->u64.wrap (Int.tdiv w (Y / 4294967296))=w / (Y / 4294967296)/\u64.wrap (w-u64.wrap (u64.wrap (Int.tdiv w (Y / 4294967296))*(Y / 4294967296)))=w-u64.wrap (Int.tdiv w (Y / 4294967296))*(Y / 4294967296):=by
    intro w C w1
    have g1:=fx C (show 0<=Y / 4294967296 by omega)
    have g2:w / (Y / 4294967296)<=w:=wX _ C
    have e:u64.wrap (Int.tdiv w (Y / 4294967296))=w / (Y / 4294967296):=by rw[jA C,u64_in _ g1]
    refine⟨e,?_⟩
    rw[e]
    have g3:=Int.ediv_mul_le w (show Y / 4294967296≠0 by omega)
    have g4:=iY g1 (show 0<=Y / 4294967296 by omega)
    rw[u64_in (w / (Y / 4294967296)*(Y / 4294967296)) g4,u64_in _]
  rw[ud,ud,ud,ud,ud,ud,Xl]
  refine bB λk9 hk9=>?_
  refine(H1.av2 (j G R V).1 (j G R V).2 k9).trans ?_
  subst hk9
  have pf:∀(a:Int) (b:Unit),((a,b):Int×Unit).1=a:=λ_ _=>rfl
  simp (config:={proj:=false}) only[pf]
  generalize W:digit (Y / 4294967296) (Y % 4294967296) G (K / 4294967296)=q1
  have n1:=H1.nn
  rw[W]at n1
  have⟨⟨C,w1⟩,H0,⟨J,r1⟩,tot⟩:=acC H1 (v0:=K % 4294967296) (by omega) (by omega) W.symm rfl rfl
  rw[X]at C w1 J r1 tot
  have e21:=ZY C (by omega)
  rw[X]at H0
  simp (config:={proj:=false}) only[e21]
  generalize G*4294967296+K / 4294967296-q1*Y=w at*
  rw[Xl]
  refine bB λk4 hk4=>?_
  refine(H0.av1 (j w C w1).1 (j w C w1).2 k4).trans ?_
  subst hk4
  simp (config:={proj:=false}) only[pf]
  generalize hq0:digit (Y / 4294967296) (Y % 4294967296) w (K % 4294967296)=q0 at*
  have n0:=H0.nn
  rw[hq0]at n0
  rw[ud,u64_in (q1*4294967296),u64_in (q1*4294967296+q0),ZY J (by omega)]
  have⟨f1,f2⟩:=fin (q1*4294967296+q0) _ (by rw[<-tot];omega) J r1 (by omega)
  rw[f1,f2]
theorem ajW{m d}(hm:0<=m)(G:0<d)(C:d<18446744073709551616)(R:m / d<18446744073709551616):
 pK (m / 18446744073709551616) (m % 18446744073709551616) d=some (m / d,m % d,()):=by
 obtain⟨j,rfl⟩:=cm hm;obtain⟨F,rfl⟩:=cm (show 0<=d by omega);have V:j<F*18446744073709551616:=by have:=(mC (x:=j) (y:=18446744073709551616) (show 0<F by omega)).1 (by omega);omega
 by_cases H:(j:Int) / 18446744073709551616=0
 .rw[H,show(j:Int) % 18446744073709551616=(j:Int)by omega];exact afg (by omega) (by omega) G C
 .have:=ajV (hi:=j / 18446744073709551616) (lo:=j % 18446744073709551616) (y:=F) (by omega) (by omega) (by omega) (by omega);rw[show j / 18446744073709551616*18446744073709551616+j % 18446744073709551616=j by omega]at this;have K:((j:Nat):Int) / 18446744073709551616=((j / 18446744073709551616:Nat):Int):=by omega
  have J:((j:Nat):Int) % 18446744073709551616=((j % 18446744073709551616:Nat):Int):=by omega
  rw[K,J,this,Int.natCast_ediv,Int.natCast_emod]
theorem Xm{m d}(hm:0<=m)(K:eB m)(H:0<d)(V:cy d)(hq:m / d<9223372036854775808):Z0 (wide m) d=some (wide (m / d),m % d,0,()):=by
 show q9 aj (wide m) d=_;unfold q9;unfold cy at V;have h1:=i7 m (vn H);have h2:=gn m H;have F:=fx hm (gR H);have e0:u64.wrap d=d:=F2 _ (by omega);have X:zM (wide m)=some (Ci m):=by have:=I5 (wide m) (mX m K);rw[sG]at this;rw[this];unfold jb;rw[ag (by omega)]
 have J:m / 18446744073709551616<d:=by
  have h3:m<18446744073709551616*d:=by have:=Int.lt_mul_of_ediv_lt H hq;omega
  exact iR (by omega) (by rw[iv];exact h3)
 have j:0<=m / 18446744073709551616:=fx hm (by omega)
 have y:pM (wide m)=some false:=by
  rw[xd];have:¬(wide m).1<0:=by unfold wide;dsimp only;omega
  rw[an this]
 have G:jg (0,m / d,()) false=some (wide (m / d),true,()):=by
  have hr:=F3 (m / d) false ⟨F,by omega⟩;have hi:eB (m / d):=by unfold eB;omega
  have es:Ci (m / d)=(0,m / d,()):=by unfold Ci;rw[jB F (by omega),nN F (by omega)]
  rw[es]at hr;rw[hr];show some (Z1 (m / d),decide (eB (m / d)),())=_;rw[KY _ hi,ap hi]
 rw[aB (by simp;omega),cQ (by omega),e0,ai X,Xl (by omega),Xl (by omega)];show aj.ae (pK (Int.tmod (m / 18446744073709551616) d) (m % 18446744073709551616) d) _=_;rw[mv j,nN j J,ai (ajW hm H (by omega) (by omega))];have W:u64.wrap (Int.tdiv (m / 18446744073709551616) d)=0:=by rw[jA j,jB j J];rfl
 refine bB λk hk=>?_
 have kk:k (m % d,u64.wrap (Int.tdiv (m / 18446744073709551616) d),m / d,())=some (wide (m / d),m % d,0,()):=by
  subst hk;rw[W];have Y:i64.wrap (m % d)=m % d:=bF _ (by omega);have C:aj.ae (pM (wide m)) (λv7=>aj.ae (jg (0,m / d,()) v7) λv8=>some (v8.1,i64.wrap (m % d),(0:Int),()))=some (wide (m / d),m % d,0,()):=by rw[ai y,ai G,Y]
  refine jN ?_ C;rw[ai y];exact jN (by rw[ai G,Y]) (by rw[ai G,Y])
 refine bB λk2 R=>?_
 have kf:k2 (false,())=some (wide (m / d),m % d,0,()):=by subst R;refine zp (by rfl) ?_;exact kk
 refine vC y ?_;rw[aB (by rfl),kf]
theorem aoL{t w s}(G:0<=t)(F:0<=w)(K:t<=s)(j:w<=s)(hs:0<s)(H:cy s):Hp t w s=some (t*w / s,t*w % s,0,()):=by
 show qG aj t w s=_;unfold qG;have y:=H;unfold cy at y;have J:=iY G F;have a2:t*w<=9223372036854775807*9223372036854775807:=vm (by omega) (by omega) F (by omega);have Y:t*w / s<=t:=by have:t*w / s<t+1:=iR hs (by have:=gd j G;rw[nM];omega);omega
 have R:=fx J (gR hs);have X:=Ee (a:=t) (b:=w) (by unfold cy;omega) (by unfold cy;omega);have W:=Xm (m:=t*w) (d:=s) J (by unfold eB;omega) hs H (by omega);rw[ai X,ai W];have C:cy (t*w / s):=by unfold cy;omega
 have V:I6 (wide (t*w / s)) 0=some (t*w / s,0,()):=by rw[CY (ue C),jr C]
 rw[ai V,aB (by rfl)]
theorem ar4{T}{l}(G:0<=T)(h:∀w∈l,0<=w)(hl:l.length<=1000000):∃v,Wt T l=some v/\0<=v:=by
 refine nW (λo=>∃v,o=some v/\(0:Int)<=v) (λz=>l.length+1-z.2.1.toNat) (λz=>∃(j:Nat) (a:Int),j<=l.length/\0<=a/\z=(a,(j:Int),())) ⟨0,T,bE _,G,rfl⟩ (by dsimp only;omega) ?_;rintro _ ⟨j,a,H,y,rfl⟩ C F;by_cases hh:j<l.length
 .rw[dk hh];show ∃v,aj.aI l (j:Int) _=some v/\0<=v;rw[bN hh];dsimp only;rw[cJ j];refine F _ ⟨j+1,_,by omega,?_,rfl⟩ (by dsimp only;omega);have:=h _ (aF hh);split<;>omega
 .have:j=l.length:=by omega
  subst this;rw[dT];exact⟨a,rfl,y⟩
theorem ahc{T}{l}(j:0<=T)(h:∀w∈l,0<=w)(hl:l.length<=1000000):abS T l=some true:=by have⟨v,e,hv⟩:=ar4 j h hl;show ru aj T l=_;unfold ru;rw[ai e,ap hv]
theorem T5{Q:List Dj}{k:Nat}(h:k<Q.length):(partsOf (Q.take (k+1)))=partsOf (Q.take k)++[(Q[k]).2.1]:=by unfold partsOf;rw[aw h,cC];rfl
theorem T6{Q}(h:∀q∈Q,0<=q.2.1)(k):0<=(partsOf (Q.take k)).sum/\(partsOf (Q.take k)).sum<=(partsOf Q).sum:=by
 have e:(partsOf Q).sum=(partsOf (Q.take k)).sum+(partsOf (Q.drop k)).sum:=by rw[<-mV];unfold partsOf;rw[<-cC,jU]
 have nn:∀L:List Dj,(∀q∈L,0<=q.2.1)->0<=(partsOf L).sum:=λL hL=>by refine(GV (l:=partsOf L) λw y=>?_).1;obtain⟨q,j,rfl⟩:=aN.1 y;exact hL q j
 have F:=nn (Q.take k) λq j=>h q (dw j)
 have C:=nn (Q.drop k) λq j=>h q (kz j)
 omega
theorem ao4{T:Int}{l:List Int}(h:OkW T l)(X:T≠0):YY T l.sum l=some (jK T l.sum l 0,(partsOf (jK T l.sum l 0)).sum,()):=by
 have K:=h.quo X;have hl:=h.len;have F:=h.s64;have t0:=h.t0;have ts:=h.ts;have hS:0<l.sum:=by omega
 show sB aj T l.sum l=_;unfold sB;rw[ud,c9 (by simp;omega) (by simp;omega)];have H:∀(i:Nat) (hi:i<l.length),Hp T l[i] l.sum=some (T*l[i] / l.sum,T*l[i] % l.sum,0,()):=λi hi=>aoL t0 (h.nn _ (aF hi)) ts ((GV h.nn).2 _ (aF hi)) hS F
 have V:∀(i:Nat) (hi:i<l.length),∃y:i<(jK T l.sum l 0).length,(jK T l.sum l 0)[i]=((i:Int),T*l[i] / l.sum,T*l[i] % l.sum,()):=λi hi=>⟨by rw[H'];exact hi,by have:=YV T l.sum l 0 i hi;rwa [rF]at this⟩
 generalize hQ:jK T l.sum l 0=Q at *;have hm:=T6 (Q:=Q) λq R=>(K.q q R).2.2.1
 have C:=K.len;have J:=K.re;unfold cy at F;refine ug (N:=l.length) (by omega) (λi=>((partsOf (Q.take i)).sum,(i:Int),Q.take i,())) _ (by simp[partsOf]) ?_ ?_
 .intro j;refine FQ ?_;rw[<-C,bq]
 .intro i hi j W;have⟨y,G⟩:=V i hi;refine Ii hi ?_;rw[bN hi];refine vC (H i hi) ?_;show aj.bg ((Q.take i).length+1) 24 (j (i64.wrap ((partsOf (Q.take i)).sum+T*l[i] / l.sum),i64.wrap ((i:Int)+1),Q.take i++[((i:Int),T*l[i] / l.sum,T*l[i] % l.sum,())],()))=_;have e1:Q.take i++[((i:Int),T*l[i] / l.sum,T*l[i] % l.sum,())]=Q.take (i+1):=by rw[aw y,G]
  have Y:(partsOf (Q.take i)).sum+T*l[i] / l.sum=(partsOf (Q.take (i+1))).sum:=by rw[T5 y,mV,G];simp
  have b:=hm (i+1);rw[c9 (by rw[aY];omega) (by rw[aY];omega),e1,Y,cJ i,bF _ (by omega)];exact W
theorem WW(q):∀(qs:List Dj) (o:List Int),bump (qs++[q]) o=(bump qs o).set q.1.toNat ((bump qs o).getD q.1.toNat 0+1)
 |[],o=>rfl
 |x::qs,o=>by rw[jk,bump,WW q qs];rfl
theorem WX{j}:∀(qs:List Dj) (o:List Int),(∀q∈qs,q.1.toNat≠j)->(bump qs o).getD j 0=o.getD j 0
 |[],_,_=>rfl
 |q::qs,o,h=>by rw[bump,WX qs _ λx y=>h x (cH _ y),getD_set_ne (h q ec)]
theorem YZ{Q}(h:Q.Pairwise λa b=>a.1<b.1)(hl:Q.length<4611686018427387904):tc Q=some (sV Q):=by unfold tc;have j:Nat.blt Q.length 4611686018427387904=true:=gJ hl;rw[j,(R8 Q).2 h];rfl
theorem ao5{o:List Int}{k:Nat}(h:k<o.length):o.getD k 0=o[k]:=by rw[eF,ay h];rfl
theorem ar5{S:List Dj}(h:S.Pairwise λa b=>a.1≠b.1){k:Nat}(y:k<S.length):∀q∈S.take k,q.1≠(S[k]).1:=by intro q j;obtain⟨i,hi,rfl⟩:=jG j;rw[aY]at hi;rw[jC];exact bP.1 h i k (by omega) y (by omega)
theorem ar6{T:Int}{l:List Int}(h:OkW T l):abT T l=some (GU T l,0,()):=by
 have hl:=h.len;have h64:=h.s64;have t0:=h.t0;have ts:=h.ts;show u9 aj T l=_;unfold u9;rw[ai (ahc t0 h.nn (by omega)),aB (by rfl),ai (sR h.w64 (by omega)),jr h64];rw[ud,c9 (by simp;omega) (by simp;omega),Fb (by omega) (by simp),aB (by rfl),aP];unfold GU;by_cases hT:T=0
 .rw[aQ (by simp[hT]),ah hT]
 .rw[aB (by simp[hT]),ag hT];have hS:0<l.sum:=by omega
  refine zp (by simp;omega) ?_;rw[ai (ao4 h hT)];have K:=h.quo hT;have hat:=ao3 T l.sum l;have R:=YX T l.sum l 0;have ay7:=ahb R;have F:=tf (jK T l.sum l 0);have J:∀q,q∈sV (jK T l.sum l 0)->q∈jK T l.sum l 0:=λq Y=>F.mem_iff.1 Y
  generalize jK T l.sum l 0=Q at *;generalize WV T l=r at *;have y:=K.len;have hre:=K.re;have hm:=T6 (Q:=Q) λq Y=>(K.q q Y).2.2.1
  have hm0:=hm Q.length;rw[bq]at hm0;unfold cy at h64;refine ug (N:=l.length) (by omega) (λi=>((i:Int),partsOf (Q.take i)++List.replicate (l.length-i) 0,Q,())) _ (by simp[partsOf]) ?_ ?_
  .intro j;show aj.af (decide ((l.length:Int)<(Q.length:Int))) _ (aj.ae (tc Q) λv11=>aj.gW (i64.wrap (T-(partsOf Q).sum)) v11.length _)=_;rw[y,dT,ai (YZ R (by omega)),bF _ (by omega),<-hre];have V:(sV Q).length=l.length:=by rw[F.length_eq,y]
   rw[Fb (by omega) (by rw[V];have:=K.rl;omega),aP];have hLl:((sV Q).take r).length=r:=by rw[aY,V];have:=K.rl;omega
   have hO:partsOf (Q.take l.length)++List.replicate (l.length-l.length) 0=partsOf Q:=by rw[<-y,bq];simp
   refine ug (N:=r) (by have:=K.rl;omega) (λk=>((k:Int),bump ((sV Q).take k) (partsOf Q),())) _ (by simp only[hO];rfl) ?_ ?_
   .intro j;show aj.af (decide ((r:Int)<(((sV Q).take r).length:Int))) _ (some (bump ((sV Q).take r) (partsOf Q),0,()))=_;rw[hLl,dT]
   .intro k hk j ha;have X:k<((sV Q).take r).length:=by omega
    have W:k<(sV Q).length:=by rw[V];have:=K.rl;omega
    have eg:((sV Q).take r)[k]=(sV Q)[k]:=jC;have hqQ:=J _ (aF W);have kq:=K.q _ hqQ;have atp:=K.pos ((sV Q)[k]) (by rw[<-eg];exact aF X);have hpa:=abR (n:=0) hat hqQ;have hne:∀q∈(sV Q).take k,q.1.toNat≠((sV Q)[k]).1.toNat:=λq Y=>by have h1:=ar5 ay7 W q Y;have h2:=(K.q q (J q (dw Y))).1;omega
    have H:=WX ((sV Q).take k) (partsOf Q) hne;have hsn:=WW ((sV Q)[k]) ((sV Q).take k) (partsOf Q);rw[<-aw W,H,hpa.1]at hsn;have Qm:(bump ((sV Q).take k) (partsOf Q)).length=l.length:=by rw[T4];unfold partsOf;rw[bp,y]
    rw[hpa.1]at H;refine Ii X ?_;rw[bN X,eg];generalize (sV Q)[k]=q at *;have eq1:q.1=((q.1.toNat:Nat):Int):=by omega
    have C:q.1.toNat<(bump ((sV Q).take k) (partsOf Q)).length:=by omega
    rw[ao5 C]at H;generalize bump ((sV Q).take k) (partsOf Q)=o at *;show aj.aI o q.1 (λx16=>aj.ct o (Int.toNat q.1) λx17=>aj.aI o q.1 λx18=>aj.ct o (Int.toNat q.1) λx19=>j (i64.wrap ((k:Int)+1),List.set o (Int.toNat q.1) (i64.wrap (x17+1)),()))=_;rw[eq1,bN C,iI C,bN C,iI C,aP,H,bF (q.2.1+1) (by have:=kq.2.2.2.2.2.2 atp;omega),cJ k (by have:=K.rl;omega),<-hsn];exact ha
  .intro i hi j ha;have G:i<Q.length:=by omega
   refine Ii G ?_;rw[bN G,iI G];have eat:=hat i G;have hpl:(partsOf (Q.take i)).length=i:=by unfold partsOf;rw[bp,aY];omega
   have eo:(partsOf (Q.take i)++List.replicate (l.length-i) 0).set i (Q[i]).2.1=partsOf (Q.take (i+1))++List.replicate (l.length-(i+1)) 0:=by rw[List.set_append,ag (by omega),hpl,zn,show l.length-i=(l.length-(i+1))+1 by omega,oC,List.set_cons_zero,T5 G,bn];rfl
   have hol:i<(partsOf (Q.take i)++List.replicate (l.length-i) 0).length:=by rw[aq,vY];omega
   generalize Q[i]=q at *;generalize partsOf (Q.take i)++List.replicate (l.length-i) 0=o at *;show aj.aI o q.1 (λx9=>aj.ct o (Int.toNat q.1) λx10=>j (i64.wrap ((i:Int)+1),List.set o (Int.toNat q.1) q.2.1,Q,()))=_;rw[eat,bN hol,iI hol,aP,cJ i,eo];exact ha
theorem aox{T}{l}(h:OkW T l):ae3 T l=some (GU T l,0,()):=by have hl:=h.len;have ts:=h.ts;show tC aj T l=_;unfold tC;rw[ai (ahc h.t0 h.nn (by omega)),aB (by rfl),ai (sR h.w64 (by omega)),jr h.s64,aB (by rfl),cQ (by omega)];exact vC (ar6 h) rfl
abbrev NE:=Int×Int×Unit
def ia(f:ar->NE):List ar->List Int->List Int×NE
 |[],acc=>(acc,cP acc.sum)
 |u::l,acc=>if(f u).2.1=0 then ia f l (acc++[(f u).1])else([],0,(f u).2)
def mG(as:List gK)(p:List aU)(h:List bj)(u:ar):NE:=((if hJ p u<0 then 0 else(By as p h u).1),(By as p h u).2.1,())
theorem YP{f}:∀{l:List ar} {acc:List Int},(ia f l acc).2.2.1=0->(ia f l acc).1=acc++l.map (λu=>(f u).1)/\(ia f l acc).2.1=(acc++l.map λu=>(f u).1).sum/\cy (acc++l.map λu=>(f u).1).sum/\∀u∈l,(f u).2.1=0
 |[],acc,h=>by
  have e:ia f [] acc=(acc,cP acc.sum):=rfl;rw[e]at h ⊢;unfold cP at h ⊢;by_cases y:cy acc.sum
  .rw[ah y];simp[y]
  .rw[ag y]at h;simp at h
 |u::l,acc,h=>by
  rw[ia]at h ⊢;by_cases j:(f u).2.1=0
  .rw[ah j]at h ⊢;have⟨G,F,C,H⟩:=YP h;rw[bn]at G F C;refine⟨G,F,C,λv hv=>?_⟩;rcases aG.1 hv with rfl|hv
   .exact j
   .exact H v hv
  .rw[ag j]at h;exact absurd h j
theorem avu{s}{p}{h}{u}(F:∀a∈iz s,pn a)(j:(iz s).length<=1000)(hh:kL h)(C:tT p)(hl:p.length<=1000000):
 ajg (fX s p h) u=some (mG (iz s) p h u):=by
 show AR aj (fX s p h) u=_;unfold AR;have G:=aka (s:=fX s p h) (u:=u) F j hh C hl;rw[ai G,ub];show aj.ae (oG p u) _=_;rw[ai (IF hl)];unfold mG;refine dh (λy=>?_) λy=>?_
 .rw[ah y];rfl
 .rw[ag y];rfl
theorem ar2{s}{p}{h}{l}(K:tT p)(hl:p.length<=1000000)(R:l.length<=1000):
 Ix (fX s p h) l=some (ia (gu p) l [],()):=by
 show nz aj (fX s p h) l=_;refine gB (l:=l) (by omega) (s0:=(([]:List Int),())) (λi z=>z.1.length=i/\∀x∈z.1,cy x) (λl' z=>some (ia (gu p) l' z.1,())) ⟨rfl,by simp⟩ ?_ ?_
 .rintro⟨acc,⟨⟩⟩ j ⟨G,C⟩;dsimp only at G C;refine FQ ?_;rw[ai (sR C (by omega))];rfl
 .rintro i hi ⟨acc,⟨⟩⟩ ⟨G,C⟩ j H;dsimp only at G C;refine Ii hi ?_;rw[bN hi,ia];refine vC (Xp (s:=fX s p h) (u:=l[i]) K hl) ?_;have J:=(K' K l[i]).1;show aj.af ((gu p l[i]).2.1 != 0) (some (([],0,(gu p l[i]).2),())) (aj.bg (acc.length+1) 8 (j (i64.wrap ((i:Int)+1),acc++[(gu p l[i]).1],())))=_;generalize gu p l[i]=r at *;by_cases F:r.2.1=0
  .rw[aB (by simp[F]),ah F,c9,cJ i];refine H (acc++[r.1],()) ⟨by simp[G],λx y=>?_⟩;rcases aX.1 y with y|y
   .exact C x y
   .simp only[ax]at y;subst y;exact J
  .rw[fz F,ag F]
theorem agY(as)(p)(h)(u):cy (mG as p h u).1/\0<=(mG as p h u).1:=by
 unfold mG;split
 .exact⟨by unfold cy;omega,ky _⟩
 .exact afn as p h u
theorem ar3{s}{p}{h}{l}(V:∀a∈iz s,pn a)(H:(iz s).length<=1000)(hh:kL h)(R:tT p)(hl:p.length<=1000000)(W:l.length<=1000):
 Iy (fX s p h) l=some (ia (mG (iz s) p h) l [],()):=by
 show nC aj (fX s p h) l=_;refine gB (l:=l) (by omega) (s0:=(([]:List Int),())) (λi z=>z.1.length=i/\∀x∈z.1,cy x) (λl' z=>some (ia (mG (iz s) p h) l' z.1,())) ⟨rfl,by simp⟩ ?_ ?_
 .rintro⟨acc,⟨⟩⟩ j ⟨G,C⟩;dsimp only at G C;refine FQ ?_;rw[ai (sR C (by omega))];rfl
 .rintro i hi ⟨acc,⟨⟩⟩ ⟨G,C⟩ j J;dsimp only at G C;refine Ii hi ?_;rw[bN hi,ia];refine vC (avu V H hh R hl) ?_;have K:=(agY (iz s) p h l[i]).1;show aj.af ((mG (iz s) p h l[i]).2.1 != 0) (some (([],0,(mG (iz s) p h l[i]).2),())) (aj.bg (acc.length+1) 8 (j (i64.wrap ((i:Int)+1),acc++[(mG (iz s) p h l[i]).1],())))=_;generalize mG (iz s) p h l[i]=r at *;by_cases F:r.2.1=0
  .rw[aB (by simp[F]),ah F,c9,cJ i];refine J (acc++[r.1],()) ⟨by simp[G],λx y=>?_⟩;rcases aX.1 y with y|y
   .exact C x y
   .simp only[ax]at y;subst y;exact K
  .rw[fz F,ag F]
def abK(as:List gK)(p:List aU)(h:List bj)(l:List ar):Int:=min (ia (gu p) l []).2.1 (ia (mG as p h) l []).2.1
def Pp(as:List gK)(p:List aU)(h:List bj)(l:List ar):List Int:=GU (abK as p h l) (ia (mG as p h) l []).1
def Pq(as:List gK)(p:List aU)(h:List bj)(l:List ar):List Int:=GU (abK as p h l) (ia (gu p) l []).1
def uu(as:List gK)(l:List ar)(p:List aU)(h:List bj):Ng:=if(ia (gu p) l []).2.2.1=0 then if(ia (mG as p h) l []).2.2.1=0 then om ((sf (l.zip (Pp as p h l)) (l.zip (Pq as p h l))).map (JS as)) p h []else([],[],[],(ia (mG as p h) l []).2.2.1)else([],[],[],(ia (gu p) l []).2.2.1)
theorem aov{as}{p}{h}{l}(K:tT p)(F:l.length<=1000)(V:(ia (gu p) l []).2.2.1=0)(R:(ia (mG as p h) l []).2.2.1=0):
 OkW (abK as p h l) (ia (mG as p h) l []).1/\OkW (abK as p h l) (ia (gu p) l []).1/\(ia (mG as p h) l []).1.length=l.length/\(ia (gu p) l []).1.length=l.length:=by
 have⟨J,a2,a3,_⟩:=YP V;have⟨b1,H,G,_⟩:=YP R;rw[da]at J a2 a3 b1 H G;have C:∀w∈l.map (λu=>(gu p u).1),0<=w:=λw j=>by obtain⟨u,_,rfl⟩:=aN.1 j;exact(K' K u).2
 have y:∀w∈l.map (λu=>(mG as p h u).1),0<=w:=λw j=>by obtain⟨u,_,rfl⟩:=aN.1 j;exact(agY as p h u).2
 have X:=(GV C).1;have W:=(GV y).1;unfold abK;rw[J,a2,b1,H];exact⟨⟨by omega,by omega,y,G,by rw[bp];exact F⟩,⟨by omega,by omega,C,a3,by rw[bp];exact F⟩,bp ..,bp ..⟩
theorem WU(as)(l)(hn:l.length<=20):Fx (λp h=>uu as l p h) 40:=by
 intro p h d n S hb j;dsimp only at j ⊢;unfold uu at j ⊢;by_cases F:(ia (gu p) l []).2.2.1=0
 .rw[ah F]at j ⊢;by_cases C:(ia (mG as p h) l []).2.2.1=0
  .rw[ah C]at j ⊢;have G:((sf (l.zip (Pp as p h l)) (l.zip (Pq as p h l))).map (JS as)).length<=40:=by rw[bp];refine bU (YN _ _ _ (au _)) ?_;rw[sP,sP];omega
   have H:∀a∈(sf (l.zip (Pp as p h l)) (l.zip (Pq as p h l))).map (JS as),Fx a 1:=λa J=>by obtain⟨x,_,rfl⟩:=aN.1 J;exact YO as x.1 x.2.1 x.2.2
   generalize (sf (l.zip (Pp as p h l)) (l.zip (Pq as p h l))).map (JS as)=L at *;have W:StR p h (d++[]) n:=by rw[cz];exact S
   have⟨V,K⟩:=Po L p h [] d;have y:(om L p h (d++[])).2.2.2=0:=by rw[V];exact j
   have R:=agX L H p h (d++[]) n W (by omega) y;rw[K j]at R;have r1:(om L p h []).1.length<=94+40*(n+1*L.length):=R.pl;have Y:(om L p h []).2.1.length<=94+32*(n+1*L.length):=R.hl;have X:(d++(om L p h []).2.2.1).length<=n+1*L.length:=R.dl;exact⟨R.f,by omega,R.hh,by omega,by omega⟩
  .rw[ag C]at j;exact absurd j C
 .rw[ag F]at j;exact absurd j F
set_option maxHeartbeats 1000000
def stT{T:Type}(s:aV)(p:List aU)(h:List bj)(t:T):Int×List aW×List bH×List bh×List az×List bA×List bR×List cj×List bC×List bC×List aU×List bj×T:=(s.1,s.2.1,s.2.2.1,s.2.2.2.1,s.2.2.2.2.1,s.2.2.2.2.2.1,s.2.2.2.2.2.2.1,s.2.2.2.2.2.2.2.1,s.2.2.2.2.2.2.2.2.1,s.2.2.2.2.2.2.2.2.2.1,p,h,t)
theorem TY{l:List ar}{t:List Int}:∀{k:Nat} (y:k<l.length) (j:t.length=l.length),(l.zip t).drop k=(l[k],t[k]'(by omega))::(l.zip t).drop (k+1):=by
 intro k y j;have C:k<(l.zip t).length:=by rw[sP];omega
 rw[cn C,List.getElem_zip]
theorem QX:∀(l:List ar) (t:List Int) (k:Nat) (v:Int),(l.zip (t.set k v)).drop (k+1)=(l.zip t).drop (k+1)
 |[],t,k,v=>by simp
 |u::l,[],k,v=>by simp
 |u::l,x::t,0,v=>by simp
 |u::l,x::t,k+1,v=>by rw[Bi,Bk,Bk,rZ,rZ];exact QX l t k v
theorem abL{l:List ar}{t:List Int}{k:Nat}(y:k<l.length)(j:t.length=l.length)(v:Int):(l.zip (t.set k v)).drop k=(l[k],v)::(l.zip t).drop (k+1):=by rw[TY (t:=t.set k v) y (by simpa using j),QX];simp
def ajh(l:List Int):Prop:=∀x∈l,0<=x/\cy x
theorem QY{l}(h:ajh l){k}{v:Int}(C:0<=v)(y:cy v):ajh (l.set k v):=λx j=>by
 rcases rO j with j|rfl
 .exact h x j
 .exact⟨C,y⟩
theorem aow{s:aV}{p:List aU}{h:List bj}{l:List ar}{m0:Nat}(ha:∀a∈iz s,pn a)(hl1:(iz s).length<=1000)(hn:l.length<=20)(S:StR p h [] m0)(hm0:m0+40<=10000):
 abM (fX s p h) l=some (rb s (uu (iz s) l p h)):=by
 have hpl:=S.pl;have hhl:=S.hl;show u7 aj (fX s p h) l=_;unfold u7;rw[ai (ar2 S.f (by omega) (by omega)),ai (ar3 ha hl1 S.hh S.f (by omega) (by omega))];refine bB λk59 ax1=>?_
 unfold uu;have err:∀e:Int,e≠0->rb s ([],[],[],e)=(zS,[],e,()):=λe W=>by unfold rb;rw[ag W]
 have V:∀e,e=(if(ia (gu p) l []).2.2.1=0 then(ia (mG (iz s) p h) l []).2.2.1 else(ia (gu p) l []).2.2.1)->k59 (true,(ia (gu p) l []).1,(ia (mG (iz s) p h) l []).1,())=some (zS,[],e,()):=by rintro _ rfl;subst ax1;refine Um (by rfl) ?_;rw[ai (arG _ _)];rfl
 show aj.af ((ia (gu p) l []).2.2.1 != 0) (k59 (true,(ia (gu p) l []).1,(ia (mG (iz s) p h) l []).1,())) (k59 ((ia (mG (iz s) p h) l []).2.2.1 != 0,(ia (gu p) l []).1,(ia (mG (iz s) p h) l []).1,()))=_;by_cases e1:(ia (gu p) l []).2.2.1=0
 .rw[aB (by simp[e1]),ah e1];by_cases e2:(ia (mG (iz s) p h) l []).2.2.1=0
  .rw[ah e2,show((ia (mG (iz s) p h) l []).2.2.1 != 0)=false by simp[e2]];clear V;obtain⟨w1,w2,c1,c2⟩:=aov (as:=iz s) (h:=h) S.f (by omega) e1 e2;have ay6:cy (abK (iz s) p h l):=by have:=w1.s64;have:=w1.t0;have:=w1.ts;unfold cy at *;omega
   have f1:=aox w1;have f2:=aox w2;obtain⟨s1,s2⟩:=w1.split;obtain⟨s3,s4⟩:=w2.split;have g1:ajh (Pp (iz s) p h l):=λx hx=>by have:=s2 x hx;unfold cy at *;omega
   have g2:ajh (Pq (iz s) p h l):=λx hx=>by have:=s4 x hx;unfold cy at *;omega
   have g3:(Pp (iz s) p h l).length=l.length:=s1.trans c1;have g4:(Pq (iz s) p h l).length=l.length:=s3.trans c2;subst ax1;have ax2:(if(ia (mG (iz s) p h) l []).2.1<(ia (gu p) l []).2.1 then(ia (mG (iz s) p h) l []).2.1 else(ia (gu p) l []).2.1)=abK (iz s) p h l:=by unfold abK;split<;>omega
   refine zp (by rfl) ?_;rw[ax2,ai f1,ai f2];refine bB λX hk8=>?_
   have K8:∀p1 H (out:List xe),X (stT s p1 H (out,()))=some (fX s p1 H,out,0,()):=by intro p1 H out;subst hk8;rfl
   clear hk8;show aj.aZ _ ((0:Int),(0:Int),stT s p h (Pp (iz s) p h l,Pq (iz s) p h l,([]:List xe),()))=_;generalize Pp (iz s) p h l=gv0 at *;generalize Pq (iz s) p h l=tk0 at *;generalize Y:some (rb s (om ((sf (l.zip gv0) (l.zip tk0)).map (JS (iz s))) p h []))=G
   refine nW (λo=>o=G) (λz=>2*l.length+1-z.1.toNat-z.2.1.toNat)
    (λz=>∃(i k:Nat) (p1:List aU) (H:List bj) (gv j:List Int) (out:List xe) (m:Nat),z=((i:Int),(k:Int),stT s p1 H (gv,j,out,()))/\i<=l.length/\k<=l.length/\gv.length=l.length/\j.length=l.length/\ajh gv/\ajh j/\StR p1 H out m/\m+(l.length-i)+(l.length-k)<=10000/\some (rb s (om ((sf ((l.zip gv).drop i) ((l.zip j).drop k)).map (JS (iz s))) p1 H out))=G)
    ⟨0,0,p,h,gv0,tk0,[],m0,rfl,bE _,bE _,g3,g4,g1,g2,S,by omega,by rw[ic,ic];exact Y⟩ (by dsimp only;omega) ?_
   clear Y f1 f2 s1 s2 s3 s4 w1 w2 c1 c2 g1 g2 g3 g4 ax2 ay6;rintro _ ⟨i,k,p1,H,gv,j,out,m,rfl,hi,hk,lg,lt,ng,nt,St,hm,K⟩ R hag;have ZF:=St.pl;have hh1:=St.hl;have hd1:=St.dl
   have J:(i=l.length\/k=l.length)->X (stT s p1 H (out,()))=G:=by
    intro hik;rw[K8,<-K]
    have e:sf ((l.zip gv).drop i) ((l.zip j).drop k)=[]:=by
     have lz1:(l.zip gv).length=l.length:=by rw[sP];omega
     have lz2:(l.zip j).length=l.length:=by rw[sP];omega
     rcases hik with rfl|rfl
     .rw[<-lz1,fu,sf]
     .rw[<-lz2,fu];cases(l.zip gv).drop i with
      |nil=>rw[sf]
      |cons a b=>rw[sf]
    rw[e];rfl
   show aj.af (decide ((i:Int)<(gv.length:Int))) (aj.af (decide ((k:Int)<(j.length:Int))) _ (X (stT s p1 H (out,())))) (X (stT s p1 H (out,())))=G;by_cases hil:i<l.length
   .have C:i<gv.length:=by omega
    rw[dk C];by_cases hkl:k<l.length
    .have F:k<j.length:=by omega
     rw[dk F];clear J K8;rw[TY hil lg,TY hkl lt,sf,bK,om]at K;have nx:=ng _ (aF C);have ny:=nt _ (aF F);have sg:=QX l gv i;have st:=QX l j k;have sg0:=abL (l:=l) hil lg;have st0:=abL (l:=l) hkl lt;have es1:∀v,(gv.set i v)[i]'(by rw[ft];exact C)=v:=λv=>qk _
     generalize hx:gv[i]=x at *;generalize hy:j[k]=y at *;show aj.aI gv (i:Int) (λ_=>aj.aI j (k:Int) λ_=>aj.ct gv (Int.toNat (i:Int)) λx13=>aj.ct j (Int.toNat (k:Int)) λx14=>aj.aI l (i:Int) λx15=>aj.aI l (k:Int) λx16=>aj.two (aj.ae (VG (fX s p1 H) x15 x16 (if x14<x13 then x14 else x13)) _))=G;rw[bN C,bN F,iI C,iI F,bN hil,bN hkl,iW,hx,hy]
     .obtain⟨n,hnn⟩:∃n,n=(if y<x then y else x):=⟨_,rfl⟩;have hn':n=min x y:=by rw[hnn];split<;>omega
      rw[<-hnn];rw[<-hn']at K;have nI:cy n:=by have:=nx.2;have:=ny.2;unfold cy at *;omega
      have xn:0<=x-n/\cy (x-n):=by have:=nx.2;unfold cy at *;omega
      have yn:0<=y-n/\cy (y-n):=by have:=ny.2;unfold cy at *;omega
      rw[ai (akk ha hl1 St.hh (by omega) St.f (by omega) nI)];have ax3:=YO (iz s) l[i] l[k] n p1 H out m St (by omega);have er:JS (iz s) (l[i],l[k],n) p1 H=Bz (iz s) p1 H l[i] l[k] n:=rfl;rw[er]at K;dsimp only at ax3;generalize Bz (iz s) p1 H l[i] l[k] n=r at *;by_cases W:r.2.2.2=0
      .rw[ah W]at K;have S2:=ax3 W;have erd:rb s r=(fX s r.1 r.2.1,r.2.2.1,0,()):=by unfold rb;rw[ah W]
       have hd2:=S2.dl;rw[aq]at hd2;rw[erd];show aj.af ((0:Int) != 0) _ (aj.bg (out.length+r.2.2.1.length) 40 _)=G;rw[aB (by rfl),c9 (by omega) (by omega)];refine bB λk18 ax4=>?_
       have K18:k18 (gv.set i (x-n),j.set k (y-n),out++r.2.2.1,())=G:=by
        subst ax4;have ax5:i<(gv.set i (x-n)).length:=by rw[ft];exact C
        show aj.aI (gv.set i (x-n)) (i:Int) (λ_=>aj.ct (gv.set i (x-n)) (Int.toNat (i:Int)) λx17=>aj.af (x17==0) (R (i64.wrap ((i:Int)+1),(k:Int),stT s r.1 r.2.1 (gv.set i (x-n),j.set k (y-n),out++r.2.2.1,()))) (R ((i:Int),i64.wrap ((k:Int)+1),stT s r.1 r.2.1 (gv.set i (x-n),j.set k (y-n),out++r.2.2.1,()))))=G;rw[bN ax5,iI ax5,es1];by_cases hc:x<=y
        .have en:n=x:=by omega
         rw[ah hc]at K;rw[aQ (by simp;omega),cJ i (by omega)];refine hag _ ⟨i+1,k,r.1,r.2.1,gv.set i (x-n),j.set k (y-n),out++r.2.2.1,m+1,rfl,by omega,hk,by rw[ft];exact lg,by rw[ft];exact lt,QY ng xn.1 xn.2,QY nt yn.1 yn.2,S2,by omega,?_⟩ (by dsimp only;omega);rw[sg,st0,en];exact K
        .have en:n=y:=by omega
         rw[ag hc]at K;rw[aB (by simp;omega),cJ k (by omega)];refine hag _ ⟨i,k+1,r.1,r.2.1,gv.set i (x-n),j.set k (y-n),out++r.2.2.1,m+1,rfl,by omega,by omega,by rw[ft];exact lg,by rw[ft];exact lt,QY ng xn.1 xn.2,QY nt yn.1 yn.2,S2,by omega,?_⟩ (by dsimp only;omega);rw[sg0,st,en];exact K
       clear ax4;have w1:i64.wrap (x-n)=x-n:=bF _ (by have:=xn.2;unfold cy at this;omega);have w2:i64.wrap (y-n)=y-n:=bF _ (by have:=yn.2;unfold cy at this;omega);show aj.aI gv (i:Int) (λ_=>aj.aI j (k:Int) λ_=>aj.gA (aj.ct gv (Int.toNat (i:Int)) λx21=>aj.ct j (Int.toNat (k:Int)) λx22=>aj.aI gv (i:Int) λ_=>aj.ct gv (Int.toNat (i:Int)) λ_=>aj.aI j (k:Int) λ_=>aj.ct j (Int.toNat (k:Int)) λ_=>k18 (gv.set (Int.toNat (i:Int)) (i64.wrap (x21-n)),j.set (Int.toNat (k:Int)) (i64.wrap (x22-n)),out++r.2.2.1,())) (aj.ct j (Int.toNat (k:Int)) λx27=>aj.ct gv (Int.toNat (i:Int)) λx28=>aj.aI gv (i:Int) λ_=>aj.ct gv (Int.toNat (i:Int)) λ_=>aj.aI j (k:Int) λ_=>aj.ct j (Int.toNat (k:Int)) λ_=>k18 (gv.set (Int.toNat (i:Int)) (i64.wrap (x28-n)),j.set (Int.toNat (k:Int)) (i64.wrap (x27-n)),out++r.2.2.1,())))=G;rw[bN C,bN F];exact jN (by rw[iI C,iI F,bN C,iI C,bN F,iI F,hx,hy,w1,w2,aP,aP,K18]) (by rw[iI F,iI C,bN C,iI C,bN F,iI F,hx,hy,w1,w2,aP,aP,K18])
      .rw[ag W]at K;have erd:rb s r=(zS,[],r.2.2.2,()):=by unfold rb;rw[ag W]
       rw[erd];show aj.af (r.2.2.2 != 0) (some (zS,[],r.2.2.2,())) _=G;rw[aQ (by simpa using W),<-K,err _ W]
    .have e:k=j.length:=by omega
     have hkk:k=l.length:=by omega
     rw[show aj.af (decide ((k:Int)<(j.length:Int))) _ (X (stT s p1 H (out,())))=X (stT s p1 H (out,()))from by rw[e,dT]];exact J (.inr hkk)
   .have e:i=gv.length:=by omega
    have hii:i=l.length:=by omega
    rw[show ∀A,aj.af (decide ((i:Int)<(gv.length:Int))) A (X (stT s p1 H (out,())))=X (stT s p1 H (out,()))from λA=>by rw[e,dT]];exact J (.inl hii)
  .rw[ag e2,show((ia (mG (iz s) p h) l []).2.2.1 != 0)=true by simpa using e2,V _ rfl,ah e1,err _ e2]
 .rw[aQ (by simpa using e1),ag e1,V _ rfl,ag e1,err _ e1]
def rN(st:Ng)(a:FD):Ng:=if st.2.2.2=0 then if(a st.1 st.2.1).2.2.2=0 then((a st.1 st.2.1).1,(a st.1 st.2.1).2.1,st.2.2.1++(a st.1 st.2.1).2.2.1,0)else(st.1,st.2.1,st.2.2.1,(a st.1 st.2.1).2.2.2)else st
def qj(l:List FD)(st:Ng):Ng:=l.foldl rN st
theorem abN:∀(l:List FD) {st:Ng},st.2.2.2≠0->qj l st=st
 |[],_,_=>rfl
 |a::l,st,h=>by
  have e:rN st a=st:=by unfold rN;rw[ag h]
  show qj l (rN st a)=st;rw[e];exact abN l h
theorem aoy:∀(l:List FD) (p:List aU) (h:List bj) (d:List xe),
 (qj l (p,h,d,0)).2.2.2=(om l p h d).2.2.2/\((om l p h d).2.2.2=0->qj l (p,h,d,0)=om l p h d)/\((om l p h d).2.2.2≠0->om l p h d=([],[],[],(om l p h d).2.2.2))
 |[],p,h,d=>⟨rfl,λ_=>rfl,λy=>absurd rfl y⟩
 |a::l,p,h,d=>by
  rw[om];by_cases j:(a p h).2.2.2=0
  .have e:rN (p,h,d,0) a=((a p h).1,(a p h).2.1,d++(a p h).2.2.1,0):=by unfold rN;rw[ah rfl,ah j]
   rw[ah j,qj,kQ,e];exact aoy l _ _ _
  .have e:rN (p,h,d,0) a=(p,h,d,(a p h).2.2.2):=by unfold rN;rw[ah rfl,ag j]
   rw[ag j,qj,kQ,e];have:=abN l (st:=(p,h,d,(a p h).2.2.2)) j;rw[qj]at this;rw[this];exact⟨rfl,λy=>absurd y j,λ_=>rfl⟩
theorem BR(y j)(st):qj (y++j) st=qj j (qj y st):=Cf
def StO(st:Ng)(n:Nat):Prop:=st.2.2.2=0->StR st.1 st.2.1 st.2.2.1 n
theorem QZ{a:FD}{k:Nat}(G:Fx a k){st:Ng}{n:Nat}(h:StO st n)(F:n+k<=10000):StO (rN st a) (n+k):=by
 intro j;unfold rN at j ⊢;by_cases C:st.2.2.2=0
 .rw[ah C]at j ⊢;by_cases y:(a st.1 st.2.1).2.2.2=0
  .rw[ah y];exact G st.1 st.2.1 st.2.2.1 n (h C) F y
  .rw[ag y]at j;exact absurd j y
 .rw[ag C]at j;exact absurd j C
theorem StO.mono{st}{n m:Nat}(h:StO st n)(hm:n<=m):StO st m:=λj=>by have S:=h j;have a:=S.pl;have b:=S.hl;have c:=S.dl;exact⟨S.f,by omega,S.hh,by omega,by omega⟩
theorem YQ{k:Nat}:∀(l:List FD),(∀a∈l,Fx a k)->∀{st:Ng} {n:Nat},StO st n->n+k*l.length<=10000->StO (qj l st) (n+k*l.length)
 |[],_,st,n,h,_=>h
 |a::l,hl,st,n,h,j=>by rw[aJ,vB]at j ⊢;have:=YQ l (λb hb=>hl b (cH _ hb)) (QZ (hl a ec) h (by omega)) (by omega);rw[show n+(k*l.length+k)=n+k+k*l.length by omega];exact this
def Mp(s:aV)(st:Ng):=stT s st.1 st.2.1 (st.2.2.1,st.2.2.2,())
def TZ(s:aV)(st:Ng):=stT s st.1 st.2.1 (st.2.2.2,st.2.2.1,())
theorem ae1{s}{st r:Ng}(y:r.2.2.2=0->st.2.2.1.length+r.2.2.1.length<=1000000):
 UJ s.1 s.2.1 s.2.2.1 s.2.2.2.1 s.2.2.2.2.1 s.2.2.2.2.2.1 s.2.2.2.2.2.2.1 s.2.2.2.2.2.2.2.1 s.2.2.2.2.2.2.2.2.1 s.2.2.2.2.2.2.2.2.2.1 st.1 st.2.1 st.2.2.1 st.2.2.2 (rb s r).1 (rb s r).2.1 (rb s r).2.2.1=some ((),Mp s (if r.2.2.2=0 then(r.1,r.2.1,st.2.2.1++r.2.2.1,0)else(st.1,st.2.1,st.2.2.1,r.2.2.2))):=by
 by_cases j:r.2.2.2=0
 .have h:=y j;have e:rb s r=(fX s r.1 r.2.1,r.2.2.1,0,()):=by unfold rb;rw[ah j]
  rw[e,ah j];show aj.af ((0:Int)==0) (aj.bg (st.2.2.1.length+r.2.2.1.length) 40 (some ((),Mp s (r.1,r.2.1,st.2.2.1++r.2.2.1,0)))) _=_;rw[aQ (by rfl),c9]
 .have e:rb s r=(zS,[],r.2.2.2,()):=by unfold rb;rw[ag j]
  rw[e,ag j];exact tqn j rfl
theorem T0{st}(a)(h:st.2.2.2=0):rN st a=(if(a st.1 st.2.1).2.2.2=0 then((a st.1 st.2.1).1,(a st.1 st.2.1).2.1,st.2.2.1++(a st.1 st.2.1).2.2.1,0)else(st.1,st.2.1,st.2.2.1,(a st.1 st.2.1).2.2.2)):=by unfold rN;rw[ah h]
theorem T1{a}{k:Nat}(y:Fx a k){st:Ng}{n:Nat}(h:StO st n)(j:n+k<=10000)(F:st.2.2.2=0):(a st.1 st.2.1).2.2.2=0->st.2.2.1.length+(a st.1 st.2.1).2.2.1.length<=1000000:=λC=>by have:=(y st.1 st.2.1 st.2.2.1 n (h F) j C).dl;rw[aq]at this;omega
def xl(as:List gK)(us:List ar):List FD:=us.map λu=>λp h=>PJ as p h u
def jd(as:List gK)(l:List az):List FD:=(l.filter λa=>a.2.2.1==2).map λa=>uu as (cd a)
def nD(as:List gK)(by' us:List ar):List FD:=us.flatMap λu=>by'.map λb=>λp h=>I7 as p h b u
theorem aji{s}{st:Ng}{l:List ar}{n:Nat}(W:∀a∈iz s,pn a)(H:(iz s).length<=1000)(S:StO st n)(X:n+l.length<=10000):
 YR s.1 s.2.1 s.2.2.1 s.2.2.2.1 s.2.2.2.2.1 s.2.2.2.2.2.1 s.2.2.2.2.2.2.1 s.2.2.2.2.2.2.2.1 s.2.2.2.2.2.2.2.2.1 s.2.2.2.2.2.2.2.2.2.1 st.1 st.2.1 st.2.2.1 st.2.2.2 l=some ((),Mp s (qj (xl (iz s) l) st)):=by
 refine mz (l:=l) (s0:=st) (by omega) (λi (z:Ng)=>((i:Int),TZ s z)) (λi z=>StO z (n+i)) (λl' z=>some ((),Mp s (qj (xl (iz s) l') z))) rfl S ?_ ?_
 .intro z _ y;refine FQ ?_;rfl
 .intro i hi z G y J;refine Ii hi ?_;have j:=agW (iz s) l[i];have F:=QZ j G (by omega);refine bB λk V=>?_
  have K:∀R,R=rN z (λp h=>PJ (iz s) p h l[i])->k (TZ s R)=some ((),Mp s (qj (xl (iz s) (l.drop (i+1))) (rN z λp h=>PJ (iz s) p h l[i]))):=by rintro _ rfl;subst V;dsimp only;rw[cJ i];exact J _ F
  refine tix hi ?_;by_cases C:z.2.2.2=0
  .have S0:=G C;have pl:=S0.pl;have hl:=S0.hl;show aj.af (z.2.2.2==0) (aj.ae (f_ (fX s z.1 z.2.1) l[i]) _) _=_;rw[aQ (by simp[C]),ai (att W H S0.hh (by omega) S0.f (by omega))];refine vC (ae1 (T1 j G (by omega) C)) ?_;exact K _ (T0 (λp h=>PJ (iz s) p h l[i]) C).symm
  .refine tqn C ?_;exact K z (by unfold rN;rw[ag C])
theorem Qf(as)(a)(l)(st):qj (jd as (a::l)) st=if a.2.2.1=2 then qj (jd as l) (rN st (uu as (cd a)))else qj (jd as l) st:=by
 unfold jd;rw[bw];by_cases h:a.2.2.1=2
 .rw[ah (by simp[h]),ah h];rfl
 .rw[ag (by simp[h]),ag h]
theorem H8{a}(h:a.2.2.2.1.length<=20):(cd a).length<=20:=by
 unfold cd;split
 .simp
 .rw[bp];exact h
theorem YS{s}{st:Ng}{l:List az}{n:Nat}(ha:∀a∈iz s,pn a)(X:(iz s).length<=1000)(hA:∀a∈l,a.2.2.2.1.length<=20)(S:StO st n)(hn:n+40*l.length<=10000):
 Qg s.1 s.2.1 s.2.2.1 s.2.2.2.1 s.2.2.2.2.1 s.2.2.2.2.2.1 s.2.2.2.2.2.2.1 s.2.2.2.2.2.2.2.1 s.2.2.2.2.2.2.2.2.1 s.2.2.2.2.2.2.2.2.2.1 st.1 st.2.1 st.2.2.1 st.2.2.2 l=some ((),Mp s (qj (jd (iz s) l) st)):=by
 show rr aj s.1 s.2.1 s.2.2.1 s.2.2.2.1 s.2.2.2.2.1 s.2.2.2.2.2.1 s.2.2.2.2.2.2.1 s.2.2.2.2.2.2.2.1 s.2.2.2.2.2.2.2.2.1 s.2.2.2.2.2.2.2.2.2.1 st.1 st.2.1 st.2.2.1 st.2.2.2 l=_;refine mz (l:=l) (s0:=st) (by omega) (λi (z:Ng)=>((i:Int),TZ s z)) (λi z=>StO z (n+40*i)) (λl' z=>some ((),Mp s (qj (jd (iz s) l') z))) rfl S ?_ ?_
 .intro z _ H;refine FQ ?_;rfl
 .intro i hi z V H Y;rw[Qf];refine Ii hi ?_;have hu:=H8 (hA _ (aF hi));have J:=WU (iz s) (cd l[i]) hu;have j:=J;have W:=QZ j V (by omega);refine bB λk hk=>?_
  have K:∀R,StO R (n+40*i+40)->k (TZ s R)=some ((),Mp s (qj (jd (iz s) (l.drop (i+1))) R)):=by intro R h';subst hk;dsimp only;rw[cJ i];exact Y _ h'
  refine tix hi ?_;refine bB λy F=>?_
  have Kf:y (false,TZ s z)=some ((),Mp s (qj (jd (iz s) (l.drop (i+1))) z)):=by subst F;refine zp (by rfl) ?_;exact K z (V.mono (by omega))
  have Kt:z.2.2.2=0->y (true,TZ s z)=some ((),Mp s (qj (jd (iz s) (l.drop (i+1))) (rN z (uu (iz s) (cd l[i]))))):=by intro G;have S0:=V G;have pl:=S0.pl;have hl:=S0.hl;subst F;refine Um (by rfl) ?_;rw[iW];refine vC (show wL l[i]=some (cd l[i])from xt (a:=l[i]) (by have:=hA _ (aF hi);omega)) ?_;have S1:StR z.1 z.2.1 [] (n+40*i):=⟨S0.f,S0.pl,S0.hh,S0.hl,bE _⟩;refine vC (aow ha X hu S1 (by omega)) ?_;refine vC (ae1 (T1 j V (by omega) G)) ?_;have:=K _ W;rw[T0 (uu (iz s) (cd l[i])) G]at this ⊢;exact this
  show aj.af (z.2.2.2==0) (y (l[i].2.2.1==2,TZ s z)) (y (false,TZ s z))=_;by_cases G:z.2.2.2=0
  .rw[aQ (by simp[G])];by_cases C:l[i].2.2.1=2
   .rw[ah C,show(l[i].2.2.1==2)=true by simp[C]];exact Kt G
   .rw[ag C,show(l[i].2.2.1==2)=false by simp[C]];exact Kf
  .rw[pq G,Kf];have e:rN z (uu (iz s) (cd l[i]))=z:=by unfold rN;rw[ag G]
   rw[e];split<;>rfl
theorem YT(as)(by')(u)(us)(st):qj (nD as by' (u::us)) st=qj (nD as by' us) (qj (by'.map λb=>λp h=>I7 as p h b u) st):=by unfold nD;rw[cp,BR]
theorem Mq{s}{st:Ng}{l by':List ar}{n:Nat}(ha:∀a∈iz s,pn a)(V:(iz s).length<=1000)(S:StO st n)(hn:n+by'.length*l.length<=10000)(hll:l.length<=10000)(Qm:by'.length<=10000):
 Qh s.1 s.2.1 s.2.2.1 s.2.2.2.1 s.2.2.2.2.1 s.2.2.2.2.2.1 s.2.2.2.2.2.2.1 s.2.2.2.2.2.2.2.1 s.2.2.2.2.2.2.2.2.1 s.2.2.2.2.2.2.2.2.2.1 st.1 st.2.1 st.2.2.1 st.2.2.2 l by'=some ((),Mp s (qj (nD (iz s) by' l) st)):=by
 refine mz (l:=l) (s0:=st) (by omega) (λi (z:Ng)=>((i:Int),TZ s z)) (λi z=>StO z (n+by'.length*i)) (λl' z=>some ((),Mp s (qj (nD (iz s) by' l') z))) rfl S ?_ ?_
 .intro z _ F;refine FQ ?_;rfl
 .intro i hi z hz F X;rw[YT]
  have Y:by'.length*i+by'.length<=by'.length*l.length:=by
   have:=lm by'.length (show i+1<=l.length from hi)
   rwa [vB]at this
  have C:by'.length*(i+1)=by'.length*i+by'.length:=vB ..;refine Ii hi ?_;rw[bN hi];refine mz (l:=by') (s0:=z) (by omega) (λk (w:Ng)=>((k:Int),TZ s w)) (λk w=>StO w (n+by'.length*i+k)) (λl' w=>some ((),Mp s (qj (nD (iz s) by' (l.drop (i+1))) (qj (l'.map λb=>λp h=>I7 (iz s) p h b l[i]) w)))) rfl hz ?_ ?_
  .intro w H j;refine FQ ?_;rw[cJ i];exact X _ (by rw[C];exact H.mono (by omega))
  .intro k hk w H j J;refine Ii hk ?_;have y:=agV (iz s) by'[k] l[i];have R:=QZ y H (by omega);refine bB λk7 W=>?_
   have K:∀w',w'=rN w (λp h=>I7 (iz s) p h by'[k] l[i])->k7 (TZ s w')=some ((),Mp s (qj (nD (iz s) by' (l.drop (i+1))) (qj ((by'.drop (k+1)).map λb=>λp h=>I7 (iz s) p h b l[i]) (rN w λp h=>I7 (iz s) p h by'[k] l[i])))):=by rintro _ rfl;subst W;dsimp only;rw[cJ k];exact J _ R
   refine tix hk ?_;by_cases G:w.2.2.2=0
   .have S0:=H G;have pl:=S0.pl;have hl:=S0.hl;show aj.af (w.2.2.2==0) (aj.ae (e_ (fX s w.1 w.2.1) by'[k] l[i]) _) _=_;rw[aQ (by simp[G]),ai (ats ha V S0.hh (by omega) S0.f (by omega))];refine vC (ae1 (T1 y H (by omega) G)) ?_;exact K _ (T0 (λp h=>I7 (iz s) p h by'[k] l[i]) G).symm
   .refine tqn G ?_;exact K w (by unfold rN;rw[ag G])
def ym(l:List az):List ar:=l.flatMap cd
def pp(l:List az):List ar:=(l.filter λa=>a.2.2.1==1).flatMap cd
def Je(as:List gK)(A:List az)(us hs:List ar):List FD:=xl as us++(jd as A++(nD as hs us++nD as [fU] us))
theorem T2{k}:∀{l:List az},(∀a∈l,(cd a).length<=k)->(l.flatMap cd).length<=k*l.length
 |[],_=>by simp
 |a::l,h=>by
  have y:=h a ec;have j:=T2 (l:=l) λb hb=>h b (cH _ hb)
  rw[cp,aq,aJ,vB];omega
theorem ajj{a}(h:a.2.2.1=1):(cd a).length=1:=by unfold cd;rw[ah h];rfl
theorem ajk(l):(pp l).length<=l.length:=by
 unfold pp;have C:=T2 (k:=1) (l:=l.filter λa=>a.2.2.1==1) λa j=>by have:=(aM.1 j).2;rw[ajj (by simpa using this)];exact au _
 have y:=cR (λa:az=>a.2.2.1==1) l;omega
theorem abO(a)(l):pp (a::l)=if a.2.2.1=1 then cd a++pp l else pp l:=by
 unfold pp;rw[bw];by_cases h:a.2.2.1=1
 .rw[ah (by simp[h]),ah h,cp]
 .rw[ag (by simp[h]),ag h]
theorem aoz{l}(J:∀a∈l,a.2.2.2.1.length<=20)(hl:l.length<=1000):ae2 l=some (ym l,pp l,()):=by
 refine mz (l:=l) (s0:=(([]:List ar),([]:List ar))) (by omega) (λi (z:List ar×List ar)=>((i:Int),z.1,z.2,())) (λi z=>z.1.length<=20*i/\z.2.length<=20*i) (λl' z=>some (z.1++ym l',z.2++pp l',())) rfl ⟨by simp,by simp⟩ ?_ ?_
 .rintro⟨a,b⟩ _ C;show aj.af (decide ((l.length:Int)<(l.length:Int))) _ (some (a,b,()))=some (a++[],b++[],());rw[dT,cz,cz]
 .rintro i hi ⟨us,hs⟩ ⟨X,W⟩ C G;dsimp only at X W;have hu:=H8 (J _ (aF hi));have R:=xt (a:=l[i]) (by have:=J _ (aF hi);omega);have e1:us++ym (l[i]::l.drop (i+1))=us++cd l[i]++ym (l.drop (i+1)):=by unfold ym;rw[cp,bn]
  rw[dk hi,e1,abO];refine bB λk V=>?_
  have K:∀us' j,us'.length<=20*(i+1)->j.length<=20*(i+1)->k (us',j,())=some (us'++ym (l.drop (i+1)),j++pp (l.drop (i+1)),()):=by intro us' j g1 Y;subst V;dsimp only;rw[cJ i];exact G (us',j) ⟨g1,Y⟩
  refine tix hi ?_;show aj.ae (wL l[i]) (λF=>aj.bg (us.length+F.length) 16 (aj.af (l[i].2.2.1==1) (aj.ae (wL l[i]) λH=>aj.bg (hs.length+H.length) 16 (k (us++F,hs++H,()))) (k (us++F,hs,()))))=_;rw[ai R,c9];by_cases y:l[i].2.2.1=1
  .rw[aQ (by simp[y]),ai R,c9,ah y,K _ _ (by rw[aq];omega) (by rw[aq];omega),bn hs]
  .rw[aB (by simp[y]),ag y,K _ _ (by rw[aq];omega) (by omega)]
theorem ao0(as)(us):∀a∈xl as us,Fx a 1:=λa j=>by obtain⟨u,_,rfl⟩:=aN.1 j;exact agW as u
theorem abP{as}{A}(C:∀a∈A,a.2.2.2.1.length<=20):∀a∈jd as A,Fx a 40:=λa y=>by obtain⟨x,j,rfl⟩:=aN.1 y;exact WU as (cd x) (H8 (C x (aM.1 j).1))
theorem ao1(as)(by' us):∀a∈nD as by' us,Fx a 1:=λa y=>by have⟨u,_,j⟩:=cE.1 y;obtain⟨b,_,rfl⟩:=aN.1 j;exact agV as b u
theorem YU(as)(by'):∀us,(nD as by' us).length=by'.length*us.length
 |[]=>by simp[nD]
 |u::us=>by have:=YU as by' us;unfold nD at this ⊢;rw[cp,aq,bp,this,aJ,vB];omega
structure Qv(s:aV)(A:List az):Prop where
 a:∀a∈iz s,pn a
 aL:(iz s).length<=1000
 c:∀a∈A,a.2.2.2.1.length<=20
 cL:A.length<=20
theorem Qv.lens{s}{A}(O:Qv s A):(ym A).length<=400/\(pp A).length<=20:=by
 have F:=T2 (k:=20) (l:=A) λa j=>H8 (O.c a j)
 have C:=ajk A;have y:=O.cL;unfold ym;omega
theorem av6{s}{p}{h:List bj}{id:Int}(V:qC s.2.2.2.2.1)(O:Qv s (s.2.2.2.2.1.filter (p9 id)))(S:StR p h [] 0):
 La (fX s p h) id=some (rb s (om (Je (iz s) (s.2.2.2.2.1.filter (p9 id)) (ym (s.2.2.2.2.1.filter (p9 id))) (pp (s.2.2.2.2.1.filter (p9 id)))) p h [])):=by
 have⟨l1,l2⟩:=O.lens;have cL:=O.cL;show H9 aj (fX s p h) id=_;show aj.ae (W6 s.2.2.2.2.1 id) _=_;rw[ai (ZH V)];generalize hA:s.2.2.2.2.1.filter (p9 id)=A at *;have hsl:(jd (iz s) A).length<=20:=by unfold jd;rw[bp];have:=cR (λa:az=>a.2.2.1==2) A;omega
 rw[ai (aoz O.c (by omega))];have S0:StO (p,h,[],0) 0:=λ_=>S
 have S1:=YQ (xl (iz s) (ym A)) (ao0 _ _) S0 (by unfold xl;rw[bp];omega);have e1:(xl (iz s) (ym A)).length=(ym A).length:=by unfold xl;rw[bp]
 rw[e1]at S1;have c1:=aji (st:=(p,h,[],0)) (l:=ym A) O.a O.aL S0 (by omega);generalize G:qj (xl (iz s) (ym A)) (p,h,[],0)=st1 at *;have K:=S1.mono (m:=400) (by omega);have c2:=YS (st:=st1) (l:=A) O.a O.aL O.c K (by omega);have S2:=YQ (jd (iz s) A) (abP O.c) K (by omega);generalize F:qj (jd (iz s) A) st1=st2 at *;have J:=S2.mono (m:=1200) (by omega);have hm:=Nat.mul_le_mul l2 l1;have c3:=Mq (st:=st2) (l:=ym A) (by':=pp A) O.a O.aL J (by omega) (by omega) (by omega);have S3:=YQ (nD (iz s) (pp A) (ym A)) (ao1 _ _ _) J (by rw[YU];omega);rw[YU]at S3;generalize C:qj (nD (iz s) (pp A) (ym A)) st2=y at *;have W:=S3.mono (m:=9200) (by omega);have c4:=Mq (st:=y) (l:=ym A) (by':=[fU]) O.a O.aL W (by simp;omega) (by omega) (by simp);have tot:qj (Je (iz s) A (ym A) (pp A)) (p,h,[],0)=qj (nD (iz s) [fU] (ym A)) y:=by unfold Je;rw[BR,BR,BR,G,F,C]
 generalize Y:qj (nD (iz s) [fU] (ym A)) y=j at *;have⟨R,X,r3⟩:=aoy (Je (iz s) A (ym A) (pp A)) p h [];rw[tot]at R X;refine vC c1 ?_;refine vC c2 ?_;refine vC c3 ?_;rw[ai acG];refine vC c4 ?_;show aj.af (j.2.2.2 != 0) (some (zS,[],j.2.2.2,())) (some (fX s j.1 j.2.1,j.2.2.1,0,()))=_;unfold rb;by_cases H:(om (Je (iz s) A (ym A) (pp A)) p h []).2.2.2=0
 .rw[ah H,<-X H,aB (by rw[R,H];rfl)]
 .rw[ag H,aQ (by rw[R];simpa using H),R]
theorem N5{α}{n}{l:List α}{k:Nat}{x:α}(j:k<=l.length)(hb:(l.length+1)*n<=140737488355328):Jb n l (k:Int) [x]=some (l.take k++x::l.drop k,()):=by
 unfold Jb;have e:(decide ((0:Int)<=(k:Int))&&decide ((k:Int)<=(l.length:Int))&&Nat.ble ((l.length+1)*n) 140737488355328)=true:=by rw[ap (by omega),ap (by omega),gJ hb];rfl
 rw[e];rfl
theorem auJ{α}{l:List α}{a b:Nat}(h:a<b)(hb:b<=l.length):Uo l (a:Int) (b:Int)=some (l.take a++l.drop b,()):=by
  unfold Uo
  have e:(decide ((0:Int)<=(a:Int))&&decide ((a:Int)<(b:Int))&&decide ((b:Int)<=(l.length:Int)))=true:=by
    rw[ap (by omega),ap (by omega),ap (by omega)];rfl
  rw[e]
  rfl
end Go.Proofs.YthghpahghjppjaaGreat