import Derived.Test.YthghpahghjppjaaGreatB4
namespace Go.Proofs.YthghpahghjppjaaGreat
open Go Go.Vc Go.RowKit
def agd(u:ar)(x:aR):Bool:=decide (x.1=u)
def Pe(l:List aR)(u:ar):List Int:=(l.filter (agd u)).map Vw
def mR(l:List aR)(u:ar):Int:=(Pe l u).sum
theorem ad5(l)(u):(Pe l u).length<=l.length:=by unfold Pe;rw[bh];exact cW _ _
theorem asL{l}(h:u7 l)(u):∀x∈Pe l u,cu x:=by intro x hx;obtain⟨y,hy,rfl⟩:=aN.1 hx;exact h y (aM.1 hy).1
theorem XR(l:List aR)(u:ar)(i:Nat)(h:i<l.length):Pe (l.take (i+1)) u=Pe (l.take i) u++(if l[i].1=u then[l[i].2.1]else[]):=by unfold Pe;rw[ad6 _ _ _ h,cz];unfold agd;by_cases hu:l[i].1=u<;>simp[hu,Vw]
theorem akL{l:List aR}{u:ar}(hl:l.length<=1000000):VT l u=some (Pe l u):=by
 show rR aj l u=_;unfold rR;refine K6 (N:=l.length) (by omega) (λi s=>s=(Pe (l.take i) u,())) (some (Pe l u)) rfl ?_ ?_
 .rintro _ again rfl;rw[dZ,br]
 .rintro i hi _ rfl again ha;rw[dE hi];refine bw λk hk=>?_
  have kk:∀v:List Int,k (v,())=again (((i+1:Nat):Int),v,()):=by intro v;rw[<-cU i (by omega)];subst hk;rfl
  have hlen:=ad5 (l.take i) u;rw[aX]at hlen;rw[bO hi,Ue,eqA];refine du (λh=>?_) λh=>?_
  .rw[dm (by simp;omega) (by simp;omega),kk];refine ha _ ?_;rw[XR _ _ _ hi,ah h]
  .rw[kk];refine ha _ ?_;rw[XR _ _ _ hi,ag h,cy]
def BN(all:List aR):List ar->List aR->List aR×Int×Unit
 |[],acc=>(acc,0,())
 |u::us,acc=>if cu (mR all u)then(if mR all u≠0 then BN all us (acc++[(u,mR all u,())])else BN all us acc)else([],7,())
def rI(l fl:List aR):List aR×Int×Unit:=if ya l=true then BN (l++fl) (lS (l++fl)) []else([],3,())
theorem adr{l fl}(h:u7 l)(hf:u7 fl)(hl:l.length+fl.length<=1000000):AL l fl=some (rI l fl):=by
 show rS aj l fl=_;unfold rS rI;rw[ai (aaT (by omega))];by_cases hp:ya l=true
 .rw[hp,az (by decide),ah rfl];have hall:u7 (l++fl):=λx hx=>(aT.1 hx).elim (h x) (hf x)
  have e1:pD (l::(fl::[]))=some (l++fl):=by have:=app (ll:=l::(fl::[])) (by simp) (by simp;omega);rw[this];simp
  have hlen:(l++fl).length<=1000000:=by rw[ap];exact hl
  have e2:=asM hlen;rw[ai e1,ai e2];have hul:=XP (l++fl);generalize l++fl=all at *;generalize lS all=us at *;refine ib (l:=us) (by omega) (λi (s:List aR×List ar×List aR×Unit)=>s.1=all/\s.2.1=us/\s.2.2.1.length<=i) (λus' (s:List aR×List ar×List aR×Unit)=>some (BN all us' s.2.2.1)) ⟨rfl,rfl,au _⟩ ?_ ?_
  .rintro⟨_,_,acc,⟨⟩⟩ again ⟨rfl,rfl,_⟩;rw[dZ];rfl
  .rintro i hi ⟨Pf,us',acc,⟨⟩⟩ ⟨wX,hus,abn⟩ again ha;have hus:=hus.symm;subst hus;have wX:=wX;subst wX;simp only at abn;rw[dE hi];refine bw λk hk=>?_
   have kk:∀v:List aR,k (Pf,us,v,())=again (((i+1:Nat):Int),Pf,us,v,()):=by intro v;rw[<-cU i (by omega)];subst hk;rfl
   refine tix hi ?_;refine tnt hi ?_;rw[ai (akL hlen)];show _=some (BN Pf (us[i]::us.drop (i+1)) acc);rw[BN];have e3:=tZ (asL hall us[i]) (cp (ad5 _ _) hlen);change Ih (Pe Pf us[i])=some (if cu (mR Pf us[i])then(mR Pf us[i],0,())else(0,7,()))at e3;by_cases hI:cu (mR Pf us[i])
   .rw[ah hI]at e3;rw[ah hI,ai e3];show aj.af ((0:Int) != 0) _ (aj.af (mR Pf us[i] != 0) (aj.bi (acc.length+1) 24 (k (Pf,us,acc++[(us[i],mR Pf us[i],())],()))) (k (Pf,us,acc,())))=_;rw[az (by decide)];by_cases h0:mR Pf us[i]=0
    .rw[ag (by simp[h0]),az (by simp[h0])];exact(kk acc).trans (ha _ ⟨rfl,rfl,by simp only;omega⟩)
    .rw[ah h0,aQ (by simp[h0]),dm (by omega) (by omega)];exact(kk (acc++[(us[i],mR Pf us[i],())])).trans (ha _ ⟨rfl,rfl,by simp;omega⟩)
   .rw[ag hI]at e3;rw[ag hI,ai e3];exact VA (by decide) rfl
 .have hp:ya l=false:=by simpa using hp
  rw[hp,aQ (by decide),ag (by simp)]
theorem azy(a)(h : -9223372036854775808<=a/\a<=9223372036854775807):bits .xor .i64 (-1) a = -1-a:=by
 have e1:BitVec.ofInt 64 (-1)=BitVec.allOnes 64:=by decide
 show IntKind.i64.wrap (((BitVec.ofInt 64 (-1) ^^^ BitVec.ofInt 64 a).toNat:Nat):Int)=_;rw[e1,BitVec.allOnes_xor,xZ,nb,dW];have:(2:Int) ^ 64=18446744073709551616:=by decide
 omega
theorem azz(a)(h:0<=a/\a<18446744073709551616):bits .xor .u64 18446744073709551615 a=18446744073709551615-a:=by
 have e1:BitVec.ofInt 64 18446744073709551615=BitVec.allOnes 64:=by decide
 show IntKind.u64.wrap (((BitVec.ofInt 64 18446744073709551615 ^^^ BitVec.ofInt 64 a).toNat:Nat):Int)=_;rw[e1,BitVec.allOnes_xor,xZ,nb,bW];have:(2:Int) ^ 64=18446744073709551616:=by decide
 omega
theorem awW{a b}(ha:eN a)(hb:eN b):apq (wide a) (wide b)=some (fit (a-b)):=by
 show EP aj (wide a) (wide b)=_;unfold EP;have ha':=ha;have hb':=hb;unfold eN at ha' hb';have t0:y6 0:=by unfold y6;omega
 have t1:y6 a:=by unfold y6;omega
 have t2:y6 (a+(-b-1)):=by unfold y6;omega
 have t3:y6 (a-b):=by unfold y6;omega
 have s1:BO 0 0 0 (wide a)=some ((),Lc a):=by have:=Z4 0 (wide a) t0 (nL a ha);rw[tN,sP]at this;exact this
 rw[ai s1]
 have ec:(bits .xor .i64 (if true=true then(-1)else(if true=true then((2 ^ ((IntKind.bits .i64)-1))-1)else((2 ^ (IntKind.bits .i64))-1))) (wide b).1,bits .xor .u64 (if false=true then(-1)else(if false=true then((2 ^ ((IntKind.bits .u64)-1))-1)else((2 ^ (IntKind.bits .u64))-1))) (wide b).2.1,())=wide (-b-1):=by
  have c1:(if false=true then(-1:Int)else(if false=true then((2 ^ ((IntKind.bits .u64)-1))-1)else((2 ^ (IntKind.bits .u64))-1)))=18446744073709551615:=by decide
  rw[c1,ah rfl];unfold wide;dsimp only;rw[azy _ (by omega),azz _ (by omega)];refine jd ?_ (jd ?_ rfl)
  .dsimp only;omega
  .dsimp only;omega
 have s2:=Z4 a (wide (-b-1)) t1 (nL _ (by unfold eN;omega));rw[tN]at s2;show aj.ae (BO (Lc a).1 (Lc a).2.1 (Lc a).2.2.1 _) _=_;rw[ec,ai s2,ai (Mf 1 (by unfold cu;omega))];have s3:=Z4 (a+(-b-1)) (wide 1) t2 (nL _ (by unfold eN;omega));rw[tN,show a+(-b-1)+1=a-b by omega]at s3;refine yu s3 ?_;exact yu (aiK _ t3) rfl
theorem JM{a b}(ha:cu a)(hb:cu b):ZT a b=some (cZ (a-b)):=by
 show y7 aj a b=_;unfold y7;have hd:eN (a-b):=by unfold cu at ha hb;unfold eN;omega
 have e:fit (a-b)=(wide (a-b),0,()):=ah hd;rw[ai (Mf a ha),ai (Mf b hb),ai (awW (vk ha) (vk hb)),e];exact yu (D9 hd) rfl
def jh(l:List aR)(f t:ar)(n:Int):List aR×Int×Unit:=if cu (-n)then rI l [(f,-n,()),(t,n,())]else if ya l=true then([],7,())else([],3,())
theorem N5{l}{f t}{n}(h:u7 l)(hn:cu n)(hl:l.length<=900000):rD l f t n=some (jh l f t n):=by
 show mb aj l f t n=_;unfold mb jh;have e:=JM (a:=0) (b:=n) (by unfold cu;omega) hn;rw[As]at e;unfold cZ at e;by_cases hI:cu (-n)
 .rw[ah hI]at e;rw[ah hI,ai e];refine bw λk hk=>?_
  show aj.af ((0:Int) != 0) _ _=_;rw[az (by decide)];subst hk;show aj.af false _ (aj.ae (AL l [(f,-n,()),(t,n,())]) _)=_
  rw[az rfl,ai (adr h (by
   intro x hx;simp only[aF,dV,lO]at hx;rcases hx with rfl|rfl
   .exact hI
   .exact hn) (by simp;omega))]
 .rw[ag hI]at e;rw[ag hI,ai e];refine bw λk hk=>?_
  refine VA (by decide) ?_;rw[ai (aaT (by omega))];subst hk;by_cases hp:ya l=true
  .rw[hp,ah rfl];rfl
  .have hp:ya l=false:=by simpa using hp
   rw[hp,ag (by simp)];show aj.af false _ (aj.ae (AL l _) _)=_;unfold cu at hI hn;have hn2:n = -9223372036854775808:=by omega
   rw[az rfl,ai (adr h (by
    intro x hx;simp only[aF,dV,lO]at hx;rcases hx with rfl|rfl
    .show cu 0;unfold cu;omega
    .show cu n;unfold cu;omega) (by simp;omega))]
   unfold rI;rw[hp,ag (by simp)]
theorem Pg(all):∀(us:List ar) (acc:List aR),(BN all us acc).1.length<=acc.length+us.length
 |[],acc=>by simp[BN]
 |u::us,acc=>by
  unfold BN;split
  .split
   .have:=Pg all us (acc++[(u,mR all u,())]);simp at this ⊢;omega
   .have:=Pg all us acc;simp at this ⊢;omega
  .simp
theorem Sy(l f):(rI l f).1.length<=l.length+f.length:=by
 unfold rI;split
 .have:=Pg (l++f) (lS (l++f)) [];have h2:=XP (l++f);simp at this h2 ⊢;omega
 .simp
theorem asN{X β}{N}(hN:N<9223372036854775808){f:X->(X->Option β)->Option β}(st:Nat->X)(r:Option β)
 (Dw:∀again:X->Option β,f (st N) again=r) (tC:∀i,i<N->∀again:X->Option β,again (st (i+1))=r->f (st i) again=r):aj.aY f (st 0)=r:=by
 have key:∀n i,i<=N->N-i<n->yO n f (st i)=r:=by
  intro n;induction n with
  |zero=>intro i _ h;omega
  |succ n ih=>
   intro i hi hn;by_cases h:i<N
   .exact tC i h _ (ih (i+1) (by omega) (by omega))
   .have:i=N:=by omega
    subst this;exact Dw _
 exact key FU 0 (bE _) (by rw[PZ];omega)
theorem qi{X β}{N}(hN:N<9223372036854775808){f}(st:Nat->X)(r:Option β){z0:X}(hz:z0=st 0)
 (Dw:∀again:X->Option β,f (st N) again=r) (tC:∀i,i<N->∀again:X->Option β,again (st (i+1))=r->f (st i) again=r):aj.aY f z0=r:=by
 subst hz;exact asN hN st r Dw tC
theorem Uu(all):∀(us:List ar) (acc:List aR),(BN all us acc).2.1=0->
 (BN all us acc).1=acc++(us.filter λu=>decide (mR all u≠0)).map (λu=>(u,mR all u,()))/\∀u∈us,cu (mR all u)
 |[],acc,_=>by simp[BN]
 |u::us,acc,h=>by
  unfold BN at h ⊢;by_cases hI:cu (mR all u)
  .rw[ah hI]at h ⊢;by_cases h0:mR all u≠0
   .rw[ah h0]at h ⊢;obtain⟨h1,h2⟩:=Uu all us _ h;refine⟨?_,λx hx=>?_⟩
    .rw[h1,bu,ah (by simpa using h0)];simp
    .rcases aF.1 hx with rfl|hx
     .exact hI
     .exact h2 x hx
   .rw[ag h0]at h ⊢;obtain⟨h1,h2⟩:=Uu all us _ h;refine⟨?_,λx hx=>?_⟩
    .rw[h1,bu,ag (by simpa using h0)]
    .rcases aF.1 hx with rfl|hx
     .exact hI
     .exact h2 x hx
  .rw[ag hI]at h;simp at h
theorem uA(x:aR)(l:List aR)(u:ar):mR (x::l) u=(if x.1=u then Vw x else 0)+mR l u:=by unfold mR Pe agd;rw[bu];by_cases h:x.1=u<;>simp[h]
theorem adf(a b)(u):mR (a++b) u=mR a u+mR b u:=by unfold mR Pe;rw[fu,cz,nJ]
theorem XS{l}{u}(h:∀x∈l,x.1≠u):mR l u=0:=by
 induction l with
 |nil=>rfl
 |cons x l ih=>rw[uA,ag (h x (by simp)),ih λy hy=>h y (by simp[hy])];rfl
theorem awX{us:List ar}(hn:us.Nodup){v:ar}(z:Int):iM (λu=>if v=u then z else 0) us=if v∈us then z else 0:=by
 induction us with
 |nil=>rfl
 |cons u us ih=>
  obtain⟨h1,h2⟩:=gb.1 hn;rw[gB,ih h2];by_cases hv:v=u
  .subst hv;rw[ah rfl,ag h1,ah (by simp)];omega
  .rw[ag hv];by_cases hm:v∈us
   .rw[ah hm,ah (by simp[hm])];omega
   .rw[ag hm,ag (by simp[hm,hv])];rfl
theorem akM{α:Type}(f g:α->Int)(l:List α):iM (λx=>f x+g x) l=iM f l+iM g l:=by
 induction l with
 |nil=>rfl
 |cons x l ih=>rw[gB,gB,gB,ih];omega
theorem XT:∀(l:List aR) {us:List ar},us.Nodup->(∀x∈l,x.1∈us)->iM (mR l) us=iM Vw l
 |[],us,_,_=>by
  have:∀us:List ar,iM (mR []) us=0:=by
   intro us;induction us with
   |nil=>rfl
   |cons u us ih=>rw[gB,ih];rfl
  rw[this];rfl
 |x::l,us,hn,h=>by
  have e:mR (x::l)=λu=>(if x.1=u then Vw x else 0)+mR l u:=funext (uA x l)
  rw[e,akM,awX hn,ah (h x (by simp)),XT l hn λy hy=>h y (by simp[hy]),gB]
def VU(all:List aR)(us:List ar):List aR:=(us.filter λu=>decide (mR all u≠0)).map λu=>(u,mR all u,())
theorem Oh{us}(h:jR us):us.Nodup:=wE (λ{a b} (hab:oJ a b) (e:a=b)=>by subst e;exact jv _ hab) h
theorem adg(all:List aR):iM Vw (VU all (lS all))=iM Vw all:=by
 have e:∀us:List ar,iM Vw (VU all us)=iM (mR all) us:=by
  intro us;induction us with
  |nil=>rfl
  |cons u us ih=>
   unfold VU at ih ⊢;rw[bu,gB,<-ih];by_cases h:mR all u=0
   .rw[ag (by simp[h]),h];omega
   .rw[ah (by simp[h]),bK,gB];rfl
 rw[e,XT all (Oh (xr all)) λx hx=>(Io all x.1).2 ⟨x,hx,rfl⟩]
theorem RJ{all}{us:List ar}(h:jR us):ya (VU all us)=true:=by
 refine aq ⟨λx hx=>?_,?_⟩
 .obtain⟨u,hu,rfl⟩:=aN.1 hx;simpa using(aM.1 hu).2
 .unfold VU;rw[hJ];have:((λx:aR=>x.1) ∘ λu=>((u,mR all u,()):aR))=id:=rfl;rw[this,Dd];exact h.filter _
theorem akN{l}{u}(h:∀x∈l,x.1≠u):ig l u=0:=by
 induction l with
 |nil=>rfl
 |cons x l ih=>rw[ig,ag (h x (by simp)),ih λy hy=>h y (by simp[hy])]
theorem M6:∀{l:List aR},(l.map (·.1)).Nodup->∀u,ig l u=mR l u
 |[],_,u=>rfl
 |x::l,h,u=>by
  obtain⟨h1,h2⟩:=gb.1 h;rw[ig,uA];by_cases hu:x.1=u
  .rw[ah hu,ah hu,XS λy hy e=>h1 (aN.2 ⟨y,hy,e.trans hu.symm⟩)];show Vw x=_;omega
  .rw[ag hu,ag hu,M6 h2];omega
theorem YI{l:List aR}(h:ya l=true):(l.map (·.1)).Nodup:=Oh (bM h).2
theorem ade(all)(u:ar):ig (VU all (lS all)) u=mR all u:=by
 by_cases h0:mR all u=0
 .rw[h0];refine akN λx hx e=>?_
  obtain⟨v,hv,rfl⟩:=aN.1 hx;have:=(aM.1 hv).2;simp only[bb]at this;exact this (by rw[show v=u from e];exact h0)
 .rw[M6 (YI (RJ (xr all)))]
  have hu:u∈lS all:=by
   rw[Io];by_cases hx:∃x∈all,x.1=u
   .exact hx
   .exact absurd (XS λx hx' e=>hx ⟨x,hx',e⟩) h0
  have key:∀us:List ar,us.Nodup->mR (VU all us) u=if u∈us then mR all u else 0:=by
   intro us;induction us with
   |nil=>intro _;rfl
   |cons v us ih=>
    intro hn;obtain⟨h1,h2⟩:=gb.1 hn;have ih:=ih h2;unfold VU at ih ⊢;rw[bu];by_cases hv:v=u
    .subst hv;rw[ah (by simpa using h0),bK,uA,ih,ag h1,ah rfl,ah (by simp)];show mR all v+0=_;omega
    .have e:(if u∈v::us then mR all u else 0)=if u∈us then mR all u else 0:=by
      by_cases hm:u∈us
      .rw[ah hm,ah (by simp[hm])]
      .rw[ag hm,ag (by simp[hm,jf hv])]
     rw[e,<-ih];by_cases hz:mR all v=0
     .rw[ag (by simp[hz])]
     .rw[ah (by simp[hz]),bK,uA,ag hv];omega
  rw[key _ (Oh (xr all)),ah hu]
theorem RF{l f}(h:(rI l f).2.1=0):ya l=true/\(rI l f).1=VU (l++f) (lS (l++f))/\∀u∈lS (l++f),cu (mR (l++f) u):=by
 unfold rI at h ⊢;by_cases hp:ya l=true
 .rw[ah hp]at h ⊢;obtain⟨h1,h2⟩:=Uu _ _ _ h;exact⟨hp,by rw[h1,dA];rfl,h2⟩
 .rw[ag hp]at h;simp at h
theorem YH{all}{us}(h:∀u∈us,cu (mR all u)):u7 (VU all us):=by intro x hx;obtain⟨u,hu,rfl⟩:=aN.1 hx;exact h u (aM.1 hu).1
open Go.IntKind (i64 u64)
def Dn(z:Int):O9:=(z / 18446744073709551616,z % 18446744073709551616,())
def Yz(z:Int):bU:=(i64.wrap (z / 18446744073709551616),z % 18446744073709551616,())
theorem L9(z)(h:eN z):Yz z=wide z:=by unfold eN at h;unfold Yz wide;rw[bI _ (by omega)]
def km(z:Int):Int:=if z<0 then -z else z
theorem yc(w):qD w=some (decide (w.1<0)):=rfl
theorem JQ(x)(hx:FH x):AV x=some (Dn (km (wv x))):=by
 unfold FH at hx;show ir aj x=_;unfold ir;rw[ai (yc _)];by_cases h:x.1<0
 .rw[az (by simp[h]),ai (M8 (by omega) (by omega) (by omega) (by omega) (by omega)),ai (M8 (by omega) (by rw[bW];omega) (by rw[bW];omega) (by dsimp only;split<;>omega) (by dsimp only;split<;>omega))];unfold Dn km wv;refine bA some (jd ?_ (jd ?_ rfl))
  .dsimp only;rw[bW];split<;>split<;>omega
  .dsimp only;split<;>omega
 .rw[aQ (by simp[h])];unfold Dn km wv;refine bA some (jd ?_ (jd ?_ rfl))
  .dsimp only;rw[bW];split<;>omega
  .dsimp only;split<;>omega
theorem asz(z)(hz:0<=z/\z<340282366920938463463374607431768211456)(h:z / 18446744073709551616=9223372036854775808):((z % 18446744073709551616)==0)=decide (eN (-z)):=by
 by_cases h0:z % 18446744073709551616=0
 .have:eN (-z):=by unfold eN;omega
  rw[aq this];simp[h0]
 .have:¬eN (-z):=by unfold eN;omega
  rw[an this];simp[h0]
theorem afQ(hi lo)(m):jm (hi,lo,()) m=(
 aj.af (!m) (some ((i64.wrap hi,lo,()),decide (hi<9223372036854775808),()))
 (aj.ae (Hf 0 lo 0) λv1=>aj.ae (Hf 0 hi v1.2.1) λv2=>
 aj.af (decide (hi<9223372036854775808)) (some ((i64.wrap v2.1,v1.1,()),true,()))
  (
  aj.af (hi==9223372036854775808) (some ((i64.wrap v2.1,v1.1,()),lo==0,())) (some ((i64.wrap v2.1,v1.1,()),false,()))))):=rfl
theorem GS(z)(m)(hz:0<=z/\z<340282366920938463463374607431768211456):jm (Dn z) m=some (Yz (if m=true then -z else z),decide (eN (if m=true then -z else z)),()):=by
 unfold Dn;rw[afQ];cases m
 .rw[aQ (by rfl)];simp only[fb,oG];unfold Yz;congr 3;unfold eN;apply eF.2;omega
 .rw[az (by rfl),ai (M8 (by omega) (by omega) (by omega) (by omega) (by omega)),ai (M8 (by omega) (by omega) (by omega) (by dsimp only;split<;>omega) (by dsimp only;split<;>omega))]
  have e:((i64.wrap ((0-z / 18446744073709551616-(if 0<z % 18446744073709551616+0 then 1 else 0)) % 18446744073709551616),(0-z % 18446744073709551616-0) % 18446744073709551616,()):bU)=Yz (-z):=by
   rw[K0];unfold Yz;refine jd ?_ (jd ?_ rfl)
   .dsimp only;congr 1;split<;>omega
   .dsimp only;omega
  show _=some (Yz (-z),decide (eN (-z)),());rw[<-e];refine du (λh1=>?_) λh1=>?_
  .have:eN (-z):=by unfold eN;omega
   rw[aq this]
  .by_cases h2:z / 18446744073709551616=9223372036854775808
   .rw[aQ (by simp[h2]),asz z hz h2]
   .rw[az (by simp[h2])];have:¬eN (-z):=by unfold eN;omega
    rw[an this]
theorem abi(a)(h:0<=a/\a<18446744073709551616):bits .and .u64 a 4294967295=a % 4294967296:=by
 obtain⟨n,rfl⟩:=cS h.1;show u64.wrap (((BitVec.ofInt 64 ((n:Nat):Int) &&& BitVec.ofInt 64 4294967295).toNat:Nat):Int)=_;rw[BitVec.toNat_and,nb,nb]
 have e1:(((n:Nat):Int) % ((2 ^ 64:Nat):Int)).toNat=n:=by
  have:((2 ^ 64:Nat):Int)=18446744073709551616:=by decide
  omega
 have e2:((4294967295:Int) % ((2 ^ 64:Nat):Int)).toNat=2 ^ 32-1:=by decide
 rw[e1,e2,Nat.and_two_pow_sub_one_eq_mod,bW];have:(2:Nat) ^ 32=4294967296:=by decide
 rw[this];omega
theorem JP(a)(h:0<=a):Int.fdiv a (2 ^ (min (Int.toNat 32) (IntKind.bits .u64)))=a / 4294967296:=by
 have e:(2:Int) ^ (min (Int.toNat 32) (IntKind.bits .u64))=4294967296:=by decide +kernel
 rw[e,eO _ (by omega)]
theorem ZX{a b:Int}(ha:0<=a/\a<4294967296)(hb:0<=b/\b<4294967296):0<=a*b/\a*b<=18446744065119617025:=by refine⟨jc ha.1 hb.1,?_⟩;have h1:a*b<=4294967295*b:=iF (by omega) hb.1;omega
theorem ZY{x y:Int}(hx:0<=x/\x<18446744073709551616)(hy:0<=y/\y<18446744073709551616):zE x y=some (x*y / 18446744073709551616,x*y % 18446744073709551616,()):=by
 show j7 aj x y=_;unfold j7;rw[vj (by omega),vj (by omega),vj (by omega),vj (by omega),vj (by omega)];simp only[JP x hx.1,JP y hy.1,abi x hx,abi y hy];have hx1:0<=x / 4294967296/\x / 4294967296<4294967296:=by omega
 have hx0:0<=x % 4294967296/\x % 4294967296<4294967296:=by omega
 have hy1:0<=y / 4294967296/\y / 4294967296<4294967296:=by omega
 have hy0:0<=y % 4294967296/\y % 4294967296<4294967296:=by omega
 have ex:x=x / 4294967296*4294967296+x % 4294967296:=by omega
 have ey:y=y / 4294967296*4294967296+y % 4294967296:=by omega
 have exy:x*y=(x / 4294967296)*(y / 4294967296)*18446744073709551616+((x / 4294967296)*(y % 4294967296)+(x % 4294967296)*(y / 4294967296))*4294967296+(x % 4294967296)*(y % 4294967296):=by
  generalize x / 4294967296=x1 at *;generalize x % 4294967296=x0 at *;generalize y / 4294967296=y1 at *;generalize y % 4294967296=y0 at *;rw[ex,ey,oC,zm,zm];have a1:x1*4294967296*(y1*4294967296)=x1*y1*18446744073709551616:=by rw[tK,Int.mul_left_comm 4294967296,<-tK];rfl
  have a2:x1*4294967296*y0=x1*y0*4294967296:=by rw[tK,iE 4294967296,<-tK]
  have a3:x0*(y1*4294967296)=x0*y1*4294967296:=by rw[<-tK]
  rw[a1,a2,a3,oC];omega
 have hD:=ZX hx1 hy1;have hB:=ZX hx1 hy0;have hC:=ZX hx0 hy1;have hA:=ZX hx0 hy0;rw[exy];generalize (x / 4294967296)*(y / 4294967296)=D at *;generalize (x / 4294967296)*(y % 4294967296)=B at *;generalize (x % 4294967296)*(y / 4294967296)=C at *;generalize (x % 4294967296)*(y % 4294967296)=A at *;have w1:u64.wrap A=A:=by rw[bW];omega
 have w2:u64.wrap B=B:=by rw[bW];omega
 have w3:u64.wrap C=C:=by rw[bW];omega
 have w4:u64.wrap D=D:=by rw[bW];omega
 rw[w1,w2,w3,w4,JP A (by omega)];have w5:u64.wrap (B+A / 4294967296)=B+A / 4294967296:=by rw[bW];omega
 rw[w5,JP _ (by omega),abi _ (by omega)];have w6:u64.wrap ((B+A / 4294967296) % 4294967296+C)=(B+A / 4294967296) % 4294967296+C:=by rw[bW];omega
 rw[w6,JP _ (by omega)];have w7:u64.wrap (D+(B+A / 4294967296) / 4294967296)=D+(B+A / 4294967296) / 4294967296:=by rw[bW];omega
 rw[w7,bW,bW];congr 1;refine jd ?_ (jd ?_ rfl)
 .dsimp only;omega
 .first|rfl|(show _ % 18446744073709551616=_;omega)
theorem M9(a b):(if(decide (a<0) != decide (b<0))=true then -(km a*km b)else km a*km b)=a*b:=by unfold km;by_cases ha:a<0<;>by_cases hb:b<0<;>simp[ha,hb,Int.neg_mul,H7]
theorem ZZ{a}(h:cu a):0<=km a/\km a<=9223372036854775808:=by unfold cu at h;unfold km;split<;>omega
theorem Ig{a b A B:Int}(ha:0<=a/\a<=A)(hb:0<=b/\b<=B):0<=a*b/\a*b<=A*B:=⟨jc ha.1 hb.1,wB ha.2 hb.2 hb.1 (by omega)⟩
theorem Uk(z):decide ((wide z).1<0)=decide (z<0):=by refine eF.2 ?_;show z / 18446744073709551616<0↔_;omega
theorem jV{β}[rB β]{a b r:Option β}(ha:a=r)(hb:b=r):aj.gJ a b=r:=by rw[ha,hb];exact alN r
theorem Fp{a b}(ha:cu a)(hb:cu b):Eb a b=some (wide (a*b)):=by
 show pC aj a b=_;unfold pC;have xa:=ZZ ha;have xb:=ZZ hb;have s1:=JQ (wide a) (nL a (vk ha));have s2:=JQ (wide b) (nL b (vk hb));rw[tN]at s1 s2;have hp:=Ig xa xb;have m1:zE (Dn (km a)).2.1 (Dn (km b)).2.1=some (Dn (km a*km b)):=by show zE (km a % 18446744073709551616) (km b % 18446744073709551616)=_;rw[oD xa.1 (by omega),oD xb.1 (by omega),ZY (by omega) (by omega)];rfl
 rw[ai (Mf a ha),ai (Mf b hb),ai s1,ai s2,ai m1]
 have hz:0<=km a*km b/\km a*km b<340282366920938463463374607431768211456:=by
  have:(9223372036854775808:Int)*9223372036854775808=85070591730234615865843651857942052864:=by decide
  omega
 have g:(aj.ae (jm (Dn (km a*km b)) (dq true (decide ((wide a).1<0)==decide ((wide b).1<0)))) λv8=>some v8.1)=some (wide (a*b)):=by
  have e1:dq true (decide (a<0)==decide (b<0))=(decide (a<0) != decide (b<0)):=by rw[XJ];rfl
  rw[Uk,Uk,e1,ai (GS _ _ hz),M9];dsimp only;rw[L9];have:=M9 a b;have h2:(9223372036854775808:Int)*9223372036854775808=85070591730234615865843651857942052864:=by decide
  unfold eN;split at this<;>omega
 refine jV ?_ ?_
 .rw[ai (yc _)];refine jV ?_ ?_
  .rw[ai (yc _),ja];exact g
  .rw[ai (yc _)];exact g
 .rw[ai (yc _),ai (yc _)];exact g
theorem Dy{β}[rB β](e)(f:Bool->Option β):aj.rj e f=akq e f:=rfl
theorem adb{v n}(hv:cu v)(hn:cu n):afR (wide v) n=some (wide (v*n),0,()):=by
 show uB aj (wide v) n=_;unfold uB;have xa:=ZZ hv;have xb:=ZZ hn;have s1:=JQ (wide v) (nL v (vk hv));have s2:=JQ (wide n) (nL n (vk hn));rw[tN]at s1 s2;have hp:=Ig xa xb;have hc:(9223372036854775808:Int)*9223372036854775808=85070591730234615865843651857942052864:=by decide
 have e0:(Dn (km v)).1=0:=by show km v / 18446744073709551616=0;omega
 have e1:(Dn (km v)).2.1=km v:=by show km v % 18446744073709551616=_;omega
 have e2:(Dn (km n)).2.1=km n:=by show km n % 18446744073709551616=_;omega
 rw[ai s1,ai (Mf n hn),ai s2,e0,e1,e2,ai (ZY (x:=0) (by omega) (by omega)),ai (ZY (x:=km v) (by omega) (by omega)),Int.zero_mul]
 have a1:Jw (0 % 18446744073709551616:Int) (km v*km n / 18446744073709551616) 0=some (km v*km n / 18446744073709551616,0,()):=by
  rw[Ul (by omega) (by omega) (by omega) (by omega)];congr 1;refine jd ?_ (jd ?_ rfl)
  .dsimp only;omega
  .dsimp only;omega
 refine yu a1 ?_;rw[ai (yc _),Uk];have e3:dq true (decide (v<0)==decide (n<0))=(decide (v<0) != decide (n<0)):=by rw[XJ];rfl
 show aj.ae (jm (Dn (km v*km n)) (dq true (decide (v<0)==decide (n<0)))) _=_;have hI:eN (v*n):=by have:=M9 v n;unfold eN;split at this<;>omega
 rw[e3,ai (GS _ _ (by omega)),M9];refine tdy hI ?_;rw[aQ (by decide),ai (Um _ _),L9 _ hI];rfl
def pq(t:List bF)(id:Int):Option bF:=t.find? λi=>i.1==id
def al1:bF:=(0,0,0,0,[],())
theorem aoW{s:List Int}(h:s.length<=1000000):EL s=some s:=by
 show jb aj s=_;unfold jb;rw[Dy];refine yj ?_ λhe=>?_
 .refine AP (by decide) ?_;rw[dm (by omega) (by omega)];rfl
 .have:s=[]:=by simpa using he
  subst this;rfl
theorem as0{s}{id}(hl:s.length<=1000000):pU id s=some (zX (λi=>i.1==id) s,id,()):=by show dG aj id s=_;unfold dG;exact ve hl (λi:bF=>i.1==id) (λx (c:Int×Unit)=>K2 aj c.1 x) (id,()) (λx _=>rfl)
theorem Un{s}{id}(hl:s.length<=1000000):as1 s id=some (zX (λi=>i.1==id) s):=by show BG aj s id=_;unfold BG;exact ai (as0 hl) _
theorem O'{i}(h:i.2.2.2.2.1.length<=1000000):adl i=some i:=by show xH aj i=_;unfold xH;exact ai (aoW h) _
theorem Yp{t}{id}(hl:t.length<=1000000)(hm:∀i∈t,i.2.2.2.2.1.length<=1000000):WB t id=some (match pq t id with|some i=>(i,true,())|none=>(al1,false,())):=by
 show qm aj t id=_;unfold qm pq;rw[ai (Un hl)];rcases lx (λi:bF=>i.1==id) t with⟨h1,h2⟩|⟨k,h0,h1,h2,_⟩
 .rw[h1,h2];exact aQ (by decide) _ _
 .rw[h1,h2,cY (by omega),bO h0];exact ai (O' (hm _ (aG h0))) _
theorem po{X β}{f:X->(X->Option β)->Option β}(Q:Option β->Prop)(μ:X->Nat)(R:X->Prop){z:X}(hz:R z)(hm:μ z<18446744073709551616)
 (h:∀z,R z->∀again:X->Option β,(∀z',R z'->μ z'<μ z->Q (again z'))->Q (f z again)):Q (aj.aY f z):=by
 have key:∀n z,R z->μ z<n->Q (yO n f z):=by
  intro n;induction n with
  |zero=>intro z _ h;omega
  |succ n ih=>intro z hz hm;exact h z hz _ λz' Wz hm'=>ih z' Wz (by omega)
 exact key FU z hz (by rw[PZ];exact hm)
theorem as2{X β}{N}(hN:N<9223372036854775808){f:X->(X->Option β)->Option β}(st:Nat->X)(Inv:Nat->Prop)(r:Option β){z0:X}(hz:z0=st 0)(h0:Inv 0)
 (Dw:Inv N->∀again:X->Option β,f (st N) again=r) (tC:∀i,i<N->Inv i->∀again:X->Option β,(Inv (i+1)->again (st (i+1))=r)->f (st i) again=r):aj.aY f z0=r:=by
 subst hz
 have key:∀n i,i<=N->N-i<n->Inv i->yO n f (st i)=r:=by
  intro n;induction n with
  |zero=>intro i _ h;omega
  |succ n ih=>
   intro i hi hn hv;by_cases h:i<N
   .exact tC i h hv _ λhv'=>ih (i+1) (by omega) (by omega) hv'
   .have:i=N:=by omega
    subst this;exact Dw hv _
 exact key FU 0 (bE _) (by rw[PZ];omega) h0
theorem Yv{X β}{Q:Option β->Prop}{k0:X->Option β}{f:(X->Option β)->Option β}(h:∀k,k=k0->Q (f k)):Q (aj.aH k0 f):=h k0 rfl
def okI(i:bF):Prop:=(1<=i.2.1/\i.2.1<=65536)/\(0<=i.2.2.1/\i.2.2.1<2147483648)/\(0<=i.2.2.2.1/\i.2.2.2.1<2147483648)/\i.2.2.2.2.1.length<=8
def VF(t:List bF):Prop:=(∀i∈t,okI i)/\t.length<=10
theorem Yx{β}{b:Int}(h:b≠0)(K:Option β):aj.Ey b K=K:=azq h K
theorem jW{α}{p:α->Bool}{l:List α}(h:∀x∈l,p x=false):l.filter p=[]:=wD.2 λx hx=>by simp[h x hx]
theorem CI{α}{p:α->Bool}{l:List α}(h:∀x∈l,p x=true):l.filter p=l:=lN.2 h
def CG(a b:bf):Prop:=a.1<b.1\/(a.1=b.1/\a.2.1<b.2.1)
instance (a b:bf):Decidable (CG a b):=by unfold CG;infer_instance
def mK(x:bf):Prop:=(1<=x.1/\x.1<=4)/\(0<=x.2.1/\x.2.1<=255)/\0<x.2.2.1
instance (x:bf):Decidable (mK x):=by unfold mK;infer_instance
def Fs(l:List bf):Prop:=(∀x∈l,mK x)/\l.Pairwise CG/\l.length<=16
instance (l:List bf):Decidable (Fs l):=by unfold Fs;infer_instance
def Ob(l:List bf):Bool:=decide (Fs l)
def YG(l:List bg):Prop:=(∀h∈l,h.2.1≠[]/\Fs h.2.1)/\jR (l.map (·.1))
instance (l:List bg):Decidable (YG l):=by unfold YG jR;infer_instance
def DY(l:List bg):Bool:=decide (YG l)
def uS(l:List bf):Prop:=l.length<=20/\∀x∈l,cu x.2.2.1
def HS(l:List bg):Prop:=jR (l.map (·.1))/\∀h∈l,uS h.2.1
def eL:List bg->ar->List bf
 |[],_=>[]
 |h::l,u=>if h.1=u then h.2.1 else eL l u
def eI(l:List bg)(u:ar):List bg:=l.filter λh=>decide (h.1≠u)
theorem adB{l}(h:HS l)(u:ar):HS (eI l u):=by refine⟨?_,λx hx=>h.2 x (aM.1 hx).1⟩;have:List.Sublist ((eI l u).map (·.1)) (l.map (·.1)):=xV _ (fZ);exact dN this h.1
theorem qF{l}(h:∀x∈l,uS x.2.1)(u):uS (eL l u):=by
 induction l with
 |nil=>exact⟨by simp[eL],λx hx=>by cases hx⟩
 |cons x l ih=>
  rw[eL];split
  .exact h x (by simp)
  .exact ih λy hy=>h y (by simp[hy])
theorem Z5(l)(u x):eL (eI l u) x=if x=u then[]else eL l x:=by
 induction l with
 |nil=>simp[eI,eL]
 |cons h l ih=>
  unfold eI at ih ⊢;rw[bu];by_cases hu:h.1=u
  .rw[ag (by simpa using hu),ih,eL];by_cases hx:x=u
   .rw[ah hx,ah hx]
   .rw[ag hx,ag hx,ag λe=>hx (e.symm.trans hu)]
  .rw[ah (by simpa using hu),eL,eL,ih];by_cases hx:h.1=x
   .rw[ah hx,ah hx,ag λe=>hu (hx.trans e)]
   .rw[ag hx,ag hx]
def asR(k:Int)(l:List bf):Int:=iM (λx=>if x.1=k then x.2.2.1 else 0) l
def adC(k:Int)(l:List bg):Int:=iM (λh=>asR k h.2.1) l
theorem adD{l}(hs:jR (l.map (·.1)))(u:ar)(k:Int):adC k (eI l u)+asR k (eL l u)=adC k l:=by
 induction l with
 |nil=>rfl
 |cons h l ih=>
  obtain⟨h1,h2⟩:=bD.1 hs;have ih:=ih h2;unfold eI at ih ⊢;rw[bu,eL];by_cases hu:h.1=u
  .have e:l.filter (λh=>decide (h.1≠u))=l:=lN.2 λx hx=>aq λe=>by have:oJ h.1 x.1:=h1 _ (dp hx);rw[hu,e]at this;exact jv u this
   rw[ag (by simpa using hu),ah hu,e];unfold adC;rw[gB];omega
  .rw[ah (by simpa using hu),ag hu];unfold adC at ih ⊢;rw[gB,gB];omega
theorem Ld{all}:∀{us:List ar} (acc:List aR),(∀u∈us,cu (mR all u))->(BN all us acc).2.1=0
 |[],_,_=>rfl
 |u::us,acc,h=>by
  unfold BN;rw[ah (h u (by simp))];split
  .exact Ld _ λx hx=>h x (by simp[hx])
  .exact Ld _ λx hx=>h x (by simp[hx])
theorem yD{s}(h:s.length<=1000000):lW s=some s:=by
 show dg aj s=_;unfold dg;rw[Dy];refine yj ?_ λhe=>?_
 .refine AP (by decide) ?_;rw[dm (by omega) (by omega)];rfl
 .have:s=[]:=by simpa using he
  subst this;rfl
theorem L3{s}(h:s.length<=1000000):Jf s=some s:=by
 show jn aj s=_;unfold jn;rw[Dy];refine yj ?_ λhe=>?_
 .refine AP (by decide) ?_;rw[dm (by omega) (by omega)];rfl
 .have:s=[]:=by simpa using he
  subst this;rfl
def rC(l:List aD):Prop:=(∀a∈l,a.2.2.2.1.length<=1000)/\l.length<=1000
theorem NZ{l}(h:rC l):adE l=some l:=by
 have hl:=h.2;show qo aj l=_;unfold qo;refine qi (N:=l.length) (by omega) (λi=>((i:Int),l.take i,())) _ rfl ?_ ?_
 .intro again;refine IZ ?_;rw[br]
 .intro i hi again ha;have h2:=h.1 _ (aG hi);have e:LZ (l[i].1,l[i].2.1,l[i].2.2.1,l[i].2.2.2.1,())=some l[i]:=by show nF aj l[i]=_;unfold nF;rw[ai (L3 (by omega))]
  show aj.af (decide ((i:Int)<(l.length:Int))) (aj.aI l (i:Int) λx3=>aj.ae (LZ (x3.1,x3.2.1,x3.2.2.1,x3.2.2.2.1,())) λv4=>aj.bi ((l.take i).length+1) 48 (again (IntKind.i64.wrap ((i:Int)+1),l.take i++[(v4.1,v4.2.1,v4.2.2.1,v4.2.2.2.1,())],()))) _=_;have:(l.take i).length<=1000:=by rw[aX];omega
  rw[dE hi,bO hi,ai e,dm (by omega) (by omega),cU i (by omega)];rw[ax hi]at ha;exact ha
def rz(id:Int)(a:aD):Bool:=decide (a.2.1=id)
def bY(a:aD):List ar:=if a.2.2.1=1 then[(a.1,0,())]else a.2.2.2.1.map λc=>(a.1,c,())
theorem yr{a}(h:a.2.2.2.1.length<=1000):xK (a.1,a.2.1,a.2.2.1,a.2.2.2.1,())=some (bY a):=by
 show jo aj a=_;unfold jo bY;refine dQ (λhk=>?_) λhk=>?_
 .rw[ah hk]
 .rw[ag hk];refine qi (N:=a.2.2.2.1.length) (by omega) (λi=>((i:Int),(a.2.2.2.1.take i).map λc=>((a.1,c,()):ar),())) _ rfl ?_ ?_
  .intro again;refine IZ ?_;rw[br]
  .intro i hi again ha;show aj.af (decide ((i:Int)<(a.2.2.2.1.length:Int))) (aj.aI a.2.2.2.1 (i:Int) λx3=>aj.bi (((a.2.2.2.1.take i).map λc=>((a.1,c,()):ar)).length+1) 16 (again (IntKind.i64.wrap ((i:Int)+1),(a.2.2.2.1.take i).map (λc=>((a.1,c,()):ar))++[(a.1,x3,())],()))) _=_;have:((a.2.2.2.1.take i).map λc=>((a.1,c,()):ar)).length<=1000:=by rw[bh,aX];omega
   rw[dE hi,bO hi,dm (by omega) (by omega),cU i (by omega)];rw[ax hi,cz]at ha;exact ha
theorem Fm{a}(h:a.2.2.2.1.length<=1000):(bY a).length<=1000:=by
 unfold bY;split
 .simp
 .rw[bh];exact h
theorem az5(fm)(hl:fm.length<=1000000):∃r,apy fm=some r:=by
 show ∃r,CV aj fm=some r;unfold CV;refine po (λo=>∃r,o=some r) (λz=>fm.length+1-z.1.toNat) (λz=>∃j:Nat,j<=fm.length/\z=((j:Int),())) ⟨0,bE _,rfl⟩ (by dsimp only;omega) ?_;rintro _ ⟨j,hj,rfl⟩ again ha;show ∃r,aj.af (decide ((j:Int)<(fm.length:Int))) _ _=some r;by_cases h:j<fm.length
 .rw[dE h];show ∃r,aj.aI fm (j:Int) _=some r;rw[bO h];by_cases h0:fm[j]=0
  .rw[az (by simp[h0])];dsimp only;rw[cU j (by omega)];exact ha _ ⟨j+1,by omega,rfl⟩ (by dsimp only;omega)
  .rw[aQ (by simp[h0])];exact⟨_,rfl⟩
 .have:j=fm.length:=by omega
  subst this;rw[dZ];exact⟨_,rfl⟩
theorem apz{α}{f}{l:List α}{i:Nat}(hi:i<l.length)(inv:jR ((l.take i).map f))(h2:∀h0:0<i,oJ (f (l[i-1]'(by omega))) (f l[i])):jR ((l.take (i+1)).map f):=by
 rw[ax hi,cz];refine dM.2 ⟨inv,by simp,λa ha b hb=>?_⟩;simp only[bK,oF,aC]at hb;subst hb;obtain⟨k,hk,hka⟩:=dJ.1 ha;have uY:k<i:=by simp at hk;omega
 have h3:=h2 (by omega);by_cases hki:k=i-1
 .subst hki;rw[<-hka];simpa using h3
 .have h4:=bN.1 inv k (i-1) (by simpa using hk) (by simp;omega) (by omega);rw[hka]at h4;refine s7 h4 ?_;simpa using h3
def lc(l:List bg):Prop:=(∀h∈l,uS h.2.1)/\l.length<=400000
theorem Ac{l}{u}(h:lc l):Il l u=some (eL l u):=by
 have hl:=h.2;show j8 aj l u=_;unfold j8;refine ib (l:=l) (by omega) (s0:=()) (λ_ _=>True) (λl' _=>some (eL l' u)) trivial ?_ ?_
 .rintro _ again _;rw[dZ];rfl
 .rintro i hi _ _ again ha;have h2:=(h.1 _ (aG hi)).1;rw[dE hi,bO hi,Ue,eqA];show _=some (eL (l[i]::l.drop (i+1)) u);rw[eL];refine du (λh=>?_) λh=>?_
  .rw[ah h,ai (yD (by omega))]
  .rw[ag h];dsimp only;rw[cU i (by omega)];exact ha _ trivial
theorem axa{l}{u}(h:lc l):ady l u []=some (eI l u):=by
 have hl:=h.2;show sE aj l u []=_;unfold sE;have one:(aj.ae (lW []) λv1=>
 aj.aY (λz2 gj=>
  aj.af (decide (z2.2.1<(l.length:Int))) (
   aj.aH (λz4=>(gj (z4.1,IntKind.i64.wrap (z2.2.1+1),z2.2.2.1,z2.2.2.2.1,z2.2.2.2.2.1,z4.2.1,())))
    λk5=>aj.aI l z2.2.1 λx6=>
    aj.aH (λz7=>
     aj.af (dq true ((x6.1.1==u.1)&&(x6.1.2.1==u.2.1))) (aj.ae (lW x6.2.1) λv8=>aj.bi (z7.2.1.length+((x6.1,v8,())::[]).length) 40 (k5 (z7.1,z7.2.1++((x6.1,v8,())::[]),())))
      (
      aj.af (!z7.1) (aj.bi (z7.2.1.length+(((z2.2.2.1,z2.2.2.2.1,()),z2.2.2.2.2.1,())::[]).length) 40 (k5 (true,z7.2.1++(((z2.2.2.1,z2.2.2.2.1,()),z2.2.2.2.2.1,())::[]),()))) (k5 (z7.1,z7.2.1,()))))
     λk9=>
     aj.aH (λLe=>
      aj.af Le.1 (aj.bi (Le.2.1.length+(((z2.2.2.1,z2.2.2.2.1,()),z2.2.2.2.2.1,())::[]).length) 40 (k9 (true,Le.2.1++(((z2.2.2.1,z2.2.2.2.1,()),z2.2.2.2.2.1,())::[]),()))) (k9 (z2.1,Le.2.1,())))
      λGJ=>
      aj.af (!z2.1) (aj.ae (Pd u x6.1) λv12=>(GJ (v12,z2.2.2.2.2.2.1,()))) (GJ (false,z2.2.2.2.2.2.1,())))
   (
   aj.aH (λVx=>some Vx.1)
    λWR=>
    aj.af (!z2.1) (aj.bi (z2.2.2.2.2.2.1.length+(((z2.2.2.1,z2.2.2.2.1,()),z2.2.2.2.2.1,())::[]).length) 40 (WR (z2.2.2.2.2.2.1++(((z2.2.2.1,z2.2.2.2.1,()),z2.2.2.2.2.1,())::[]),()))) (WR (z2.2.2.2.2.2.1,()))))
  ((([]:List bf).length:Int)==0,0,u.1,u.2.1,v1,[],()))=some (eI l u):=by
   rw[ai (yD (s:=[]) (by simp))];refine qi (N:=l.length) (by omega) (λi=>(true,(i:Int),u.1,u.2.1,[],eI (l.take i) u,())) _ rfl ?_ ?_
   .intro again;refine IZ ?_;refine bw λWR hk=>?_
    have kk:∀x,WR (x,())=some x:=by intro x;subst hk;rfl
    clear hk;refine AP (by rfl) ?_;rw[kk,br]
   .intro i hi again ha;have h2:=(h.1 _ (aG hi)).1;have hwl:(eI (l.take i) u).length<=400000:=cp (cW _ _) (by rw[aX];omega);refine Jp hi ?_;refine bw λk5 DX=>?_
    have k5':k5 (true,eI (l.take (i+1)) u,())=some (eI l u):=by subst DX;dsimp only;rw[cU i (by omega)];exact ha
    clear DX ha;refine tix hi ?_
    have es:eI (l.take (i+1)) u=if l[i].1=u then eI (l.take i) u else eI (l.take i) u++[l[i]]:=by
     unfold eI;rw[ax hi,fu,bu,qN];by_cases hu:l[i].1=u
     .rw[ah hu,ag (by simpa using hu),cy]
     .rw[ag hu,ah (by simpa using hu)]
    rw[es]at k5';refine bw λk9 RC=>?_
    have k9':k9 (true,eI (l.take i) u,())=some (eI l u):=by
     subst RC;show aj.af (dq true ((l[i].1.1==u.1)&&(l[i].1.2.1==u.2.1))) _ _=_;rw[XJ,eqA];by_cases hu:l[i].1=u
     .rw[ah hu]at k5';rw[az (by simp[hu])];refine AP (by rfl) ?_;exact k5'
     .rw[ag hu]at k5';rw[aQ (by simp[hu]),ai (yD (by omega))];show aj.bi ((eI (l.take i) u).length+1) 40 (k5 (true,eI (l.take i) u++[l[i]],()))=_;rw[dm (by omega) (by omega)];exact k5'
    clear RC;refine bw λGJ Og=>?_
    have arc:GJ (false,eI (l.take i) u,())=some (eI l u):=by subst Og;show aj.af false _ (k9 (true,eI (l.take i) u,()))=_;rw[az rfl];exact k9'
    clear Og;show aj.af (!true) _ (GJ (false,eI (l.take i) u,()))=_;rw[az (by rfl)];exact arc
 exact jV one one
def pu(s:aV):List aR:=s.2.2.2.2.2.2.2.2.2.2.1
def ho(s:aV):List bg:=s.2.2.2.2.2.2.2.2.2.2.2.1
def gE(s:aV)(p:List aR)(h:List bg):aV:=(s.1,s.2.1,s.2.2.1,s.2.2.2.1,s.2.2.2.2.1,s.2.2.2.2.2.1,s.2.2.2.2.2.2.1,s.2.2.2.2.2.2.2.1,s.2.2.2.2.2.2.2.2.1,s.2.2.2.2.2.2.2.2.2.1,p,h,())
def a0b(a:aD):Prop:=1<=a.1/\a.2.2.2.1.Pairwise (· < ·)
def Ec(x y:Int):Int:=if x<y then -1 else if y<x then 1 else 0
theorem Z7(x y):Qj x y=some (Ec x y):=by
 show qp aj x y=_;unfold qp Ec;have e:∀x:Int,XW x=some false:=λx=>by show some (x != x)=_;simp
 rw[ai (e x),ai (e y),az rfl,az rfl];refine du (λh=>?_) λh=>?_
 .rw[ah h]
 .rw[ag h];refine du (λh2=>?_) λh2=>?_
  .rw[ah h2]
  .rw[ag h2]
def orI:List Int->Int
 |[]=>0
 |x::l=>if x=0 then orI l else x
theorem azA(l)(hl:l.length<=1000000):apy l=some (orI l):=by
 show CV aj l=_;unfold CV;refine ib (l:=l) (by omega) (s0:=()) (λ_ _=>True) (λl' _=>some (orI l')) trivial ?_ ?_
 .rintro _ again _;rw[dZ];rfl
 .rintro i hi _ _ again ha;rw[dE hi,bO hi];show _=some (orI (l[i]::l.drop (i+1)));rw[orI];by_cases h0:l[i]=0
  .rw[az (by simp[h0]),ah h0];dsimp only;rw[cU i (by omega)];exact ha _ trivial
  .rw[aQ (by simp[h0]),ag h0]
theorem Ii(a b:bf):JV a b=some (orI [Ec a.1 b.1,Ec a.2.1 b.2.1]):=by show rT aj a b=_;unfold rT;rw[ai (Z7 _ _),ai (Z7 _ _),ai (azA _ (by simp))]
theorem akU(a b:bf):decide (0<=orI [Ec a.1 b.1,Ec a.2.1 b.2.1])=!decide (CG a b):=by
 unfold CG;simp only[orI,Ec];by_cases h1:a.1<b.1
 .simp[h1]
 .by_cases h2:b.1<a.1
  .have h3:¬a.1=b.1:=by omega
   simp[h1,h2,h3]
  .have h3:a.1=b.1:=by omega
   by_cases h4:a.2.1<b.2.1
   .simp[h3,h4]
   .by_cases h5:b.2.1<a.2.1<;>simp[h3,h4,h5]
theorem WJ(x:bf):agm x=some (decide (mK x)):=by
 show uF aj x=_;unfold uF mK;refine du (λh1=>?_) λh1=>?_
 .refine du (λh2=>?_) λh2=>?_
  .refine du (λh3=>?_) λh3=>?_
   .refine du (λh4=>?_) λh4=>?_
    .simp[h1,h2,h3,h4]
    .simp[h4]
   .simp[h3]
  .simp[h2]
 .simp[h1]
def LP(l:List bf):Prop:=(∀x∈l,mK x)/\l.Pairwise CG
theorem aeR{a b c}(h1:CG a b)(h2:CG b c):CG a c:=by unfold CG at *;omega
theorem aiP{l:List bf}{i:Nat}(hi:i<l.length)(inv:LP (l.take i))(h1:mK l[i])(h2:∀h0:0<i,CG (l[i-1]'(by omega)) l[i]):LP (l.take (i+1)):=by
 rw[ax hi];refine⟨λx hx=>?_,?_⟩
 .rcases aT.1 hx with hx|hx
  .exact inv.1 x hx
  .simp at hx;rw[hx];exact h1
 .refine dM.2 ⟨inv.2,by simp,λa ha b hb=>?_⟩;simp only[aC]at hb;subst hb;obtain⟨k,hk,hka⟩:=dJ.1 ha;have uY:k<i:=by simp at hk;omega
  have h3:=h2 (by omega);by_cases hki:k=i-1
  .subst hki;rw[<-hka];simpa using h3
  .have h4:=bN.1 inv.2 k (i-1) (by simpa using hk) (by simp;omega) (by omega);rw[hka]at h4;refine aeR h4 ?_;simpa using h3
theorem asW{l:List bf}(h:LP (l.take l.length)):Ob l=decide ((l.length:Int)<=16):=by rw[br]at h;unfold Ob Fs;refine eF.2 ⟨λh=>by omega,λh3=>⟨h.1,h.2,by omega⟩⟩
theorem ap2{l:List bf}{i:Nat}(hi:i<l.length)(h:¬mK l[i]):Ob l=false:=an λhp=>h (hp.1 _ (aG hi))
theorem ap3{l:List bf}{i:Nat}(hi:i<l.length)(h0:0<i)(h:¬CG (l[i-1]'(by omega)) l[i]):Ob l=false:=an λhp=>h (bN.1 hp.2.1 (i-1) i (by omega) hi (by omega))
theorem Sr{l:List bf}(hl:l.length<=1000000):aiO l=some (Ob l):=by
 show vW aj l=_;unfold vW;refine K6 (N:=l.length) (by omega) (λi _=>LP (l.take i)) (some (Ob l)) (by simp[LP]) ?_ ?_
 .rintro _ again h;rw[dZ,asW h]
 .rintro i hi _ inv again ha;rw[dE hi,bO hi];refine bw λk hk=>?_
  have kt:k (true,())=some false:=by subst hk;rfl
  have kf:k (false,())=again (((i+1:Nat):Int),()):=by rw[<-cU i (by omega)];subst hk;rfl
  rw[ai (WJ _)];by_cases h1:mK l[i]
  .rw[az (by simp[h1])];by_cases h0:0<i
   .rw[eR (by omega),Hs i h0 (by rw[ic];omega),bO (by omega),ai (Ii _ _),ja,akU];by_cases h2:CG (l[i-1]'(by omega)) l[i]
    .rw[aq h2];exact kf.trans (ha _ (aiP hi inv h1 λ_=>h2))
    .rw[an h2,ap3 hi h0 h2];exact kt
   .rw[cY (by omega),ja];exact kf.trans (ha _ (aiP hi inv h1 λh=>absurd h h0))
  .rw[aQ (by simp[h1]),ja,kt,ap2 hi h1]
def HP(l:List bg):Prop:=(∀h∈l,h.2.1≠[]/\Fs h.2.1)/\jR (l.map (·.1))
theorem aiQ{l:List bg}{i:Nat}(hi:i<l.length)(inv:HP (l.take i))(h1:l[i].2.1≠[]/\Fs l[i].2.1)(h2:∀h0:0<i,oJ (l[i-1]'(by omega)).1 l[i].1):HP (l.take (i+1)):=by
 refine⟨λx hx=>?_,apz hi inv.2 h2⟩;rw[ax hi]at hx;rcases aT.1 hx with hx|hx
 .exact inv.1 x hx
 .simp at hx;rw[hx];exact h1
theorem asX{l:List bg}(h:HP (l.take l.length)):DY l=true:=by rw[br]at h;exact aq h
theorem ap4{l:List bg}{i:Nat}(hi:i<l.length)(h:l[i].2.1=[]):DY l=false:=an λhp=>(hp.1 _ (aG hi)).1 h
theorem ap5{l:List bg}{i:Nat}(hi:i<l.length)(h:Ob l[i].2.1=false):DY l=false:=an λhp=>of_decide_eq_false h (hp.1 _ (aG hi)).2
theorem ap6{l:List bg}{i:Nat}(hi:i<l.length)(h0:0<i)(h:¬oJ (l[i-1]'(by omega)).1 l[i].1):DY l=false:=an λhp=>h (by have:=bN.1 hp.2 (i-1) i (by simp;omega) (by simpa using hi) (by omega);simpa using this)
theorem JX{l:List bg}(h:lc l):RH l=some (DY l):=by
 have hl:=h.2;show tE aj l=_;unfold tE;refine K6 (N:=l.length) (by omega) (λi _=>HP (l.take i)) (some (DY l)) (by simp[HP,jR]) ?_ ?_
 .rintro _ again h;rw[dZ,asX h]
 .rintro i hi _ inv again ha;rw[dE hi,bO hi];refine bw λk hk=>?_
  have kt:k (true,())=some false:=by subst hk;rfl
  have kf:k (false,())=again (((i+1:Nat):Int),()):=by rw[<-cU i (by omega)];subst hk;rfl
  by_cases h1:l[i].2.1=[]
  .rw[aQ (by rw[h1];rfl),ja,kt,ap4 hi h1]
  .have hne:((l[i].2.1.length:Int)==0)=false:=by
    cases hc:l[i].2.1 with
    |nil=>exact absurd hc h1
    |cons x xs=>simp;omega
   rw[az hne,ai (Sr (by have:=(h.1 _ (aG hi)).1;omega))];cases hL:Ob l[i].2.1 with
   |false=>rw[aQ (by rfl),ja,kt,ap5 hi hL]
   |true=>
    rw[az (by rfl)];by_cases h0:0<i
    .rw[eR (by omega),Hs i h0 (by rw[ic];omega),bO (by omega),ai (CT _ _),ja];by_cases h2:oJ (l[i-1]'(by omega)).1 l[i].1
     .rw[aq h2];exact kf.trans (ha _ (aiQ hi inv ⟨h1,bM hL⟩ λ_=>h2))
     .rw[an h2,ap6 hi h0 h2];exact kt
    .rw[cY (by omega),ja];exact kf.trans (ha _ (aiQ hi inv ⟨h1,bM hL⟩ λh=>absurd h h0))
theorem akS{l}(h:DY l=true)(u):DY (eI l u)=true:=by have h:=bM h;refine aq ⟨λx hx=>h.1 x (aM.1 hx).1,?_⟩;exact dN ((fZ).map _) h.2
def Jd(u:ar)(l:List bg):List bg:=l.filter λp=>decide (oJ p.1 u)
def aga(u:ar)(l:List bg):List bg:=l.filter λp=>decide (p.1=u)
def BL(u:ar)(l:List bg):List bg:=l.filter λp=>decide (oJ u p.1)
theorem awO(u):∀{l:List bg},jR (l.map (·.1))->l=Jd u l++(aga u l++BL u l)
 |[],_=>rfl
 |p::l,h=>by
  obtain⟨h1,h2⟩:=bD.1 h;have h1:∀x∈l,oJ p.1 x.1:=λx hx=>h1 _ (dp hx)
  have ih:=awO u (l:=l) h2;unfold Jd aga BL at ih ⊢;rw[bu,bu,bu];by_cases hp:oJ p.1 u
  .have e1:¬p.1=u:=λe=>jv u (by rw[e]at hp;exact hp)
   have e2:¬oJ u p.1:=λe=>Dz hp e
   rw[ah (by simpa using hp),ag (by simpa using e1),ag (by simpa using e2),kh,<-ih]
  .by_cases hu:p.1=u
   .have e2:¬oJ u p.1:=by rw[hu];exact jv u
    have a1:∀x∈l,decide (oJ x.1 u)=false:=λx hx=>an λe=>Dz e (by rw[<-hu];exact h1 x hx)
    have a2:∀x∈l,decide (x.1=u)=false:=λx hx=>an λe=>jv u (by have:=h1 x hx;rw[hu,e]at this;exact this)
    have a3:∀x∈l,decide (oJ u x.1)=true:=λx hx=>aq (by rw[<-hu];exact h1 x hx)
    rw[ag (by simpa using hp),ah (by simpa using hu),ag (by simpa using e2),jW a1,jW a2,CI a3];rfl
   .have e2:=cQ λhn=>hu (Fx hp hn)
    have a1:∀x∈l,decide (oJ x.1 u)=false:=λx hx=>an λe=>Dz (s7 e2 (h1 x hx)) e
    have a2:∀x∈l,decide (x.1=u)=false:=λx hx=>an λe=>jv u (by have:=s7 e2 (h1 x hx);rw[e]at this;exact this)
    have a3:∀x∈l,decide (oJ u x.1)=true:=λx hx=>aq (s7 e2 (h1 x hx))
    rw[ag (by simpa using hp),ag (by simpa using hu),ah (by simpa using e2),jW a1,jW a2,CI a3];rfl
theorem avu{l:List bg}(h:jR (l.map (·.1))):(l.map (·.1)).Nodup:=Oh h
theorem akI{l}(h:(l.map (·.1)).Nodup){p}(hp:p∈l):eL l p.1=p.2.1:=by
 induction l with
 |nil=>cases hp
 |cons x l ih=>
  obtain⟨h1,h2⟩:=gb.1 h;rw[eL];rcases aF.1 hp with rfl|hp
  .rw[ah rfl]
  .rw[ag λe=>h1 (by show x.1∈_;rw[e];exact dp hp),ih h2 hp]
theorem agb{l}{u}(h:∀p∈l,p.1≠u):eL l u=[]:=by
 induction l with
 |nil=>rfl
 |cons x l ih=>rw[eL,ag (h x (by simp)),ih λy hy=>h y (by simp[hy])]
theorem aeW{l:List bg}(h:jR (l.map (·.1)))(u:ar):(aga u l=[]/\(∀p∈l,p.1≠u)/\eL l u=[])\/(aga u l=[(u,eL l u,())]/\(u,eL l u,())∈l):=by
 by_cases hex:∃p∈l,p.1=u
 .right;obtain⟨p,hp,rfl⟩:=hex;have e:=akI (avu h) hp;have ep:((p.1,eL l p.1,()):bg)=p:=by rw[e]
  rw[ep];refine⟨?_,hp⟩;have hn:=avu h;clear h e ep;induction l with
  |nil=>cases hp
  |cons x l ih=>
   obtain⟨h1,h2⟩:=gb.1 hn;unfold aga at ih ⊢;rw[bu];rcases aF.1 hp with rfl|hp
   .rw[ah (by simp),jW λy hy=>an λe=>h1 (by show p.1∈_;rw[<-e];exact dp hy)]
   .rw[ag (by simpa using λe=>h1 (by show x.1∈_;rw[e];exact dp hp)),ih hp h2]
 .left;have hne:∀p∈l,p.1≠u:=λp hp e=>hex ⟨p,hp,e⟩
  exact⟨jW λp hp=>an (hne p hp),hne,agb hne⟩
def I1(l:List bg)(u:ar)(now:List bf):List bg:=Jd u l++((if now=[]then[]else[(u,now,())])++BL u l)
theorem Sx{l}(h:jR (l.map (·.1)))(u:ar)(now:List bf):(I1 l u now).length<=l.length+1:=by have hc:=bA List.length (awO u h);unfold I1;rw[ap,ap]at hc;rw[ap,ap];split<;>simp<;>omega
theorem GZ{l}{u}{now}{p}:p∈I1 l u now↔(p∈l/\p.1≠u)\/(now≠[]/\p=(u,now,())):=by
 unfold I1 Jd BL;rw[aT,aT,aM,aM];constructor
 .rintro(⟨h1,h2⟩|h|⟨h1,h2⟩)
  .exact .inl ⟨h1,λe=>jv u (by simp only[bb]at h2;rw[e]at h2;exact h2)⟩
  .split at h
   .cases h
   .rename_i hn;exact .inr ⟨hn,by simpa using h⟩
  .exact .inl ⟨h1,λe=>jv u (by simp only[bb]at h2;rw[e]at h2;exact h2)⟩
 .rintro(⟨h1,h2⟩|⟨hn,rfl⟩)
  .by_cases hlt:oJ p.1 u
   .exact .inl ⟨h1,by simpa using hlt⟩
   .by_cases hgt:oJ u p.1
    .exact .inr (.inr ⟨h1,by simpa using hgt⟩)
    .exact absurd (Fx hlt hgt) h2
  .rw[ag hn];exact .inr (.inl (by simp))
theorem ab3{l}(h:jR (l.map (·.1)))(u:ar)(now:List bf):jR ((I1 l u now).map (·.1)):=by
 unfold I1;rw[cz,cz];have VD:∀x∈(Jd u l).map (·.1),oJ x u:=λx hx=>by obtain⟨p,hp,rfl⟩:=aN.1 hx;simpa using(aM.1 hp).2
 have PG:∀x∈(BL u l).map (·.1),oJ u x:=λx hx=>by obtain⟨p,hp,rfl⟩:=aN.1 hx;simpa using(aM.1 hp).2
 have s1:jR ((Jd u l).map (·.1)):=dN ((fZ).map _) h;have s2:jR ((BL u l).map (·.1)):=dN ((fZ).map _) h
 have ZU:∀x∈(if now=[]then([]:List bg)else[(u,now,())]).map (·.1),x=u:=λx hx=>by
  split at hx
  .cases hx
  .simpa using hx
 refine dM.2 ⟨s1,dM.2 ⟨?_,s2,λa ha b hb=>?_⟩,λa ha b hb=>?_⟩
 .split<;>simp
 .rw[ZU a ha];exact PG b hb
 .rcases aT.1 hb with hb|hb
  .rw[ZU b hb];exact VD a ha
  .exact s7 (VD a ha) (PG b hb)
def vT(u:ar)(now:List bf):List bg->Bool->List bg->List bg
 |[],d,out=>if d=true then out else out++[(u,now,())]
 |p::l,d,out=>
  if d=true\/oJ p.1 u then(if p.1=u then vT u now l d out else vT u now l d (out++[p]))
  else(if p.1=u then vT u now l true (out++[(u,now,())])else vT u now l true (out++[(u,now,())]++[p]))
theorem Na(u)(now):∀(l out:List bg),vT u now l true out=out++l.filter λp=>decide (p.1≠u)
 |[],out=>by rw[vT,ah rfl,qN,cy]
 |p::l,out=>by
  rw[vT,ah (.inl rfl),bu];by_cases h:p.1=u
  .rw[ah h,Na u now l,ag (by simpa using h)]
  .rw[ag h,Na u now l,ah (by simpa using h),bq];rfl
theorem aiF{u}{l:List bg}(h:jR (l.map (·.1))):(l.filter λp=>decide (p.1≠u))=Jd u l++BL u l:=by
 have e:=awO u h
 have a1:(Jd u l).filter (λp=>decide (p.1≠u))=Jd u l:=CI λx hx=>aq λe=>by
  have:=(aM.1 hx).2
  simp only[bb]at this
  rw[e]at this;exact jv u this
 have a2:(aga u l).filter (λp=>decide (p.1≠u))=[]:=jW λx hx=>an λhn=>by
  have:=(aM.1 hx).2
  simp only[bb]at this
  exact hn this
 have a3:(BL u l).filter (λp=>decide (p.1≠u))=BL u l:=CI λx hx=>aq λe=>by
  have:=(aM.1 hx).2
  simp only[bb]at this
  rw[e]at this;exact jv u this
 calc (l.filter λp=>decide (p.1≠u))=(Jd u l++(aga u l++BL u l)).filter (λp=>decide (p.1≠u)):=by rw[<-e]
  _=Jd u l++BL u l:=by rw[fu,fu,a1,a2,a3];rfl
theorem aiG(u)(now:List bf):∀(l out:List bg),jR (l.map (·.1))->vT u now l false out=out++(Jd u l++([(u,now,())]++BL u l))
 |[],out,_=>by rw[vT,ag (by simp)];rfl
 |p::l,out,h=>by
  obtain⟨h1,h2⟩:=bD.1 h;have h1:∀x∈l,oJ p.1 x.1:=λx hx=>h1 _ (dp hx)
  rw[vT];by_cases hp:oJ p.1 u
  .have hu:¬p.1=u:=λe=>jv u (by rw[e]at hp;exact hp)
   rw[ah (.inr hp),ag hu,aiG u now l _ h2];have e1:Jd u (p::l)=p::Jd u l:=by unfold Jd;rw[bu,ah (by simpa using hp)]
   have e2:BL u (p::l)=BL u l:=by unfold BL;rw[bu,ag (by simpa using λe=>Dz hp e)]
   rw[e1,e2,bq];rfl
  .rw[ag (by simpa using hp)]
   have hge:∀x∈p::l,¬oJ x.1 u:=by
    intro x hx hxu;rcases aF.1 hx with rfl|hx
    .exact hp hxu
    .exact hp (s7 (h1 x hx) hxu)
   have e1:Jd u (p::l)=[]:=jW λx hx=>an (hge x hx)
   have e2:=aiF (u:=u) h;rw[e1,dA]at e2;rw[e1,<-e2,bu];by_cases hu:p.1=u
   .rw[ah hu,ag (by simpa using hu),Na,bq];rfl
   .rw[ag hu,ah (by simpa using hu),Na];simp only[bq,dA,kh]
theorem akJ{l}(h:jR (l.map (·.1)))(u:ar)(now:List bf):vT u now l (decide (now=[])) []=I1 l u now:=by
 unfold I1;by_cases h0:now=[]
 .rw[aq h0,Na,ah h0,aiF h];rfl
 .rw[an h0,aiG u now l [] h,ag h0];rfl
def PI(l:List bg)(f t:ar):List bg×Int×Unit:=if DY l=true then(if f=t then([],24,())else if eL l t=[]then(I1 (I1 l f []) t (eL l f),0,())else([],21,()))else([],3,())
theorem asF{l}(h:DY l=true):jR (l.map (·.1)):=(bM h).2
theorem Sw{l}(h:lc l)(hl:l.length<=390000)(hs:jR (l.map (·.1)))(u:ar){all:List bf}(ha:uS all):lc (I1 l u all):=
 ⟨λp hp=>by
  rcases GZ.1 hp with⟨h1,_⟩|⟨_,rfl⟩
  .exact h.1 p h1
  .exact ha,by have:=Sx hs u all;omega⟩
theorem Ad:uS []:=⟨by simp,λx hx=>by cases hx⟩
def G9(l:List bz)(u:ar):List bz:=l.filter λc=>decide (c.1≠u)
theorem vd(v x:ar):dq false ((v.1==x.1)&&(v.2.1==x.2.1))=decide (v=x):=by rw[Ue];exact eqA v x
theorem YE{l}{u}{all}(h:lc l)(hs:jR (l.map (·.1)))(wX:all.length<=1000):ady l u all=some (I1 l u all):=by
 have hl:=h.2;show sE aj l u all=_;unfold sE;rw[<-akJ hs];refine jV ?_ ?_<;>
 .rw[ai (yD (s:=all) (by omega))]
  have hz:((all.length:Int)==0)=decide (all=[]):=by
   cases all with
   |nil=>rfl
   |cons x xs=>simp;omega
  rw[hz];refine ni (l:=l) (s0:=(decide (all=[]),[])) (by omega) (λi (z:Bool×List bg)=>(z.1,(i:Int),u.1,u.2.1,all,z.2,())) (λi z=>z.2.length<=2*i) (λl' z=>some (vT u all l' z.1 z.2)) rfl (by simp) ?_ ?_
  .rintro⟨d,out⟩ ho again;refine IZ ?_;refine bw λk hk=>?_
   have kk:∀x,k (x,())=some x:=by intro x;subst hk;rfl
   clear hk;simp only at ho;show aj.af (!d) (aj.bi (out.length+1) 40 (k (out++[(u,all,())],()))) (k (out,()))=some (vT u all [] d out);cases d with
   |true=>rw[az (by rfl),kk,vT,ah rfl]
   |false=>rw[aQ (by rfl),dm (by omega) (by omega),kk,vT,ag (by decide)]
  .rintro i hi ⟨d,out⟩ ho again ha;simp only at ho;have h2:=(h.1 _ (aG hi)).1;refine Jp hi ?_;refine bw λk5 DX=>?_
   have k5':∀(d':Bool) (CB:List bg),CB.length<=2*(i+1)->k5 (d',CB,())=some (vT u all (l.drop (i+1)) d' CB):=by intro d' CB ho';rw[<-ha (d',CB) ho'];subst DX;dsimp only;rw[cU i (by omega)]
   clear DX ha;refine tix hi ?_;rw[vT];refine bw λk9 RC=>?_
   have k9u:l[i].1=u->∀(d':Bool) (CB:List bg),CB.length<=2*i+1->k9 (d',CB,())=some (vT u all (l.drop (i+1)) true (if d'=true then CB else CB++[(u,all,())])):=by
    intro hu d' CB ho';subst RC;show aj.af (dq true ((l[i].1.1==u.1)&&(l[i].1.2.1==u.2.1))) _ _=_;rw[XJ,eqA,az (by simp[hu])];show aj.af (!d') (aj.bi (CB.length+1) 40 (k5 (true,CB++[(u,all,())],()))) (k5 (d',CB,()))=_;cases d' with
    |true=>rw[az (by rfl),ah rfl,k5' true CB (by omega)]
    |false=>rw[aQ (by rfl),ag (by decide),dm (by omega) (by omega),k5' true _ (by rw[ap];simp;omega)]
   have k9n:¬l[i].1=u->∀(d':Bool) (CB:List bg),CB.length<=2*i+1->k9 (d',CB,())=some (vT u all (l.drop (i+1)) d' (CB++[l[i]])):=by intro hu d' CB ho';subst RC;show aj.af (dq true ((l[i].1.1==u.1)&&(l[i].1.2.1==u.2.1))) _ _=_;rw[XJ,eqA,aQ (by simp[hu]),ai (yD (by omega))];show aj.bi (CB.length+1) 40 (k5 (d',CB++[l[i]],()))=_;rw[dm (by omega) (by omega),k5' d' _ (by rw[ap];simp;omega)]
   clear RC;refine bw λGJ Og=>?_
   have a0V:GJ (true,out,())=k9 (true,out++[(u,all,())],()):=by subst Og;show aj.af true (aj.bi (out.length+1) 40 (k9 (true,out++[(u,all,())],()))) _=_;rw[aQ rfl,dm (by omega) (by omega)]
   have azx:GJ (false,out,())=k9 (d,out,()):=by subst Og;show aj.af false _ (k9 (d,out,()))=_;rw[az rfl]
   clear Og;show aj.af (!d) (aj.ae (Pd u l[i].1) λv=>GJ (v,out,())) (GJ (false,out,()))=_;cases d with
   |true=>
    rw[az (by rfl),azx,ah (.inl rfl)];by_cases hu:l[i].1=u
    .rw[ah hu,k9u hu true out (by omega),ah rfl]
    .rw[ag hu,k9n hu true out (by omega)]
   |false=>
    rw[aQ (by rfl),ai (CT _ _)];by_cases hlt:oJ u l[i].1
    .have hn:¬oJ l[i].1 u:=λe=>Dz hlt e
     have hu:¬l[i].1=u:=λe=>jv u (by rw[e]at hlt;exact hlt)
     rw[aq hlt,a0V,k9n hu true _ (by rw[ap];simp;omega),ag (by simpa using hn),ag hu]
    .rw[an hlt,azx];by_cases hu:l[i].1=u
     .have hn:¬oJ l[i].1 u:=by rw[hu];exact jv u
      rw[k9u hu false out (by omega),ag (by decide),ag (by simpa using hn),ah hu]
     .have hn:oJ l[i].1 u:=cQ λhn=>hu (Fx hn hlt)
      rw[k9n hu false out (by omega),ah (.inr hn),ag hu]
theorem at3(a)(id):ajk id a=some (!(rz id a),id,()):=by show some (a.2.1 != id,id,())=_;unfold rz;by_cases h:a.2.1=id<;>simp[h]
theorem ax3{l}{id}(hl:l.length<=1000000):
 (iu id l=some (-1,id,())/\∀a∈l,rz id a=true)\/
 ∃i:Nat,i<l.length/\iu id l=some ((i:Int),id,())/\(∀a∈l.take i,rz id a=true)/\∀h:i<l.length,rz id l[i]=false:=by
 show(cC aj id l=_/\_)\/∃i:Nat,_/\cC aj id l=_/\_;unfold cC;refine po (λo=>(o=some ((-1:Int),id,())/\∀a∈l,rz id a=true)\/∃i:Nat,i<l.length/\o=some ((i:Int),id,())/\(∀a∈l.take i,rz id a=true)/\∀h:i<l.length,rz id l[i]=false) (λz=>l.length+1-z.1.toNat) (λz=>∃j:Nat,j<=l.length/\z=((j:Int),id,())/\∀a∈l.take j,rz id a=true) ⟨0,bE _,rfl,by simp⟩ (by dsimp only;omega) ?_;rintro _ ⟨j,hj,rfl,hp⟩ again ha;show(aj.af (decide ((j:Int)<(l.length:Int))) _ _=_/\_)\/∃i:Nat,_/\aj.af (decide ((j:Int)<(l.length:Int))) _ _=_/\_;by_cases h:j<l.length
 .rw[dE h];show(aj.aI l (j:Int) _=_/\_)\/∃i:Nat,_/\aj.aI l (j:Int) _=_/\_;rw[bO h,ai (show xg aj id l[j]=_ from at3 _ _)];by_cases hv:rz id l[j]=true
  .rw[hv,az (by rfl)];dsimp only;rw[cU j (by omega)];refine ha _ ⟨j+1,by omega,rfl,λa hm=>?_⟩ (by dsimp only;omega);rw[ax h]at hm;rcases aT.1 hm with hm|hm
   .exact hp a hm
   .simp only[aC]at hm;subst hm;exact hv
  .have hv:rz id l[j]=false:=by simpa using hv
   rw[hv,aQ (by rfl)];exact .inr ⟨j,h,rfl,hp,λ_=>hv⟩
 .have:j=l.length:=by omega
  subst this;rw[dZ];rw[br]at hp;exact .inl ⟨rfl,hp⟩
theorem auM{l}{id}(hl:l.length<=1000000):mE id l=some (l.filter (rz id),id,()):=by
 show dd aj id l=_;unfold dd;rcases ax3 (id:=id) hl with⟨e,hall⟩|⟨i0,hi0,e,hp,hn⟩
 .rw[ai e,aQ (by rfl),lN.2 hall]
 .rw[ai e,az (show((i0:Int) == -1)=false by simp)];have auN:=hi0;have hf0:(l.take (i0+1)).filter (rz id)=l.take i0:=by rw[ax hi0,fu,lN.2 hp,bu,hn hi0];simp
  have hz:((i0:Int),IntKind.i64.wrap ((i0:Int)+1),id,l,())=(((i0:Nat):Int),((i0+1:Nat):Int),id,l,()):=by rw[cU i0 (by omega)]
  show aj.aY _ ((i0:Int),IntKind.i64.wrap ((i0:Int)+1),id,l,())=_;rw[hz];refine(iH (λz=>l.length+1-z.2.1.toNat) (λz=>∃(i j:Nat) (s:List aD),i<j/\j<=l.length/\s.length=l.length/\s.take i=(l.take j).filter (rz id)/\s.drop j=l.drop j/\z=((i:Int),(j:Int),id,s,())) (λ_=>some (l.filter (rz id),id,())) ⟨i0,i0+1,l,by omega,auN,rfl,hf0.symm,rfl,rfl⟩ (by dsimp only;omega) ?_);rintro _ ⟨i,j,s,hij,hj,hs,ht,hd,rfl⟩ again ha;show aj.af (decide ((j:Int)<(s.length:Int))) _ _=_;by_cases h:j<s.length
  .have LY:j<l.length:=by omega
   have hx:s[j]=l[j]:=by
    have h1:(s.drop j)[0]?=(l.drop j)[0]?:=by rw[hd]
    rw[cF,cF,gY,aw h,aw LY]at h1;exact cJ h1
   rw[dE h];refine bw λk5 DX=>?_
   have kk:∀(i':Nat) (s':List aD),i'<j+1->s'.length=l.length->s'.take i'=(l.take (j+1)).filter (rz id)->s'.drop (j+1)=l.drop (j+1)->k5 ((i':Int),id,s',())=some (l.filter (rz id),id,()):=by intro i' s' g1 g2 g3 g4;subst DX;dsimp only;rw[cU j (by omega)];exact ha _ ⟨i',j+1,s',by omega,by omega,g2,g3,g4,rfl⟩ (by dsimp only;omega)
   clear DX ha
   have hd1:s.drop (j+1)=l.drop (j+1):=by
    have:=bA (List.drop 1) hd
    rwa [na,na]at this
   have il:i<s.length:=by omega
   refine tix h ?_;refine tnt h ?_;rw[hx,ai (show xg aj id l[j]=_ from at3 _ _)];by_cases hv:rz id l[j]=true
   .rw[hv,aQ (by rfl)];refine tix il ?_;refine tnt il ?_;dsimp only;rw[aU,cU i (by omega)];refine kk (i+1) (s.set i l[j]) (by omega) (by rw[fG];exact hs) ?_ ?_
    .rw[ax LY,fu,<-ht,bu,hv,qN,ah rfl];have h1:i<(s.set i l[j]).length:=by rw[fG];exact il
     rw[ax h1,q6];congr 1;rw[zT (au _)]
    .rw[zU (by omega)];exact hd1
   .have hv:rz id l[j]=false:=by simpa using hv
    rw[hv,az (by rfl)];refine kk i s (by omega) hs ?_ hd1;rw[ax LY,fu,bu,hv,ht];simp
  .have:j=s.length:=by omega
   subst this;have Wx:=hs;rw[dZ];show aj.kY (i:Int) s.length _=_;rw[Jo (by omega) (by omega),aU];show aj.kY (i:Int) s.length _=_;rw[Jo (by omega) (by omega),aU];show aj.kY (i:Int) (s.take i++List.replicate (s.length-i) (0,0,0,[],())).length _=_;have hlt:(s.take i).length=i:=by rw[aX];omega
   rw[Jo (by omega) (by rw[ap,hlt];omega),aU];dsimp only;rw[kL (by omega),Cf,Nat.min_self,ht,Wx,br]
theorem aaP{l}{id}(h:rC l):Yj l id=some (l.filter (rz id)):=by show vb aj l id=_;unfold vb;have hl:=h.2;rw[ai (NZ h),ai (auM (by omega))]
def nl(a b:bf):Prop:=a.1=b.1/\a.2.1=b.2.1
instance (a b:bf):Decidable (nl a b):=by unfold nl;infer_instance
def Ma(l:List bf):Prop:=l.Pairwise CG
def fM(x:bf)(l:List bf):List bf:=l.filter λy=>decide (CG y x)
def Cp(x:bf)(l:List bf):List bf:=l.filter λy=>decide (nl y x)
def CH(x:bf)(l:List bf):List bf:=l.filter λy=>decide (CG x y)
theorem abk(x):∀{l:List bf},Ma l->l=fM x l++(Cp x l++CH x l)
 |[],_=>rfl
 |y::l,h=>by
  obtain⟨h1,h2⟩:=bD.1 h;have ih:=abk x h2;unfold fM Cp CH at ih ⊢;rw[bu,bu,bu];by_cases hp:CG y x
  .have e1:¬nl y x:=by unfold CG at hp;unfold nl;omega
   have e2:¬CG x y:=by unfold CG at hp ⊢;omega
   rw[ah (by simpa using hp),ag (by simpa using e1),ag (by simpa using e2)];exact bA (y::·) ih
  .have a1:∀z∈l,decide (CG z x)=false:=λz hz=>an λe=>hp (aeR (h1 z hz) e)
   by_cases hs:nl y x
   .have e2:¬CG x y:=by unfold nl at hs;unfold CG;omega
    have a2:∀z∈l,decide (nl z x)=false:=λz hz=>an λe=>by have:=h1 z hz;unfold CG at this;unfold nl at hs e;omega
    have a3:∀z∈l,decide (CG x z)=true:=λz hz=>aq (by have:=h1 z hz;unfold CG at this ⊢;unfold nl at hs;omega)
    rw[ag (by simpa using hp),ah (by simpa using hs),ag (by simpa using e2),jW a1,jW a2,CI a3];rfl
   .have e2:CG x y:=by unfold CG at hp ⊢;unfold nl at hs;omega
    have a2:∀z∈l,decide (nl z x)=false:=λz hz=>an λe=>by have:=h1 z hz;unfold CG at this e2;unfold nl at e;omega
    have a3:∀z∈l,decide (CG x z)=true:=λz hz=>aq (aeR e2 (h1 z hz))
    rw[ag (by simpa using hp),ag (by simpa using hs),ah (by simpa using e2),jW a1,jW a2,CI a3];rfl
def yA:List bf->Int->Int->Int
 |[],_,_=>0
 |y::l,a,t=>if y.1=a/\y.2.1=t then y.2.2.1 else yA l a t
theorem Oa{l}{x}(h:Cp x l=[]):yA l x.1 x.2.1=0:=by
 induction l with
 |nil=>rfl
 |cons y l ih=>
  unfold Cp at h ih;rw[bu]at h;by_cases hs:nl y x
  .rw[ah (by simpa using hs)]at h;cases h
  .rw[ag (by simpa using hs)]at h;unfold nl at hs;rw[yA,ag hs,ih h]
theorem ajz{l}{x y}{m}(h:Cp x l=y::m):yA l x.1 x.2.1=y.2.2.1:=by
 induction l with
 |nil=>cases h
 |cons z l ih=>
  unfold Cp at h ih;rw[bu]at h;by_cases hs:nl z x
  .rw[ah (by simpa using hs)]at h;obtain⟨rfl,_⟩:=List.cons.inj h;unfold nl at hs;rw[yA,ah hs]
  .rw[ag (by simpa using hs)]at h;unfold nl at hs;rw[yA,ag hs,ih h]
theorem Sn{l}(h:Ma l)(x:bf):Cp x l=[]\/∃y,Cp x l=[y]/\nl y x/\y∈l:=by
 cases e:Cp x l with
 |nil=>exact .inl rfl
 |cons y m=>
  have hy:y∈Cp x l:=by rw[e];simp
  have hy2:=aM.1 hy;have hs:nl y x:=by simpa using hy2.2
  refine .inr ⟨y,?_,hs,hy2.1⟩;have hp:Ma (Cp x l):=dN fZ h;rw[e]at hp;cases m with
  |nil=>rfl
  |cons z m=>
   have h1:=(bD.1 hp).1 z (by simp);have hz:z∈Cp x l:=by rw[e];simp
   have hz2:nl z x:=by simpa using(aM.1 hz).2
   unfold CG at h1;unfold nl at hs hz2;omega
def Gv(l:List bf)(x:bf):List bf:=fM x l++((if x.2.2.1=0 then[]else[x])++CH x l)
theorem avj{l}(h:Ma l)(x:bf){i:Nat}(hi:i<l.length):(CG l[i] x↔i<(fM x l).length):=by
 have e:=abk x h
 have hr:∀y∈Cp x l++CH x l,¬CG y x:=λy hy hl=>by
  rcases aT.1 hy with hy|hy
  .have:=(aM.1 hy).2;simp only[bb]at this;unfold CG at hl;unfold nl at this;omega
  .have:=(aM.1 hy).2;simp only[bb]at this;unfold CG at hl this;omega
 have hl:∀y∈fM x l,CG y x:=λy hy=>by simpa using(aM.1 hy).2
 generalize fM x l=a at *;generalize Cp x l++CH x l=b at *;subst e;by_cases hia:i<a.length
 .rw[tL hia];exact⟨λ_=>hia,λ_=>hl _ (aG _)⟩
 .rw[nE (by omega)];exact⟨λhh=>absurd hh (hr _ (aG _)),λhh=>absurd hh hia⟩
theorem YA{l}(h:Ma l)(x:bf):(∃hi:(fM x l).length<l.length,nl l[(fM x l).length] x/\Cp x l=[l[(fM x l).length]])\/(Cp x l=[]/\∀hi:(fM x l).length<l.length,¬nl l[(fM x l).length] x):=by
 have e:=abk x h;rcases Sn h x with hm|⟨y,hm,hs,_⟩
 .right;refine⟨hm,λhi hs=>?_⟩;have:l[(fM x l).length]∈Cp x l:=aM.2 ⟨aG hi,by simpa using hs⟩;rw[hm]at this;cases this
 .left;rw[hm]at e;have hlen:(fM x l).length<l.length:=by have:=bA List.length e;simp at this;omega
  have hy:l[(fM x l).length]=y:=by
   have h1:l[(fM x l).length]?=some y:=by
    have:(fM x l++([y]++CH x l))[(fM x l).length]?=some y:=by simp
    rwa [<-e]at this
   rw[aw hlen]at h1;exact cJ h1
  exact⟨hlen,by rw[hy];exact⟨hs,hm⟩⟩
theorem WG{l}(h:Ma l){x:bf}(hi:(fM x l).length<l.length)(hs:nl l[(fM x l).length] x)(q:Int)(hq:q≠0):
 l.set (fM x l).length (x.1,x.2.1,q,())=Gv l (x.1,x.2.1,q,()):=by
 have e:=abk x h
 have hm:Cp x l=[l[(fM x l).length]]:=by
  rcases YA h x with⟨_,_,hm⟩|⟨_,hn⟩
  .exact hm
  .exact absurd hs (hn hi)
 generalize hy:l[(fM x l).length]=y at hm;have e3:Gv l (x.1,x.2.1,q,())=fM x l++([(x.1,x.2.1,q,())]++CH x l):=by unfold Gv;rw[ag hq];rfl
 rw[e3];rw[hm]at e;have e4:l.set (fM x l).length (x.1,x.2.1,q,())=(fM x l++([y]++CH x l)).set (fM x l).length (x.1,x.2.1,q,()):=by rw[<-e]
 rw[e4,q7 _ _ (au _),Av];rfl
theorem aj0{l}(h:Ma l){x:bf}(hi:(fM x l).length<l.length)(hs:nl l[(fM x l).length] x):
 l.take (fM x l).length++l.drop ((fM x l).length+1)=fM x l++CH x l:=by
 have e:=abk x h
 have hm:Cp x l=[l[(fM x l).length]]:=by
  rcases YA h x with⟨_,_,hm⟩|⟨_,hn⟩
  .exact hm
  .exact absurd hs (hn hi)
 generalize hy:l[(fM x l).length]=y at hm;rw[hm]at e;generalize fM x l=a at *;generalize CH x l=b at *;subst e;simp
theorem aj1{l}(h:Ma l){x:bf}(hm:Cp x l=[]):
 l.take (fM x l).length++x::l.drop (fM x l).length=fM x l++(x::CH x l):=by
 have e:=abk x h;rw[hm]at e;generalize fM x l=a at *;generalize CH x l=b at *;subst e;simp
def pv(x:bf):Int:=x.2.2.1
def cI(a:gT):Int:=a.2.1
def QL(l:List bf)(x:bf):List bf×Int×Unit:=if Ob l=true then if mK x then if cu (yA l x.1 x.2.1+x.2.2.1)then if yA l x.1 x.2.1=0/\l.length=16 then([],25,())else(Gv l (x.1,x.2.1,yA l x.1 x.2.1+x.2.2.1,()),0,())else([],7,())else([],2,())else([],3,())
def Ea(l:List bf)(x:bf):List bf×Int×Unit:=if Ob l=true then if mK x then if yA l x.1 x.2.1<x.2.2.1 then([],23,())else(Gv l (x.1,x.2.1,yA l x.1 x.2.1-x.2.2.1,()),0,())else([],2,())else([],3,())
def Ab(l:List bg)(u:ar)(x:bf):List bg×Int×Unit:=if DY l=true then if(QL (eL l u) x).2.1=0 then(I1 l u (QL (eL l u) x).1,0,())else([],(QL (eL l u) x).2.1,())else([],3,())
def qE(l:List bg)(u:ar)(x:bf):List bg×Int×Unit:=if DY l=true then if(Ea (eL l u) x).2.1=0 then(I1 l u (Ea (eL l u) x).1,0,())else([],(Ea (eL l u) x).2.1,())else([],3,())
def F9(l:List bg)(f t:ar)(x:bf)(tag:Int):List bg×Int×Unit:=if DY l=true then if f=t then([],24,())else if(qE l f x).2.1=0 then Ab (qE l f x).1 t (x.1,tag,x.2.2.1,())else([],(qE l f x).2.1,())else([],3,())
def zA:gT:=(0,0,0,())
def iw:List gT->Int->gT×Bool×Unit
 |[],_=>(zA,false,())
 |a::l,k=>if a.1=k then(a,true,())else iw l k
def vl(as:List gT):List bf->List Int->List Int×Int×Unit
 |[],acc=>(acc,0,())
 |x::l,acc=>if(iw as x.1).2.1=true then if cu (pv x*cI (iw as x.1).1)then vl as l (acc++[pv x*cI (iw as x.1).1])else([],7,())else([],11,())
def Fq(as:List gT)(l:List bf):Int×Int×Unit:=if Ob l=true then if(vl as l []).2.1=0 then cZ (vl as l []).1.sum else(0,(vl as l []).2.1,())else(0,3,())
def gG(p:List aR)(u:ar):Int×Int×Unit:=if ig p u = -9223372036854775808 then(0,7,())else if ig p u<0 then(- ig p u,0,())else(0,0,())
def CJ(as:List gT)(p:List aR)(h:List bg)(u:ar):Int×Int×Unit:=if(Fq as (eL h u)).2.1=0 then if cu ((Fq as (eL h u)).1+ig p u)then(max 0 ((Fq as (eL h u)).1+ig p u),0,())else(0,7,())else(0,(Fq as (eL h u)).2.1,())
abbrev PH:=List aR×List bg×Int
def tU:ar:=(0,1,())
def fU:ar:=(0,0,())
def RD(m d:Int):Int := -((-m) / d)
def tq(as:List gT)(u:ar)(x:bf)(m:Int)(p:List aR)(h:List bg):PH:=if(iw as x.1).2.1=true then if cI (iw as x.1).1=0 then(p,h,0)else if cu (min (RD m (cI (iw as x.1).1)) (pv x)*cI (iw as x.1).1)then if(F9 h u tU (x.1,x.2.1,min (RD m (cI (iw as x.1).1)) (pv x),()) 0).2.1=0 then if(jh p tU u (min (RD m (cI (iw as x.1).1)) (pv x)*cI (iw as x.1).1)).2.1=0 then((jh p tU u (min (RD m (cI (iw as x.1).1)) (pv x)*cI (iw as x.1).1)).1,(F9 h u tU (x.1,x.2.1,min (RD m (cI (iw as x.1).1)) (pv x),()) 0).1,0)else([],[],(jh p tU u (min (RD m (cI (iw as x.1).1)) (pv x)*cI (iw as x.1).1)).2.1)else([],[],(F9 h u tU (x.1,x.2.1,min (RD m (cI (iw as x.1).1)) (pv x),()) 0).2.1)else([],[],7)else([],[],11)
def nw(as:List gT)(u:ar)(cash:Int):List bf->List aR->List bg->PH
 |[],p,h=>(p,h,0)
 |x::l,p,h=>if cu (cash-ig p u)then if 0<cash-ig p u then
  if(tq as u x (cash-ig p u) p h).2.2=0 then nw as u cash l (tq as u x (cash-ig p u) p h).1 (tq as u x (cash-ig p u) p h).2.1 else([],[],(tq as u x (cash-ig p u) p h).2.2)
  else nw as u cash l p h else([],[],7)
def l8(as:List gT)(p:List aR)(h:List bg)(u:ar)(cash:Int):PH:=if ya p=true/\DY h=true then if u=tU then([],[],2)else nw as u cash (eL h u) p h else([],[],3)
abbrev ye:=ar×ar×Int×Unit
abbrev Oc:=List aR×List bg×List ye×Int
def CK(as:List gT)(p:List aR)(h:List bg)(by' to:ar)(n:Int):Oc:=if n=0 then(p,h,[],0)else if(l8 as p h by' n).2.2=0 then if(jh (l8 as p h by' n).1 by' to n).2.1=0 then((jh (l8 as p h by' n).1 by' to n).1,(l8 as p h by' n).2.1,[(by',to,n,())],0)else([],[],[],(jh (l8 as p h by' n).1 by' to n).2.1)else([],[],[],(l8 as p h by' n).2.2)
def JS(as:List gT)(p:List aR)(h:List bg)(by' to:ar):Oc:=if(gG p to).2.1=0 then if(CJ as p h by').2.1=0 then if by'=to then(p,h,[],0)else CK as p h by' to (min (gG p to).1 (CJ as p h by').1)else([],[],[],(CJ as p h by').2.1)else([],[],[],(gG p to).2.1)
def QM(as:List gT)(p:List aR)(h:List bg)(u:ar):Oc:=if(gG p u).2.1=0 then if(l8 as p h u 0).2.2=0 then if(gG p u).1=(gG (l8 as p h u 0).1 u).1 then((l8 as p h u 0).1,(l8 as p h u 0).2.1,[],0)else((l8 as p h u 0).1,(l8 as p h u 0).2.1,[(u,u,(gG p u).1-(gG (l8 as p h u 0).1 u).1,())],0)else([],[],[],(l8 as p h u 0).2.2)else([],[],[],(gG p u).2.1)
theorem Mb{l}{k}(hl:l.length<=1000):JT l k=some (iw l k):=by
 show jM aj l k=_;unfold jM;refine ib (l:=l) (by omega) (s0:=()) (λ_ _=>True) (λl' _=>some (iw l' k)) trivial ?_ ?_
 .rintro _ again _;rw[dZ];rfl
 .rintro i hi _ _ again ha;rw[dE hi,bO hi];show _=some (iw (l[i]::l.drop (i+1)) k);rw[iw];by_cases h:l[i].1=k
  .rw[aQ (by simp[h]),ah h]
  .rw[az (by simp[h]),ag h];dsimp only;rw[cU i (by omega)];exact ha _ trivial
def qf(a:gT):Prop:=(1<=a.1/\a.1<=4)/\(0<=a.2.1/\a.2.1<=2147483647)/\(0<=a.2.2.1/\a.2.2.1<=10000)
instance (a:gT):Decidable (qf a):=by unfold qf;infer_instance
theorem Sp(p):Mc p=some (decide (0<=p)&&decide (p<=2147483647)):=by
 show ko aj p=_;unfold ko;refine du (λh=>?_) λh=>?_
 .rw[aq h];rfl
 .rw[an h];rfl
theorem Od{a}(h:qf a):PD a=some 0:=by
 obtain⟨⟨h1,h2⟩,⟨h3,h4⟩,h5,h6⟩:=h;show kr aj a=_;unfold kr;refine bw λk hk=>?_
 have kf:k (false,())=some 0:=by subst hk;rfl
 rw[cY (by omega),cY (by omega),ai (Sp _),aq h3,aq h4,az (by rfl),cY (by omega),an (by omega)];exact kf
theorem jx{z}(h:cu z):cZ z=(z,0,()):=ah h
theorem tY{z}(h:¬cu z):cZ z=(0,7,()):=ag h
theorem YB{a b}(ha:cu a)(hb:cu b):eN (a*b):=by
 unfold cu at ha hb;unfold eN;rcases Int.le_total 0 a with h1|h1<;>rcases Int.le_total 0 b with h2|h2
 .have:=Ig (a:=a) (b:=b) (A:=9223372036854775808) (B:=9223372036854775808) ⟨h1,by omega⟩ ⟨h2,by omega⟩;omega
 .have:=Ig (a:=a) (b := -b) (A:=9223372036854775807) (B:=9223372036854775808) ⟨h1,by omega⟩ ⟨by omega,by omega⟩;rw[H7]at this;omega
 .have:=Ig (a := -a) (b:=b) (A:=9223372036854775808) (B:=9223372036854775807) ⟨by omega,by omega⟩ ⟨h2,by omega⟩;rw[Int.neg_mul]at this;omega
 .have:=Ig (a := -a) (b := -b) (A:=9223372036854775808) (B:=9223372036854775808) ⟨by omega,by omega⟩ ⟨by omega,by omega⟩;rw[Int.neg_mul_neg]at this;omega
theorem ama{X β}(f)(z:X)(r:Option β)(h:∀again,f z again=r):aj.aY f z=r:=vm (N:=0) (by decide) (λ_=>z) r rfl h (λi hi=>absurd hi (by omega))
theorem Sq{a b}(ha:cu a)(hb:cu b):abl (a::(b::[]))=some (cZ (a*b)):=by
 show qg aj (a::(b::[]))=_;unfold qg;have e1:cu 1:=by unfold cu;omega
 have m1:=YB e1 ha;have m2:=YB ha hb;have hw1:=Fp e1 ha;have hw2:=Fp ha hb;have i1:=JU m1;have i2:=JU m2;rw[Int.one_mul]at hw1 i1;rw[jx ha]at i1;by_cases hI:cu (a*b)
 .rw[jx hI]at i2 ⊢;refine vm (N:=2) (by decide) (λi=>((if i=0 then 1 else if i=1 then a else a*b),((i:Nat):Int),())) _ rfl ?_ ?_
  .intro again;rfl
  .intro i hi again I2;have:i=0\/i=1:=by omega
   rcases this with rfl|rfl
   .show aj.af true (aj.ae (Eb 1 a) _) _=_;rw[aQ (by rfl),ai hw1];refine yu i1 ?_;exact I2
   .show aj.af true (aj.ae (Eb a b) _) _=_;rw[aQ (by rfl),ai hw2];refine yu i2 ?_;exact I2
 .rw[tY hI]at i2 ⊢;refine vm (N:=1) (by decide) (λi=>((if i=0 then 1 else a),((i:Nat):Int),())) _ rfl ?_ ?_
  .intro again;show aj.af true (aj.ae (Eb a b) _) _=_;rw[aQ (by rfl),ai hw2];refine yu i2 ?_;rfl
  .intro i hi again I2;have:i=0:=by omega
   subst this;show aj.af true (aj.ae (Eb 1 a) _) _=_;rw[aQ (by rfl),ai hw1];refine yu i1 ?_;exact I2
theorem qf.fg{a}(h:qf a):cu (cI a):=by unfold qf at h;unfold cu cI;omega
theorem Oe{a}{q:Int}(h:qf a)(hq:cu q):GU a q=some (cZ (q*cI a)):=by show qh aj a q=_;unfold qh;rw[ai (Od h),az (by rfl)];exact yu (Sq hq h.fg) rfl
theorem abm{as}(h:∀a∈as,qf a){k}(hf:(iw as k).2.1=true):qf (iw as k).1:=by
 induction as with
 |nil=>cases hf
 |cons a l ih=>
  rw[iw]at hf ⊢;by_cases hk:a.1=k
  .rw[ah hk];exact h a (by simp)
  .rw[ag hk]at hf ⊢;exact ih (λb hb=>h b (by simp[hb])) hf
theorem amb{as}{l:List bf}(ha:∀a∈as,qf a)(Cn:as.length<=1000)(hl:uS l):
 Dp as l=some ((if Ob l=true then vl as l []else([],3,())),()):=by
 show iJ aj as l=_;unfold iJ;have h20:=hl.1;rw[ai (Sr (by omega))];by_cases hp:Ob l=true
 .rw[hp,az (by rfl),ah rfl];refine ib (l:=l) (by omega) (λi (z:List Int×Unit)=>z.1.length<=i) (λl' (z:List Int×Unit)=>some (vl as l' z.1,())) (au _) ?_ ?_
  .rintro⟨acc,⟨⟩⟩ again _;rw[dZ];rfl
  .rintro i hi ⟨acc,⟨⟩⟩ abn again I2;simp only at abn;refine Jp hi ?_;rw[bO hi,vl];rw[ai (Mb Cn)];by_cases hf:(iw as l[i].1).2.1=true
   .have hq:cu (pv l[i]):=hl.2 _ (aG hi);rw[az (by rw[hf];rfl),ah hf];show aj.ae (GU (iw as l[i].1).1 (pv l[i])) _=_;rw[ai (Oe (abm ha hf) hq)];by_cases hI:cu (pv l[i]*cI (iw as l[i].1).1)
    .rw[jx hI,ah hI];show aj.af false _ (aj.bi (acc.length+1) 8 (again (IntKind.i64.wrap ((i:Int)+1),acc++[pv l[i]*cI (iw as l[i].1).1],())))=_;rw[az (by rfl),dm (by omega) (by omega),cU i (by omega)];exact I2 (acc++[pv l[i]*cI (iw as l[i].1).1],()) (by simp;omega)
    .rw[tY hI,ag hI];exact VA (by rfl) rfl
   .have hf:(iw as l[i].1).2.1=false:=by simpa using hf
    rw[aQ (by rw[hf];rfl),ag (by rw[hf];simp)]
 .have hp:Ob l=false:=by simpa using hp
  rw[hp,aQ (by rfl),ag (by simp)]
theorem abo(as):∀(l:List bf) (acc:List Int),(vl as l acc).1.length<=acc.length+l.length
 |[],acc=>by simp[vl]
 |x::l,acc=>by
  rw[vl];split
  .split
   .have:=abo as l (acc++[pv x*cI (iw as x.1).1]);simp at this ⊢;omega
   .simp
  .simp
theorem ahp(as):∀(l:List bf) (acc:List Int),(∀x∈acc,cu x)->∀x∈(vl as l acc).1,cu x
 |[],acc,h=>by simpa[vl]using h
 |x::l,acc,h=>by
  rw[vl];split
  .split
   .rename_i hI;exact ahp as l _ λy hy=>(aT.1 hy).elim (h y) λhy=>by simp at hy;exact hy▸hI
   .simp
  .simp
theorem amc{as}{l}(ha:∀a∈as,qf a)(Cn:as.length<=1000)(hl:uS l):PE as l=some (Fq as l):=by
 show vn aj as l=_;unfold vn Fq;rw[ai (amb ha Cn hl)];by_cases hp:Ob l=true
 .rw[ah hp,ah hp];have h1:=abo as l [];have h2:=ahp as l [] (by simp);have h20:=hl.1;generalize vl as l []=v at *;obtain⟨v1,v2,⟨⟩⟩:=v;simp only at h1 h2;by_cases he:v2=0
  .subst he;refine AP (by rfl) ?_;rw[ai (tZ h2 (by simp at h1;omega))];rfl
  .refine tby he ?_;rw[ag he]
 .rw[ag hp,ag hp];exact VA (by rfl) rfl
theorem amd{as}{l}:cu (Fq as l).1:=by
 unfold Fq;split
 .split
  .unfold cZ;split
   .assumption
   .unfold cu;omega
  .unfold cu;omega
 .unfold cu;omega
theorem aeS{a}(h:cu a):Md a=some (if a<0 then cZ (-a)else(a,0,())):=by
 show vo aj a=_;unfold vo;by_cases h0:a<0
 .have:=JM (a:=0) (b:=a) (by unfold cu;omega) h;rw[As]at this;rw[eR h0,ai this,ah h0]
 .rw[cY h0,ag h0]
theorem RE{l}(h:u7 l)(u):cu (ig l u):=by
 induction l with
 |nil=>unfold ig cu;omega
 |cons x l ih=>
  rw[ig];split
  .exact h x (by simp)
  .exact ih λy hy=>h y (by simp[hy])
theorem YC{s}{u}(hf:u7 (pu s))(hl:(pu s).length<=1000000):WH s u=some (gG (pu s) u):=by
 show rG aj s u=_;unfold rG gG;show aj.ae (pw (pu s) u) _=_;rw[ai (Jq hl)];have hg:=RE hf u;generalize ig (pu s) u=c at *;have e:(if c<0 then c else 0)=min 0 c:=by unfold cu at hg;split<;>omega
 show aj.ae (Md (if c<0 then c else 0)) _=_;by_cases h0:c<0
 .rw[ah h0,ai (aeS hg),ah h0];by_cases hm:c = -9223372036854775808
  .rw[ah hm,hm,tY (by unfold cu;omega)]
  .rw[ag hm,ah h0,jx (by unfold cu at *;omega)]
 .rw[ag h0,ai (aeS (by unfold cu;omega)),ag (by omega),ag (by omega),ag h0]
def iG(s:aV):List gT:=s.2.2.2.1
theorem ame{s}{u}(ha:∀a∈iG s,qf a)(Cn:(iG s).length<=1000)(hh:lc (ho s))(hf:u7 (pu s))(hl:(pu s).length<=1000000):aj2 s u=some (CJ (iG s) (pu s) (ho s) u):=by
 show xm aj s u=_;unfold xm CJ;refine yu (Ac hh) ?_;show aj.ae (PE (iG s) (eL (ho s) u)) _=_;rw[ai (amc ha Cn (qF hh.1 u))];have hw:=amd (as:=iG s) (l:=eL (ho s) u);generalize Fq (iG s) (eL (ho s) u)=v at *;obtain⟨n,e,⟨⟩⟩:=v;simp only at hw;show aj.af (e != 0) (some (0,e,())) (aj.ae (pw (pu s) u) λv3=>aj.ae (Ih (n::(v3::[]))) λv4=>some ((if v4.1>0 then v4.1 else 0),v4.2))=some (if e=0 then(if cu (n+ig (pu s) u)then(max 0 (n+ig (pu s) u),0,())else(0,7,()))else(0,e,()));by_cases he:e=0
 .subst he;rw[ah rfl,az (by rfl),ai (Jq hl)];have hg:=RE hf u;generalize ig (pu s) u=c at *;refine yu (tZ (l:=[n,c]) (by intro x hx;simp at hx;rcases hx with rfl|rfl<;>assumption) (by simp)) ?_;have es:[n,c].sum=n+c:=by simp
  rw[es];by_cases hI:cu (n+c)
  .rw[jx hI,ah hI];dsimp only;congr 2;split<;>omega
  .rw[tY hI,ag hI];rfl
 .rw[ag he,fV he]
theorem abp{m d}(hm:0<m)(hd:0<d):RD m d=if 0<m % d then m / d+1 else m / d:=by
 unfold RD;have h1:=jg m (wC hd);have h2:=gC m hd;have h3:=rb m d;have key:∀q r:Int,0<=r->r<d -> -m=d*q+r->(-m) / d=q:=λq r a b e=>by rw[e,Int.add_comm,Int.add_mul_ediv_left _ _ (wC hd),jG a b];omega
 split
 .rw[key (-(m / d)-1) (d-m % d) (by omega) (by omega) (by rw[Int.mul_sub,H7,Int.mul_one];omega)];omega
 .rw[key (-(m / d)) 0 (by omega) hd (by rw[H7];omega)];omega
theorem atB{m d}(hm:0<m)(hd:0<d):0<RD m d/\RD m d<=m:=by
 have h3:=rb m d;have h1:=jg m (wC hd);have h2:=gC m hd;have h4:=fJ (hZ hm) (hZ hd)
 have h5:m / d<=d*(m / d):=by
  have:=iF (show(1:Int)<=d by omega) h4
  rwa [Int.one_mul]at this
 rw[abp hm hd];split
 .omega
 .refine⟨?_,by omega⟩;rcases Int.lt_or_eq_of_le h4 with h|h
  .exact h
  .exfalso;rw[<-h,Int.mul_zero]at h3;omega
theorem aho{lo y}(h0:0<=lo)(h1:lo<18446744073709551616)(hy:0<y)(hy2:y<18446744073709551616):qC 0 lo y=some (lo / y,lo % y,()):=by show j3 aj 0 lo y=_;unfold j3;have hq:=fJ h0 (hZ hy);have hq2:lo / y<=lo:=xU _ h0;rw[az (by simp;omega),cY (by omega),aQ (by rfl),Yx (by omega),Yx (by omega),se h0,sf h0,Sm _ (by omega)]
theorem avk{m d}(hm:0<=m)(hI:cu m)(hd:0<d)(hd2:cu d):abj (wide m) d=some (wide (m / d),m % d,0,()):=by
 show sr aj (wide m) d=_;unfold sr;unfold cu at hI hd2;have h1:=jg m (wC hd);have h2:=gC m hd;have hq:=fJ hm (hZ hd);have hq2:m / d<=m:=xU _ hm;have e0:IntKind.u64.wrap d=d:=Sm _ (by omega);have esz:AV (wide m)=some (Dn m):=by have:=JQ (wide m) (nL m (by unfold eN;omega));rw[tN]at this;rw[this];unfold km;rw[ag (by omega)]
 have e1:Dn m=(0,m,()):=by unfold Dn;rw[jG hm (by omega),oD hm (by omega)]
 have aeQ:qD (wide m)=some false:=by
  rw[yc];have:(wide m).1=0:=by unfold wide;exact jG hm (by omega)
  rw[this];rfl
 have esg:jm (0,m / d,()) false=some (wide (m / d),true,()):=by
  have hr:=GS (m / d) false ⟨hq,by omega⟩;have hi:eN (m / d):=by unfold eN;omega
  have es:Dn (m / d)=(0,m / d,()):=by unfold Dn;rw[jG hq (by omega),oD hq (by omega)]
  rw[es]at hr;rw[hr];show some (Yz (m / d),decide (eN (m / d)),())=_;rw[L9 _ hi,aq hi]
 rw[az (by simp;omega),cY (by omega),e0,ai esz,e1,Yx (by omega),Yx (by omega)];show aj.ae (qC (Int.tmod 0 d) m d) _=_;rw[Int.zero_tmod,ai (aho hm (by omega) hd (by omega))];refine bw λk hk=>?_
 have kk:k (m % d,IntKind.u64.wrap (Int.tdiv 0 d),m / d,())=some (wide (m / d),m % d,0,()):=by
  subst hk;rw[Int.zero_tdiv,show IntKind.u64.wrap 0=0 by decide];have e5:IntKind.i64.wrap (m % d)=m % d:=bI _ (by omega);have inner:aj.ae (qD (wide m)) (λv7=>aj.ae (jm (0,m / d,()) v7) λv8=>some (v8.1,IntKind.i64.wrap (m % d),(0:Int),()))=some (wide (m / d),m % d,0,()):=by rw[ai aeQ,ai esg,e5]
  refine jV ?_ inner;rw[ai aeQ];exact jV (by rw[ai esg,e5]) (by rw[ai esg,e5])
 refine bw λk2 yd=>?_
 have kf:k2 (false,())=some (wide (m / d),m % d,0,()):=by subst yd;refine AP (by rfl) ?_;exact kk
 refine yu aeQ ?_;rw[az (by rfl),kf]
theorem amf{a}{m:Int}(ha:qf a)(hp:0<cI a)(hm:0<m)(hI:cu m):aeT a m=some (RD m (cI a),0,()):=by
 show yB aj a m=_;unfold yB;have Ss:=ha.fg;have hb:=atB hm hp;have huI:cu (RD m (cI a)):=by unfold cu at hI ⊢;omega
 rw[ai (Od ha),az (by rfl),cY (by omega)]
 have eUp:avl m 1 (cI a)=some (RD m (cI a),0,()):=by
  show Me aj m 1 (cI a)=_;unfold Me;have hw:=Fp hI (show cu 1 by unfold cu;omega);rw[Int.mul_one]at hw;rw[ai hw,ai (avk (hZ hm) hI hp Ss)];refine bw λk hk=>?_
  have kk:∀z,cu z->k (0,wide z)=some (z,0,()):=by intro z hz;subst hk;refine yu (D9 (vk hz)) ?_;rw[jx hz]
  refine bw λk2 yd=>?_
  have hc:=abp hm hp;have hq:=fJ (hZ hm) (hZ hp);have hq2:m / cI a<=m:=xU _ (hZ hm)
  have kf:∀b,b=decide (0<m % cI a)->k2 (b,())=some (RD m (cI a),0,()):=by
   rintro _ rfl;subst yd;by_cases h:0<m % cI a
   .rw[ah h]at hc;rw[aq h]
    have inner:aj.ae (ahq 1) (λv9=>aj.ae (yC (wide (m / cI a)::(v9::[]))) λv10=>k (v10.2.1,v10.1))=some (RD m (cI a),0,()):=by
     rw[ai (Mf 1 (by unfold cu;omega))]
     have axB:=Su [wide (m / cI a),wide 1] (by
      intro w hw;simp only[aF,dV,lO]at hw;rcases hw with rfl|rfl
      .exact nL _ (by unfold cu at hI;unfold eN;omega)
      .exact nL _ (by unfold eN;omega)) (by simp)
     have es:su [wide (m / cI a),wide 1]=m / cI a+1:=by unfold su;simp[tN]
     have ef:fit (m / cI a+1)=(wide (m / cI a+1),0,()):=ah (by unfold cu at hI;unfold eN;omega);rw[es,ef]at axB;rw[ai axB];rw[<-hc];exact kk _ huI
    refine VA (by rfl) ?_;exact jV inner inner
   .rw[ag h]at hc;rw[an h];refine AP (by rfl) ?_;rw[<-hc];exact kk _ huI
  refine VA (by rfl) ?_;exact kf _ rfl
 exact yu eUp rfl
open Lot
theorem GV(a b):(orI [Ec a.1 b.1,Ec a.2.1 b.2.1]<0↔CG a b)/\(orI [Ec a.1 b.1,Ec a.2.1 b.2.1]=0↔nl a b):=by
 unfold CG nl;simp only[orI,Ec];by_cases h1:a.1<b.1
 .simp[h1];omega
 .by_cases h2:b.1<a.1
  .have h3:¬a.1=b.1:=by omega
   simp[h1,h2,h3]
  .have h3:a.1=b.1:=by omega
   by_cases h4:a.2.1<b.2.1
   .simp[h3,h4];omega
   .by_cases h5:b.2.1<a.2.1
    .have h6:¬a.2.1=b.2.1:=by omega
     simp[h3,h4,h5,h6]
    .have h6:a.2.1=b.2.1:=by omega
     simp[h3,h6]
theorem avm(i j:Nat)(h:i+j<9223372036854775807):i64.wrap (Int.fdiv (u64.wrap (i64.wrap ((i:Int)+(j:Int)))) (2 ^ (min (Int.toNat 1) u64.bits)))=(((i+j) / 2:Nat):Int):=by rw[show i64.wrap ((i:Int)+(j:Int))=((i+j:Nat):Int)by rw[dW];omega,Sm _ (by omega)];rw[show(2:Int) ^ (min (Int.toNat 1) u64.bits)=2 by decide,eO _ (by decide)];rw[bI _ (by omega)];omega
theorem amg(x)(l):(fM x l).length<=l.length:=cW _ _
def Dq(x:bf)(l:List bf):Bool:=!(Cp x l).isEmpty
theorem axC{l}{x}(hs:Ma l)(hl:l.length<=1000):ku l x=some (((((fM x l).length:Nat):Int),Dq x l,()),()):=by
 show bX aj l x=_;unfold bX;have hle:=amg x l;refine iH (λz=>(z.2.1-z.1).toNat) (λz=>∃i j:Nat,z=((i:Int),(j:Int),())/\i<=(fM x l).length/\(fM x l).length<=j/\j<=l.length) (λ_=>some (((((fM x l).length:Nat):Int),Dq x l,()),())) ⟨0,l.length,rfl,bE _,hle,au _⟩ (by dsimp only;omega) ?_;rintro _ ⟨i,j,rfl,h1,h2,h3⟩ again ha
 show aj.af (decide ((i:Int)<(j:Int))) (aj.i7 1 (aj.aI l (i64.wrap (Int.fdiv (u64.wrap (i64.wrap ((i:Int)+(j:Int)))) (2 ^ (min (Int.toNat 1) u64.bits)))) λx3=>aj.ae (JV x3 x) λv4=>
  aj.af (decide (v4<0)) (again (i64.wrap (i64.wrap (Int.fdiv (u64.wrap (i64.wrap ((i:Int)+(j:Int)))) (2 ^ (min (Int.toNat 1) u64.bits)))+1),(j:Int),())) (again ((i:Int),i64.wrap (Int.fdiv (u64.wrap (i64.wrap ((i:Int)+(j:Int)))) (2 ^ (min (Int.toNat 1) u64.bits))),()))))
  (aj.af (decide ((i:Int)<(l.length:Int))) (aj.aI l (i:Int) λx5=>aj.ae (JV x5 x) λv6=>some (((i:Int),v6==0,()),())) (some (((i:Int),false,()),())))=_
 rw[avm i j (by omega)];by_cases hij:i<j
 .have hh:(i+j) / 2<l.length:=by omega
  rw[eR (by omega),vj (by decide),bO hh,ai (Ii _ _)];obtain⟨o1,_⟩:=GV l[(i+j) / 2] x;have hla:=avj hs x hh;by_cases hlt:CG l[(i+j) / 2] x
  .rw[eR (o1.2 hlt),cU _ (by omega)];have:=hla.1 hlt;exact ha _ ⟨(i+j) / 2+1,j,rfl,by omega,h2,h3⟩ (by dsimp only;omega)
  .rw[az (an λh=>hlt (o1.1 h))];have:¬(i+j) / 2<(fM x l).length:=λh=>hlt (hla.2 h)
   exact ha _ ⟨i,(i+j) / 2,rfl,h1,by omega,by omega⟩ (by dsimp only;omega)
 .have hi:i=(fM x l).length:=by omega
  subst hi;rw[cY (by omega)];rcases YA hs x with⟨hi,hsm,hm⟩|⟨hm,hn⟩
  .have ht:Dq x l=true:=by unfold Dq;rw[hm];rfl
   rw[eR (by omega),bO hi,ai (Ii _ _),ht];obtain⟨_,o2⟩:=GV l[(fM x l).length] x;rw[o2.2 hsm];rfl
  .have ht:Dq x l=false:=by unfold Dq;rw[hm];rfl
   rw[ht];by_cases hi:(fM x l).length<l.length
   .rw[eR (by omega),bO hi,ai (Ii _ _)];obtain⟨_,o2⟩:=GV l[(fM x l).length] x;have:(orI [Ec l[(fM x l).length].1 x.1,Ec l[(fM x l).length].2.1 x.2.1]==0)=false:=by rw[beq_eq_false_iff_ne];exact λh=>hn hi (o2.1 h)
    rw[this]
   .rw[cY (by omega)]
theorem WI{l}{x}(hl:l.length<=1000):YD l x=some (if Ob l=true then if mK x then 0 else 2 else 3):=by
 show qO aj l x=_;unfold qO;rw[ai (Sr (by omega))];by_cases h:Ob l=true
 .rw[h,az (by rfl),ah rfl,ai (WJ x)];by_cases h2:mK x
  .rw[aq h2,az (by rfl),ah h2]
  .rw[an h2,aQ (by rfl),ag h2]
 .have h:Ob l=false:=by simpa using h
  rw[h,aQ (by rfl)];rfl
theorem Ij{l}(h:Ob l=true):Fs l:=bM h
theorem PF{l}(h:Fs l)(x:bf):(Dq x l=true/\∃hi:(fM x l).length<l.length,nl l[(fM x l).length] x/\yA l x.1 x.2.1=l[(fM x l).length].2.2.1/\0<l[(fM x l).length].2.2.1)\/(Dq x l=false/\Cp x l=[]/\yA l x.1 x.2.1=0):=by
 rcases YA h.2.1 x with⟨hi,hsm,hm⟩|⟨hm,_⟩
 .exact .inl ⟨by unfold Dq;rw[hm];rfl,hi,hsm,ajz hm,(h.1 _ (aG hi)).2.2⟩
 .exact .inr ⟨by unfold Dq;rw[hm];rfl,hm,Oa hm⟩
theorem aj3{l}{i:Nat}{x:bf}(h:i<=l.length)(hl:l.length<=1000):Ik l (i:Int) (x::[])=some (l.take i++x::l.drop i,()):=by show JW 24 l (i:Int) [x]=_;unfold JW;rw[show(decide (0<=(i:Int))&&decide ((i:Int)<=(l.length:Int))&&Nat.ble ((l.length+1)*24) 140737488355328)=true by rw[aB,aB,bb,bb];exact⟨⟨by omega,by omega⟩,gS (by omega)⟩];rfl
theorem aj4{l}{i:Nat}(h:i<l.length):Ed l (i:Int) ((i+1:Nat):Int)=some (l.take i++l.drop (i+1),()):=by show VC l (i:Int) ((i+1:Nat):Int)=_;unfold VC;rw[show(decide (0<=(i:Int))&&decide ((i:Int)<((i+1:Nat):Int))&&decide (((i+1:Nat):Int)<=(l.length:Int)))=true by rw[aB,aB,bb,bb,bb];exact⟨⟨by omega,by omega⟩,by omega⟩];rfl
theorem avn{l}{x:bf}(hl:uS l)(hx:cu x.2.2.1):amh l x=some (QL l x):=by
 show Ee aj l x=_;unfold Ee QL;have h20:=hl.1;rw[ai (WI (by omega))];by_cases h1:Ob l=true
 .rw[ah h1,ah h1];by_cases h2:mK x
  .rw[ah h2,ah h2,az (by rfl)];have hinv:=Ij h1;have h16:=hinv.2.2;rw[ai (axC hinv.2.1 (by omega))];have hq:=h2.2.2;rcases PF hinv x with⟨ht,hi,hsm,hg,zu⟩|⟨ht,hm,hg⟩
   .rw[ht,hg];refine AP (by rfl) ?_;rw[bO hi];have hy:=hl.2 _ (aG hi);have avo:=tZ (l:=[l[(fM x l).length].2.2.1,x.2.2.1]) (by intro z hz;simp at hz;rcases hz with rfl|rfl<;>assumption) (by simp);have es:[l[(fM x l).length].2.2.1,x.2.2.1].sum=l[(fM x l).length].2.2.1+x.2.2.1:=by simp
    rw[es]at avo;rw[ai avo];by_cases hI:cu (l[(fM x l).length].2.2.1+x.2.2.1)
    .rw[jx hI,ah hI,ag (by rintro⟨h,_⟩;omega)];refine AP (by rfl) ?_;rw[ai (yD (by omega)),bO hi];refine tnt hi ?_;rw[aU,hsm.1,hsm.2];dsimp only;rw[WG hinv.2.1 hi hsm _ (by omega)]
    .rw[tY hI,ag hI];exact VA (by rfl) rfl
   .rw[ht,hg];have hI:cu (0+x.2.2.1):=by rw[sP];exact hx
    rw[ah hI];refine VA (by rfl) ?_;by_cases h3:l.length=16
    .rw[eR (by omega),ah ⟨rfl,h3⟩]
    .rw[cY (by omega),ag (by rintro⟨_,h⟩;exact h3 h)];have ex:((x.1,x.2.1,0+x.2.2.1,()):bf)=x:=by rw[sP]
     have azZ:Gv l x=fM x l++(x::CH x l):=by unfold Gv;rw[ag (by omega)];rfl
     rw[ex,azZ,<-aj1 hinv.2.1 hm];refine jV ?_ ?_<;>
     .rw[ai (yD (by omega))];exact yu (aj3 (amg x l) (by omega)) rfl
  .rw[ag h2,ag h2];exact VA (by rfl) rfl
 .rw[ag h1,ag h1];exact VA (by rfl) rfl
theorem aqF{l}{x:bf}(hl:uS l)(hx:cu x.2.2.1):aj5 l x=some (Ea l x):=by
 show AW aj l x=_;unfold AW Ea;have h20:=hl.1;rw[ai (WI (by omega))];by_cases h1:Ob l=true
 .rw[ah h1,ah h1];by_cases h2:mK x
  .rw[ah h2,ah h2,az (by rfl)];have hinv:=Ij h1;have h16:=hinv.2.2;rw[ai (axC hinv.2.1 (by omega))];have hq:=h2.2.2;refine bw λk hk=>?_
   have kt:k (true,())=some ([],23,()):=by subst hk;rfl
   rcases PF hinv x with⟨ht,hi,hsm,hg,zu⟩|⟨ht,hm,hg⟩
   .rw[ht,hg];refine AP (by rfl) ?_;rw[bO hi];have hy:=hl.2 _ (aG hi);by_cases hlt:l[(fM x l).length].2.2.1<x.2.2.1
    .rw[aq hlt,ah hlt,kt]
    .rw[an hlt,ag hlt];subst hk;refine AP (by rfl) ?_;rw[ai (yD (by omega)),bO hi];refine tnt hi ?_;rw[bO hi];refine tnt hi ?_;rw[aU,hsm.1,hsm.2];have ew:i64.wrap (l[(fM x l).length].2.2.1-x.2.2.1)=l[(fM x l).length].2.2.1-x.2.2.1:=bI _ (by unfold cu at hy hx;omega);rw[ew];have hlen:(l.set (fM x l).length (x.1,x.2.1,l[(fM x l).length].2.2.1-x.2.2.1,())).length=l.length:=fG;have hi2:(fM x l).length<(l.set (fM x l).length (x.1,x.2.1,l[(fM x l).length].2.2.1-x.2.2.1,())).length:=by rw[hlen];exact hi
     refine bw λk2 yd=>?_
     have kk:∀z:List bf,k2 (z,())=some (z,0,()):=by intro z;subst yd;rfl
     show aj.aI (l.set (fM x l).length (x.1,x.2.1,l[(fM x l).length].2.2.1-x.2.2.1,())) (((fM x l).length:Nat):Int) (λ_=>aj.cr (l.set (fM x l).length (x.1,x.2.1,l[(fM x l).length].2.2.1-x.2.2.1,())) (fM x l).length λx12=>aj.af (x12.2.2.1==0) (aj.ae (Ed (l.set (fM x l).length (x.1,x.2.1,l[(fM x l).length].2.2.1-x.2.2.1,())) (((fM x l).length:Nat):Int) (i64.wrap ((((fM x l).length:Nat):Int)+1))) λIb=>k2 Ib) (k2 (l.set (fM x l).length (x.1,x.2.1,l[(fM x l).length].2.2.1-x.2.2.1,()),())))=_;have axD:=iR (β:=List bf×Int×Unit) hi2;rw[aU]at axD;rw[bO hi2,axD,q6,cU _ (by omega)];by_cases h0:l[(fM x l).length].2.2.1-x.2.2.1=0
     .rw[aQ (by simp[h0]),ai (aj4 hi2),kk];have e1:(l.set (fM x l).length (x.1,x.2.1,l[(fM x l).length].2.2.1-x.2.2.1,())).take (fM x l).length=l.take (fM x l).length:=by rw[zT (au _)]
      have e2:(l.set (fM x l).length (x.1,x.2.1,l[(fM x l).length].2.2.1-x.2.2.1,())).drop ((fM x l).length+1)=l.drop ((fM x l).length+1):=by rw[zU (by omega)]
      rw[e1,e2,aj0 hinv.2.1 hi hsm];unfold Gv;rw[ah h0];rfl
     .rw[az (by simp[h0]),kk,WG hinv.2.1 hi hsm _ h0]
   .rw[ht,hg,ah hq];refine VA (by rfl) ?_;rw[kt]
  .rw[ag h2,ag h2];exact VA (by rfl) rfl
 .rw[ag h1,ag h1];exact VA (by rfl) rfl
theorem WK{l}{u}{now}{e}(h:lc l)(hn:now.length<=1000):GW l u now e=some (if DY l=true then if e=0 then(I1 l u now,0,())else([],e,())else([],3,())):=by
 show lQ aj l u now e=_;unfold lQ;rw[ai (JX h)];by_cases hp:DY l=true
 .rw[hp,az (by rfl),ah rfl];by_cases he:e=0
  .rw[ah he,az (by simp[he]),ai (YE h (bM hp).2 hn)]
  .rw[ag he,aQ (by simp[he])]
 .have hp:DY l=false:=by simpa using hp
  rw[hp,aQ (by rfl),ag (by simp)]
theorem ami{l}(h:Ma l)(x:bf):(Gv l x).length<=l.length+1:=by have hc:=bA List.length (abk x h);unfold Gv;rw[ap,ap]at hc;rw[ap,ap];split<;>simp<;>omega
theorem Mg{l}{x p}(h:p∈Gv l x):p∈l\/p=x:=by
 unfold Gv at h;rcases aT.1 h with h|h
 .exact .inl (aM.1 h).1
 .rcases aT.1 h with h|h
  .split at h
   .cases h
   .exact .inr (by simpa using h)
  .exact .inl (aM.1 h).1
theorem aqG{l}(h:∀x∈l,cu x.2.2.1)(a t):cu (yA l a t):=by
 induction l with
 |nil=>unfold yA cu;omega
 |cons x l ih=>
  rw[yA];split
  .exact h x (by simp)
  .exact ih λy hy=>h y (by simp[hy])
theorem amj{l}(h:∀x∈l,mK x)(a t):0<=yA l a t:=by
 induction l with
 |nil=>exact oz _
 |cons x l ih=>
  rw[yA];split
  .exact hZ (h x (by simp)).2.2
  .exact ih λy hy=>h y (by simp[hy])
theorem abq{l}(hi:Fs l)(hl:uS l){x:bf}(hx:cu x.2.2.1):uS (Gv l x):=⟨by have:=ami hi.2.1 x;have:=hi.2.2;omega,λp hp=>(Mg hp).elim (hl.2 p) λe=>e▸hx⟩
theorem YF{l:List bf}(hl:uS l){x:bf}:uS (QL l x).1:=by
 unfold QL;by_cases h1:Ob l=true
 .rw[ah h1];split
  .split
   .rename_i hI;split
    .exact Ad
    .exact abq (Ij h1) hl hI
   .exact Ad
  .exact Ad
 .rw[ag h1];exact Ad
theorem Sv{l:List bf}(hl:uS l){x:bf}:uS (Ea l x).1:=by
 unfold Ea;by_cases h1:Ob l=true
 .rw[ah h1];by_cases h2:mK x
  .rw[ah h2];by_cases h3:yA l x.1 x.2.1<x.2.2.1
   .rw[ah h3];exact Ad
   .rw[ag h3];refine abq (Ij h1) hl ?_;have a1:=aqG hl.2 x.1 x.2.1;have a3:=h2.2.2;unfold cu at *;dsimp only;omega
  .rw[ag h2];exact Ad
 .rw[ag h1];exact Ad
theorem ahr{l}(h:uS l):l.length<=1000:=by have:=h.1;omega
theorem ahs{l}{u}{x}(h:lc l)(hx:cu x.2.2.1):WL l u x=some (qE l u x):=by show oK aj l u x=_;unfold oK qE;have hl:=qF h.1 u;rw[ai (Ac h),ai (aqF hl hx),ai (WK h (ahr (Sv hl)))]
theorem amk{l}{u}{x}(h:lc l)(hx:cu x.2.2.1):abr l u x=some (Ab l u x):=by show qP aj l u x=_;unfold qP Ab;have hl:=qF h.1 u;rw[ai (Ac h),ai (avn hl hx),ai (WK h (ahr (YF hl)))]
theorem rH:lc []:=⟨λ_ h=>(by cases h),by simp⟩
theorem abt{l}(h:lc l)(hl:l.length<=390000)(u)(x):lc (qE l u x).1/\(qE l u x).1.length<=l.length+1:=by
 unfold qE;by_cases h1:DY l=true
 .have hs:=(bM h1:YG l).2;rw[ah h1];split
  .exact⟨Sw h hl hs u (Sv (qF h.1 u)),Sx hs u _⟩
  .exact⟨rH,by simp⟩
 .rw[ag h1];exact⟨rH,by simp⟩
theorem aqH{l}(h:lc l)(hl:l.length<=390000)(u)(x):lc (Ab l u x).1/\(Ab l u x).1.length<=l.length+1:=by
 unfold Ab;by_cases h1:DY l=true
 .have hs:=(bM h1:YG l).2;rw[ah h1];split
  .exact⟨Sw h hl hs u (YF (qF h.1 u)),Sx hs u _⟩
  .exact⟨rH,by simp⟩
 .rw[ag h1];exact⟨rH,by simp⟩
theorem aml{l}(h:lc l)(hl:l.length<=380000)(f t)(x)(tag):lc (F9 l f t x tag).1/\(F9 l f t x tag).1.length<=l.length+2:=by
 unfold F9;obtain⟨h1,h2⟩:=abt h (by omega) f x;split
 .split
  .exact⟨rH,by simp⟩
  .split
   .obtain⟨h3,h4⟩:=aqH h1 (by omega) t (x.1,tag,x.2.2.1,());exact⟨h3,by omega⟩
   .exact⟨rH,by simp⟩
 .exact⟨rH,by simp⟩
theorem aqI{l}{f t}{x}{tag:Int}(h:lc l)(hl:l.length<=380000)(hx:cu x.2.2.1):WM l f t x tag=some (F9 l f t x tag):=by
 show AX aj l f t x tag=_;unfold AX F9;rw[ai (JX h)];by_cases hp:DY l=true
 .rw[hp,az (by rfl),ah rfl,vd];by_cases hu:f=t
  .rw[ah hu,aQ (by simp[hu])]
  .rw[ag hu,az (by simp[hu]),ai (ahs h hx)];by_cases he:(qE l f x).2.1=0
   .rw[ah he,az (by simp[he])];exact yu (amk (x:=(x.1,tag,x.2.2.1,())) (abt h (by omega) f x).1 hx) rfl
   .rw[ag he,fV he]
 .have hp:DY l=false:=by simpa using hp
  rw[hp,aQ (by rfl),ag (by simp)]
set_option synthInstance.maxSize 100000
set_option synthInstance.maxHeartbeats 0
def zS:aV:=(0,[],[],[],[],[],[],[],[],[],[],[],())
def Cw(s:aV)(r:PH):aV×Int×Unit:=if r.2.2=0 then(gE s r.1 r.2.1,0,())else(zS,r.2.2,())
theorem amm(s):gE s (pu s) (ho s)=s:=rfl
theorem aht{l f}(h:(rI l f).2.1=0):u7 (rI l f).1:=by obtain⟨_,h2,h3⟩:=RF h;rw[h2];exact YH h3
theorem abu{p}{f t}{n}(h:(jh p f t n).2.1=0):cu (-n)/\jh p f t n=rI p [(f,-n,()),(t,n,())]:=by
 unfold jh at h ⊢;by_cases hI:cu (-n)
 .rw[ah hI];exact⟨hI,rfl⟩
 .rw[ag hI]at h;split at h<;>simp at h
theorem abv{p}{f t}{n}(h:(jh p f t n).2.1=0):u7 (jh p f t n).1/\(jh p f t n).1.length<=p.length+2:=by obtain⟨_,e⟩:=abu h;rw[e]at h ⊢;exact⟨aht h,Sy _ _⟩
theorem JY:yf=some tU:=rfl
theorem aeU:WN=some fU:=rfl
theorem aeV(n q:Int):(if q<n then q else n)=min n q:=by split<;>omega
theorem avp{s}{p}{h}{u}{x}{m:Int}(ha:∀a∈iG s,qf a)(Cn:(iG s).length<=1000)(hh:lc h)(hhl:h.length<=380000)(hf:u7 p)(hl:p.length<=800000)
 (hx:0<pv x/\cu (pv x)) (hm:0<m) (hI:cu m):WO (gE s p h) u x m=some (Cw s (tq (iG s) u x m p h)):=by
 show AY aj (gE s p h) u x m=_;unfold AY tq;show aj.ae (JT (iG s) x.1) _=_;rw[ai (Mb Cn)];by_cases hfd:(iw (iG s) x.1).2.1=true
 .rw[az (by rw[hfd];rfl),ah hfd];have oM:=abm ha hfd;generalize (iw (iG s) x.1).1=a at oM;by_cases hp0:cI a=0
  .rw[ah hp0,aQ (by show(cI a==0)=true;simp[hp0])];rfl
  .have hpp:0<cI a:=by have:=oM.2.1.1;unfold cI at hp0 ⊢;omega
   rw[ag hp0,az (by show(cI a==0)=false;simp[hp0]),ai (amf oM hpp hm hI)];have hb:=atB hm hpp;have hq:0<min (RD m (cI a)) (pv x)/\cu (min (RD m (cI a)) (pv x)):=by have:=hx.2;unfold cu at *;omega
   show aj.af false _ (aj.ae (GU a (if pv x<RD m (cI a)then pv x else RD m (cI a))) _)=_;rw[az (by rfl),aeV];generalize hqe:min (RD m (cI a)) (pv x)=q at hq;rw[ai (Oe oM hq.2)];refine bw λk hk=>?_
   have amn:∀e st,e≠0->k (e,st)=some (zS,e,()):=by
    intro e st he;subst hk;refine bw λk6 F8=>?_
    have k6':k6 (e,st)=some (zS,e,()):=by subst F8;show aj.af (e != 0) _ _=_;rw[aQ (by simpa using he)];rfl
    clear F8;show aj.af (e==0) _ (k6 (e,st))=_;rw[az (by simpa using he),k6']
   by_cases hw:cu (q*cI a)
   .rw[jx hw,ah hw];have atC:=aqI (l:=h) (f:=u) (t:=tU) (x:=(x.1,x.2.1,q,())) (tag:=0) hh hhl hq.2;generalize hP:F9 h u tU (x.1,x.2.1,q,()) 0=P at atC;obtain⟨h',e1,⟨⟩⟩:=P
    have main:k (e1,gE s p h')=some (Cw s (if e1=0 then(if(jh p tU u (q*cI a)).2.1=0 then((jh p tU u (q*cI a)).1,h',0)else([],[],(jh p tU u (q*cI a)).2.1))else([],[],e1))):=by
     by_cases he1:e1=0
     .rw[ah he1];subst hk;refine bw λk6 F8=>?_
      have hmv:=N5 (l:=p) (f:=tU) (t:=u) hf hw (by omega);generalize hM:jh p tU u (q*cI a)=M at hmv;obtain⟨p',e2,⟨⟩⟩:=M
      have k6':k6 (e2,gE s p' h')=some (Cw s (if e2=0 then(p',h',0)else([],[],e2))):=by
       subst F8;show aj.af (e2 != 0) (some (zS,e2,())) (some (gE s p' h',0,()))=_;unfold Cw;by_cases he2:e2=0
       .rw[az (by simp[he2]),ah he2];rfl
       .rw[aQ (by simpa using he2),ag he2];dsimp only;rw[ag he2]
      clear F8;show aj.af (e1==0) _ _=_;rw[aQ (by simp[he1])];refine jV ?_ ?_<;>
      .rw[ai JY];dsimp only;rw[jx hw];show aj.ae (rD p tU u (q*cI a)) _=_;rw[ai hmv];exact k6'
     .rw[ag he1,amn _ _ he1];unfold Cw;rw[ag he1]
    clear hk;show aj.af true _ _=_;rw[aQ (by rfl)];refine jV ?_ ?_<;>
    .rw[ai JY];show aj.ae (WM h u tU (x.1,x.2.1,(if pv x<RD m (cI a)then pv x else RD m (cI a)),()) 0) _=_;rw[aeV,hqe,ai atC];exact main
   .rw[tY hw,ag hw];clear hk;show aj.af false _ (k (7,gE s p h))=_;rw[az (by rfl),amn _ _ (by decide)];rfl
 .have hfd:(iw (iG s) x.1).2.1=false:=by simpa using hfd
  rw[aQ (by rw[hfd];rfl),ag (by rw[hfd];simp)];rfl
theorem ahu{as}{u}{x}{m}{p}{h}(hh:lc h)(hhl:h.length<=380000)(hf:u7 p)(he:(tq as u x m p h).2.2=0):
 u7 (tq as u x m p h).1/\(tq as u x m p h).1.length<=p.length+2/\lc (tq as u x m p h).2.1/\(tq as u x m p h).2.1.length<=h.length+2:=by
 unfold tq at he ⊢;split
 .split
  .exact⟨hf,by simp,hh,by simp⟩
  .split
   .split
    .split
     .rename_i hm;obtain⟨a1,a2⟩:=abv hm;obtain⟨a3,a4⟩:=aml hh hhl u tU (x.1,x.2.1,min (RD m (cI (iw as x.1).1)) (pv x),()) 0;exact⟨a1,a2,a3,a4⟩
     .exact⟨λ_ h=>(by cases h),by simp,rH,by simp⟩
    .exact⟨λ_ h=>(by cases h),by simp,rH,by simp⟩
   .exact⟨λ_ h=>(by cases h),by simp,rH,by simp⟩
 .exact⟨λ_ h=>(by cases h),by simp,rH,by simp⟩
theorem Of(as)(u)(cash):∀(l:List bf) (p:List aR) (h:List bg),lc h->h.length+2*l.length<=380000->u7 p->(nw as u cash l p h).2.2=0->
 u7 (nw as u cash l p h).1/\(nw as u cash l p h).1.length<=p.length+2*l.length/\lc (nw as u cash l p h).2.1/\(nw as u cash l p h).2.1.length<=h.length+2*l.length
 |[],p,h,hh,_,hf,_=>⟨hf,by simp[nw],hh,by simp[nw]⟩
 |x::l,p,h,hh,hl,hf,he=>by
  rw[aJ]at hl;rw[nw]at he ⊢;split
  .rename_i hI;rw[ah hI]at he;split
   .rename_i h0;rw[ah h0]at he;by_cases hs:(tq as u x (cash-ig p u) p h).2.2=0
    .rw[ah hs]at he ⊢;obtain⟨a1,a2,a3,a4⟩:=ahu hh (by omega) hf hs;obtain⟨b1,b2,b3,b4⟩:=Of as u cash l _ _ a3 (by omega) a1 he;exact⟨b1,by rw[aJ];omega,b3,by rw[aJ];omega⟩
    .rw[ag hs]at he;exact absurd he hs
   .rename_i h0;rw[ag h0]at he;obtain⟨b1,b2,b3,b4⟩:=Of as u cash l _ _ hh (by omega) hf he;exact⟨b1,by rw[aJ];omega,b3,by rw[aJ];omega⟩
  .rename_i hI;rw[ag hI]at he;simp at he
theorem Ft{h}(hp:DY h=true)(u):Fs (eL h u):=by
 have hi:=(bM hp:YG h).1;clear hp;induction h with
 |nil=>exact⟨λx hx=>(by cases hx),List.Pairwise.nil,by simp[eL]⟩
 |cons y l ih=>
  rw[eL];split
  .exact(hi y (by simp)).2
  .exact ih λz hz=>hi z (by simp[hz])
theorem RG{as}{p}{h}{u}{cash}(hh:lc h)(hl:h.length<=370000)(hf:u7 p)(he:(l8 as p h u cash).2.2=0):
 u7 (l8 as p h u cash).1/\(l8 as p h u cash).1.length<=p.length+32/\lc (l8 as p h u cash).2.1/\(l8 as p h u cash).2.1.length<=h.length+32:=by
 unfold l8 at he ⊢;by_cases h1:ya p=true/\DY h=true
 .rw[ah h1]at he ⊢;by_cases h2:u=tU
  .rw[ah h2]at he;simp at he
  .rw[ag h2]at he ⊢;have h16:=(Ft h1.2 u).2.2;obtain⟨a1,a2,a3,a4⟩:=Of as u cash (eL h u) p h hh (by omega) hf he;exact⟨a1,by omega,a3,by omega⟩
 .rw[ag h1]at he;simp at he
def avq(st:aV)(L:List bf):Int×List aW×List bF×List bf×List aD×List bz×List bP×List bZ×List bC×List bC×List aR×List bg×List bf×Unit:=(st.1,st.2.1,st.2.2.1,st.2.2.2.1,st.2.2.2.2.1,st.2.2.2.2.2.1,st.2.2.2.2.2.2.1,st.2.2.2.2.2.2.2.1,st.2.2.2.2.2.2.2.2.1,st.2.2.2.2.2.2.2.2.2.1,st.2.2.2.2.2.2.2.2.2.2.1,st.2.2.2.2.2.2.2.2.2.2.2.1,L,())
theorem amo{s}{p}{h}{u}{cash:Int}(ha:∀a∈iG s,qf a)(Cn:(iG s).length<=1000)(hh:lc h)(hhl:h.length<=370000)(hf:u7 p)(hl:p.length<=700000)(hc:cu cash):
 WQ (gE s p h) u cash=some (Cw s (l8 (iG s) p h u cash)):=by
 show xo aj (gE s p h) u cash=_;unfold xo l8;refine bw λk hk=>?_
 have kt:k (true,())=some (zS,3,()):=by subst hk;rfl
 have kf:DY h=true->k (false,())=some (Cw s (if u=tU then([],[],2)else nw (iG s) u cash (eL h u) p h)):=by
  intro hp;subst hk;refine AP (by rfl) ?_;rw[ai JY,vd];by_cases hu:u=tU
  .rw[aQ (by simp[hu]),ah hu];rfl
  .rw[az (by simp[hu]),ag hu];show aj.ae (Il h u) _=_;rw[ai (Ac hh)];have hinv:=Ft hp u;have oM:=qF hh.1 u;generalize hL:eL h u=L at hinv oM;have h16:=hinv.2.2;refine ni (l:=L) (s0:=(p,h)) (by omega) (λi (z:List aR×List bg)=>((i:Int),avq (gE s z.1 z.2) L)) (λi z=>lc z.2/\z.2.length+2*(L.length-i)<=370032/\u7 z.1/\z.1.length+2*(L.length-i)<=700032) (λl' z=>some (Cw s (nw (iG s) u cash l' z.1 z.2))) rfl ⟨hh,by dsimp only;omega,hf,by dsimp only;omega⟩ ?_ ?_
   .rintro⟨p1,h1⟩ _ again;refine IZ ?_;rfl
   .rintro i hi ⟨p1,h1⟩ ⟨i1,i2,i3,i4⟩ again I2;simp only at i1 i2 i3 i4;show aj.af (decide ((i:Int)<(L.length:Int))) (aj.aI L (i:Int) λx6=>aj.cr L (Int.toNat (i:Int)) λx7=>aj.ae (pw p1 u) _) _=some (Cw s (nw (iG s) u cash (L[i]::L.drop (i+1)) p1 h1));rw[dE hi,bO hi,iR hi,ai (Jq (by omega)),nw];have hg:=RE i3 u;rw[ai (JM hc hg)];have hqx:0<pv L[i]/\cu (pv L[i]):=⟨(hinv.1 _ (aG hi)).2.2,oM.2 _ (aG hi)⟩;generalize ig p1 u=g at hg;refine bw λGJ Og=>?_
    have axE:∀(e:Int) (st:aV),e≠0->GJ (e,avq st L)=some (zS,e,()):=by intro e st he;subst Og;exact tby he rfl
    have K11:∀(r:PH),(r.2.2=0->lc r.2.1/\r.2.1.length<=h1.length+2/\u7 r.1/\r.1.length<=p1.length+2)->∀st:aV,st=(Cw s r).1->
     GJ ((Cw s r).2.1,avq st L)=some (Cw s (if r.2.2=0 then nw (iG s) u cash (L.drop (i+1)) r.1 r.2.1 else([],[],r.2.2))):=by
     rintro⟨p2,h2,e⟩ hr st rfl;simp only at hr;by_cases he:e=0
     .subst Og;obtain⟨r1,r2,r3,r4⟩:=hr he;have er:Cw s (p2,h2,e)=(gE s p2 h2,0,()):=ah he;rw[er,ah he];refine AP (by rfl) ?_;rw[cU i (by omega)];exact I2 (p2,h2) ⟨r1,by dsimp only;omega,r3,by dsimp only;omega⟩
     .have er:Cw s (p2,h2,e)=(zS,e,()):=ag he;rw[er,ag he];exact(axE e zS he).trans (bA some (ag he:Cw s ([],[],e)=_).symm)
    clear Og I2;by_cases hI:cu (cash-g)
    .rw[jx hI,ah hI];refine bw λWR aj6=>?_
     have a0a:0<cash-g->WR (true,L,())=some (Cw s (if(tq (iG s) u L[i] (cash-g) p1 h1).2.2=0 then nw (iG s) u cash (L.drop (i+1)) (tq (iG s) u L[i] (cash-g) p1 h1).1 (tq (iG s) u L[i] (cash-g) p1 h1).2.1 else([],[],(tq (iG s) u L[i] (cash-g) p1 h1).2.2))):=by intro zu;subst aj6;have axF:=avp (s:=s) (p:=p1) (h:=h1) (u:=u) (x:=L[i]) (m:=cash-g) ha Cn i1 (by omega) i3 (by omega) hqx zu hI;show aj.af true (aj.ae (WO (gE s p1 h1) u L[i] (cash-g)) _) _=_;rw[aQ (by rfl),ai axF];exact K11 _ (λhe=>by obtain⟨a1,a2,a3,a4⟩:=ahu i1 (by omega) i3 he;exact⟨a3,a4,a1,a2⟩) _ rfl
     have avr:WR (false,L,())=some (Cw s (nw (iG s) u cash (L.drop (i+1)) p1 h1)):=by subst aj6;have:=K11 (p1,h1,0) (λ_=>⟨i1,by simp,i3,by simp⟩) (gE s p1 h1) rfl;show aj.af false _ _=_;rw[az (by rfl)];exact this
     clear aj6 K11;show aj.af true (WR (decide (0<cash-g),L,())) _=_;rw[aQ (by rfl)];by_cases zu:0<cash-g
     .rw[aq zu,ah zu];exact a0a zu
     .rw[an zu,ag zu];exact avr
    .rw[tY hI,ag hI];refine bw λWR aj6=>?_
     have avr:WR (false,L,())=some (Cw s ([],[],7)):=by subst aj6;show aj.af false _ (GJ (7,_))=_;rw[az (by rfl)];exact axE 7 (gE s p1 h1) (by decide)
     clear aj6;show aj.af false _ (WR (false,L,()))=_;rw[az (by rfl)];exact avr
 clear hk;show aj.ae (L4 p) _=_;rw[ai (aaT (by omega))];by_cases hp:ya p=true
 .rw[hp,az (by rfl)];show aj.ae (RH h) _=_;rw[ai (JX hh)];by_cases hq:DY h=true
  .rw[hq,ah ⟨rfl,rfl⟩];exact kf hq
  .have hq:DY h=false:=by simpa using hq
   rw[hq,ag (by simp)];exact kt
 .have hp:ya p=false:=by simpa using hp
  rw[hp,aQ (by rfl),ag (by simp),kt];rfl
def qT(s:aV)(r:Oc):aV×List ye×Int×Unit:=if r.2.2.2=0 then(gE s r.1 r.2.1,r.2.2.1,0,())else(zS,[],r.2.2.2,())
theorem amp{s}{p}{h}{b t}{n:Int}(ha:∀a∈iG s,qf a)(Cn:(iG s).length<=1000)(hh:lc h)(hhl:h.length<=370000)(hf:u7 p)(hl:p.length<=700000)(hc:cu n):
 WS (gE s p h) b t n=some (qT s (CK (iG s) p h b t n)):=by
 show xq aj (gE s p h) b t n=_;unfold xq CK;by_cases h0:n=0
 .rw[aQ (by simp[h0]),ah h0];rfl
 .rw[az (by simp[h0]),ag h0,ai (amo ha Cn hh hhl hf hl hc)];have oM:=λhe=>RG (as:=iG s) (u:=b) (cash:=n) hh hhl hf he
  generalize l8 (iG s) p h b n=r at oM;obtain⟨p1,h1,e⟩:=r;simp only at oM;refine bw λk hk=>?_
  have amn:∀e st,e≠0->k (e,st)=some (zS,[],e,()):=by intro e st he;subst hk;refine tby he ?_;rfl
  have kok:∀st,k (0,st)=some (st,[(b,t,n,())],0,()):=by intro st;subst hk;refine AP (by rfl) ?_;exact jV rfl rfl
  by_cases he:e=0
  .have er:Cw s (p1,h1,e)=(gE s p1 h1,0,()):=ah he;obtain⟨a1,a2,a3,a4⟩:=oM he;rw[er,ah he];have hmv:=N5 (l:=p1) (f:=b) (t:=t) a1 hc (by omega);show aj.af true (aj.ae (rD p1 b t n) _) _=_;rw[aQ (by rfl),ai hmv];generalize jh p1 b t n=M;obtain⟨p2,e2,⟨⟩⟩:=M;dsimp only;by_cases he2:e2=0
   .subst he2;rw[kok,ah rfl];rfl
   .rw[amn _ _ he2,ag he2];exact bA some (ag he2:qT s ([],[],[],e2)=_).symm
  .have er:Cw s (p1,h1,e)=(zS,e,()):=ag he;rw[er,ag he];refine tqn he ?_;rw[amn _ _ he];exact bA some (ag he:qT s ([],[],[],e)=_).symm
theorem atE(a b):aqJ (a::(b::[]))=some (if a=0 then b else a):=by
 show Ef aj (a::(b::[]))=_;unfold Ef;by_cases ha:a=0
 .rw[ah ha];refine vm (N:=if b=0 then 2 else 1) (by split<;>decide) (λi=>(((i:Nat):Int),())) _ rfl ?_ ?_
  .intro again;by_cases hb:b=0
   .rw[ah hb,hb];rfl
   .rw[ag hb];show aj.af true (aj.af (b != 0) (some b) _) _=_;rw[aQ (by rfl),fV hb]
  .intro i hi again I2;have:i=0\/(i=1/\b=0):=by split at hi<;>omega
   rcases this with rfl|⟨rfl,hb⟩
   .show aj.af true (aj.af (a != 0) (some a) _) _=_;rw[aQ (by rfl),az (by simp[ha])];exact I2
   .show aj.af true (aj.af (b != 0) (some b) _) _=_;rw[aQ (by rfl),az (by simp[hb])];exact I2
 .rw[ag ha];refine ama _ _ _ λagain=>?_
  show aj.af true (aj.af (a != 0) (some a) _) _=_;rw[aQ (by rfl),fV ha]
theorem Mh{p}(hf:u7 p)(u):cu (gG p u).1/\0<=(gG p u).1:=by
 have hg:=RE hf u;unfold gG;split
 .exact⟨by unfold cu;omega,oz _⟩
 .split
  .unfold cu at *;exact⟨by omega,by omega⟩
  .exact⟨by unfold cu;omega,oz _⟩
theorem ahv(as)(p)(h)(u):cu (CJ as p h u).1/\0<=(CJ as p h u).1:=by
 unfold CJ;split
 .split
  .rename_i hI;unfold cu at *;exact⟨by omega,by omega⟩
  .exact⟨by unfold cu;omega,oz _⟩
 .exact⟨by unfold cu;omega,oz _⟩
theorem avs{s}{p}{h}{b t}(ha:∀a∈iG s,qf a)(Cn:(iG s).length<=1000)(hh:lc h)(hhl:h.length<=370000)(hf:u7 p)(hl:p.length<=700000):
 abw (gE s p h) b t=some (qT s (JS (iG s) p h b t)):=by
 show Eg aj (gE s p h) b t=_;unfold Eg JS;rw[ai (YC (s:=gE s p h) hf (by show p.length<=_;omega)),ai (ame (s:=gE s p h) ha Cn hh hf (by show p.length<=_;omega))];show aj.aH _ _=_;have ho:=Mh hf t;have hr:=ahv (iG s) p h b;have e1:gG (pu (gE s p h)) t=gG p t:=rfl;have e2:CJ (iG (gE s p h)) (pu (gE s p h)) (Go.Proofs.YthghpahghjppjaaGreat.ho (gE s p h)) b=CJ (iG s) p h b:=rfl;rw[e1,e2];generalize gG p t=o at *;generalize CJ (iG s) p h b=r at *;obtain⟨n,e,⟨⟩⟩:=o;obtain⟨m,f,⟨⟩⟩:=r;simp only at ho hr;refine bw λk hk=>?_
 have kt:k (true,())=some (zS,[],(if e=0 then f else e),()):=by subst hk;refine VA (by rfl) ?_;rw[ai (atE e f)];rfl
 have kf:k (false,())=some (qT s (if b=t then(p,h,[],0)else CK (iG s) p h b t (min n m))):=by
  subst hk;refine AP (by rfl) ?_;rw[vd,aeV];by_cases hu:b=t
  .rw[aQ (by simp[hu]),ah hu];rfl
  .rw[az (by simp[hu]),ag hu,ai (amp ha Cn hh hhl hf hl (by unfold cu at *;omega))]
 show aj.af (e != 0) (k (true,())) (k (f != 0,()))=some (qT s (if e=0 then(if f=0 then(if b=t then(p,h,[],0)else CK (iG s) p h b t (min n m))else([],[],[],f))else([],[],[],e)));by_cases he:e=0
 .rw[az (by simp[he]),ah he];rw[ah he]at kt;by_cases hf0:f=0
  .rw[ah hf0,show(f != 0)=false by simp[hf0],kf]
  .rw[ag hf0,show(f != 0)=true by simpa using hf0,kt];exact bA some (ag hf0:qT s ([],[],[],f)=_).symm
 .rw[fV he,ag he];rw[ag he]at kt;rw[kt];exact bA some (ag he:qT s ([],[],[],e)=_).symm
theorem avt{s}{p}{h}{u}(ha:∀a∈iG s,qf a)(Cn:(iG s).length<=1000)(hh:lc h)(hhl:h.length<=370000)(hf:u7 p)(hl:p.length<=700000):
 abx (gE s p h) u=some (qT s (QM (iG s) p h u)):=by
 show Eh aj (gE s p h) u=_;unfold Eh QM;rw[ai (YC (s:=gE s p h) hf (by show p.length<=_;omega))];have ho:=Mh hf u;have e1:gG (pu (gE s p h)) u=gG p u:=rfl;rw[e1];clear e1;generalize gG p u=o at *;obtain⟨n,e,⟨⟩⟩:=o;simp only at ho;show aj.af (e != 0) (some (zS,[],e,())) (aj.ae (WQ (gE s p h) u 0) _)=some (qT s (if e=0 then _ else([],[],[],e)));by_cases he:e=0
 .rw[az (by simp[he]),ah he,ai (amo ha Cn hh hhl hf hl (by unfold cu;omega))];have oM:=λhe=>RG (as:=iG s) (u:=u) (cash:=0) hh hhl hf he
  generalize l8 (iG s) p h u 0=r at oM;obtain⟨p1,h1,e2⟩:=r;simp only at oM;by_cases he2:e2=0
  .have er:Cw s (p1,h1,e2)=(gE s p1 h1,0,()):=ah he2;obtain⟨a1,a2,a3,a4⟩:=oM he2;rw[er,ah he2];show aj.af false _ (aj.ae (WH (gE s p1 h1) u) _)=_;rw[az (by rfl),ai (YC (s:=gE s p1 h1) a1 (by show p1.length<=_;omega))];have ho2:=Mh a1 u;have e3:gG (pu (gE s p1 h1)) u=gG p1 u:=rfl;rw[e3];generalize gG p1 u=o2 at *;obtain⟨n2,f2,⟨⟩⟩:=o2;simp only at ho2;show aj.af (n==n2) (some (gE s p1 h1,[],0,())) (aj.gJ (some (gE s p1 h1,[(u,u,IntKind.i64.wrap (n-n2),())],0,())) (some (gE s p1 h1,[(u,u,IntKind.i64.wrap (n-n2),())],0,())))=some (qT s (if n=n2 then(p1,h1,[],0)else(p1,h1,[(u,u,n-n2,())],0)));by_cases hn:n=n2
   .rw[aQ (by simp[hn]),ah hn];rfl
   .have ew:IntKind.i64.wrap (n-n2)=n-n2:=bI _ (by unfold cu at *;omega);rw[az (by simpa using hn),ag hn,ew];exact jV rfl rfl
  .have er:Cw s (p1,h1,e2)=(zS,e2,()):=ag he2;rw[er,ag he2];show aj.af (e2 != 0) (some (zS,[],e2,())) _=_;rw[aQ (by simpa using he2)];exact bA some (ag he2:qT s ([],[],[],e2)=_).symm
 .rw[aQ (by simpa using he),ag he];exact bA some (ag he:qT s ([],[],[],e)=_).symm
set_option maxHeartbeats 4000000
set_option maxRecDepth 1000000
def jO(T S:Int):List Int->Int->List Ev
 |[],_=>[]
 |w::l,i=>(i,T*w / S,T*w % S,())::jO T S l (i+1)
def bump:List Ev->List Int->List Int
 |[],o=>o
 |q::qs,o=>bump qs (o.set q.1.toNat (o.getD q.1.toNat 0+1))
def partsOf(Q:List Ev):List Int:=Q.map λq=>q.2.1
def leftOf(Q:List Ev):List Int:=Q.map λq=>q.2.2.1
def Ya(T:Int)(l:List Int):Nat:=(T-(partsOf (jO T l.sum l 0)).sum).toNat
def HJ(T:Int)(l:List Int):List Int:=if T=0 then List.replicate l.length 0 else bump ((uf (jO T l.sum l 0)).take (Ya T l)) (partsOf (jO T l.sum l 0))
theorem IV(T S):∀(l:List Int) (i:Int),(jO T S l i).length=l.length
 |[],_=>rfl
 |w::l,i=>by simp[jO,IV T S l]
theorem aal(T S):∀(l:List Int) (i:Int) (k:Nat) (h:k<l.length),(jO T S l i)[k]'(by rw[IV];exact h)=(i+k,T*l[k] / S,T*l[k] % S,())
 |w::l,i,0,h=>by simp[jO]
 |w::l,i,k+1,h=>by have:=aal T S l (i+1) k (by simpa using h);simp only[jO,wK];rw[this];congr 1;omega
theorem aam{T S}:∀{l:List Int} {i:Int} {q:Ev},q∈jO T S l i->∃w∈l,q.2.1=T*w / S/\q.2.2.1=T*w % S/\i<=q.1/\q.1<i+l.length
 |[],_,_,h=>by cases h
 |w::l,i,q,h=>by
  rcases aF.1 h with rfl|h
  .exact⟨w,eH,rfl,rfl,oz _,by simp;omega⟩
  .obtain⟨v,hv,h1,h2,h3,h4⟩:=aam h;exact⟨v,cP _ hv,h1,h2,by omega,by simp only[aJ];omega⟩
theorem aan(T S):∀(l:List Int) (i:Int),(jO T S l i).Pairwise λa b=>a.1<b.1
 |[],_=>.nil
 |w::l,i=>bD.2 ⟨λq hq=>by obtain⟨_,_,_,_,h,_⟩:=aam hq;omega,aan T S l (i+1)⟩
theorem ajf{T S}(hS:0<S):∀(l:List Int) (i:Int),(partsOf (jO T S l i)).sum*S+(leftOf (jO T S l i)).sum=T*l.sum
 |[],_=>by simp[jO,partsOf,leftOf]
 |w::l,i=>by have ih:=ajf (T:=T) hS l (i+1);have e:=rb (T*w) S;simp only[jO,partsOf,leftOf,bK,gN]at ih ⊢;rw[oC,zm,iE (T*w / S)];omega
theorem UY{S}:∀{L:List Ev},(∀q∈L,q.2.2.1<S)->(leftOf L).sum<=L.length*(S-1)
 |[],_=>by simp[leftOf]
 |q::L,h=>by
  have ih:=UY (L:=L) λx hx=>h x (cP _ hx)
  have h1:=h q eH;simp only[leftOf,bK,gN,aJ]at ih ⊢;have e:((L.length+1:Nat):Int)*(S-1)=L.length*(S-1)+(S-1):=by rw[Gu,oC];simp
  rw[e];omega
theorem aej:∀{L:List Ev},(∀q∈L,q.2.2.1=0)->(leftOf L).sum=0
 |[],_=>by simp[leftOf]
 |q::L,h=>by
  have ih:=aej (L:=L) λx hx=>h x (cP _ hx)
  have h1:=h q eH;simp only[leftOf,bK,gN]at ih ⊢;omega
theorem aqp{S}{r:Nat}{L:List Ev}(hS:0<S)(hp:L.Pairwise λa b=>leQ a b=true)(h0:∀q∈L,0<=q.2.2.1/\q.2.2.1<S)(hs:(leftOf L).sum=r*S):r<=L.length/\∀q∈L.take r,0<q.2.2.1:=by
 have key:∀k:Nat,k<r->((leftOf (L.drop k)).sum=0->False):=by
  intro k hk hz;have e:(leftOf L).sum=(leftOf (L.take k)).sum+(leftOf (L.drop k)).sum:=by rw[<-nJ];unfold leftOf;rw[<-cz,nk]
  have h1:=UY (S:=S) (L:=L.take k) λq hq=>(h0 q (fh hq)).2
  have h2:((L.take k).length:Int)*(S-1)<=k*(S-1):=iF (by rw[aX];omega) (by omega);have h3:((k:Nat):Int)*(S-1)+k=k*S:=by rw[Int.mul_sub];omega
  have h4:((k:Nat):Int)*S+S<=r*S:=by have:=iF (show((k+1:Nat):Int)<=r by omega) (show 0<=S by omega);rw[Gu,oC]at this;simpa using this
  omega
 have hl:r<=L.length:=by
  rcases dS L.length r with h|h
  .exact(key _ h (by rw[fH];simp[leftOf])).elim
  .exact h
 refine⟨hl,λq hq=>?_⟩;obtain⟨k,hk,rfl⟩:=jL hq;rw[aX]at hk;rw[kW];have uY:k<L.length:=by omega
 have hb:=h0 _ (aG uY);rcases Au (0<(L[k]).2.2.1)with h|h
 .exact h
 .refine(key k (by omega) (aej λx hx=>?_)).elim;have hx0:=h0 x (jt hx);rw[ck uY]at hx;rcases aF.1 hx with rfl|hx
  .omega
  .have hd:=ck uY;have hpd:(L.drop k).Pairwise λa b=>leQ a b=true:=hp.sublist (Db _ _)
   rw[hd]at hpd;have:=(bD.1 hpd).1 x hx;rw[Iy]at this;omega
theorem UZ:∀(qs:List Ev) (o:List Int),(bump qs o).length=o.length
 |[],_=>rfl
 |q::qs,o=>by rw[bump,UZ qs];simp
theorem getD_set_ne{o:List Int}{i j:Nat}{v:Int}(h:i≠j):(o.set i v).getD j 0=o.getD j 0:=by rw[eQ,eQ,List.getElem?_set_ne h]
theorem ajg{T:Int}:∀(qs:List Ev) (o:List Int),(∀x∈o,0<=x/\x<=T)->(∀q∈qs,0<=q.1/\o.getD q.1.toNat 0+1<=T)->(qs.Pairwise λa b=>a.1≠b.1)->∀x∈bump qs o,0<=x/\x<=T
 |[],o,h,_,_=>h
 |q::qs,o,h,hq,hp=>by
  obtain⟨p1,p2⟩:=bD.1 hp
  have g0:0<=o.getD q.1.toNat 0:=by
   rw[eQ];cases e:o[q.1.toNat]? with
   |none=>simp
   |some v=>exact(h v (kN e)).1
  have hq0:=hq q eH;refine ajg qs _ (λx hx=>?_) (λq' hq'=>?_) p2
  .rcases sX hx with hx|rfl
   .exact h x hx
   .omega
  .have h1:=hq q' (cP _ hq');have h2:=p1 q' hq';refine⟨h1.1,?_⟩;rw[getD_set_ne (by omega)];exact h1.2
structure OkW(T:Int)(l:List Int):Prop where
 t0:0<=T
 ts:T<=l.sum
 nn:∀w∈l,0<=w
 s64:cu l.sum
 len:l.length<=1000
theorem alr{a b:List Int}(h:a.Perm b):a.sum=b.sum:=by
 induction h with
 |nil=>rfl
 |cons x _ ih=>rw[gN,gN,ih]
 |swap x y l=>simp only[gN];omega
 |trans _ _ h1 h2=>exact h1.trans h2
theorem HK:∀{l:List Int},(∀w∈l,0<=w)->0<=l.sum/\∀w∈l,w<=l.sum
 |[],_=>by simp
 |x::l,h=>by
  obtain⟨h1,h2⟩:=HK (l:=l) λw hw=>h w (cP _ hw)
  have h3:=h x eH;refine⟨by rw[gN];omega,λw hw=>?_⟩;rw[gN];rcases aF.1 hw with rfl|hw
  .omega
  .have:=h2 w hw;omega
theorem OkW.w64{T}{l}(h:OkW T l):∀w∈l,cu w:=λw hw=>by have h1:=(HK h.nn).2 w hw;have h2:=h.nn w hw;have h3:=h.s64;unfold cu at *;omega
structure OkQ(T S:Int)(l:List Int)(Q:List Ev)(r:Nat):Prop where
 len:Q.length=l.length
 q:∀q∈Q,0<=q.1/\q.1<l.length/\0<=q.2.1/\q.2.1<=T/\0<=q.2.2.1/\q.2.2.1<S/\(0<q.2.2.1->q.2.1+1<=T)
 re:(r:Int)=T-(partsOf Q).sum
 rl:r<=l.length
 pos:∀q∈(uf Q).take r,0<q.2.2.1
theorem OkW.quo{T}{l:List Int}(h:OkW T l)(hT:T≠0):OkQ T l.sum l (jO T l.sum l 0) (Ya T l):=by
 have hS:0<l.sum:=by have:=h.t0;have:=h.ts;omega
 have hq:∀q∈jO T l.sum l 0,0<=q.1/\q.1<l.length/\0<=q.2.1/\q.2.1<=T/\0<=q.2.2.1/\q.2.2.1<l.sum/\(0<q.2.2.1->q.2.1+1<=T):=by
  intro q hq;obtain⟨w,hw,e1,e2,e3,e4⟩:=aam hq;have w0:=h.nn w hw;have w1:=(HK h.nn).2 w hw;have a:=jc h.t0 w0;have b:=gy w1 h.t0;have c:=jg (T*w) (wC hS);have d:=gC (T*w) hS;have m:=rb (T*w) l.sum;rw[<-e1,<-e2]at m;rw[<-e2]at c d;have f:0<=q.2.1:=by rw[e1];exact fJ a (hZ hS)
  have g:q.2.1<=T:=by
   rcases Au (q.2.1<=T)with g|g
   .exact g
   .have:=gy (show T+1<=q.2.1 by omega) (hZ hS);rw[zm,iE l.sum T]at this;omega
  refine⟨e3,by omega,f,g,c,d,λhp=>?_⟩;rcases Au (q.2.1+1<=T)with g2|g2
  .exact g2
  .have e5:q.2.1=T:=by omega
   rw[e5,iE l.sum T]at m;omega
 have avo:=ajf (T:=T) hS l 0;have Mx:=uw (jO T l.sum l 0);have axt:∀L:List Ev,(∀q∈L,0<=q.2.2.1)->0<=(leftOf L).sum:=λL hL=>by refine(HK (l:=leftOf L) λw hw=>?_).1;obtain⟨q,hq,rfl⟩:=aN.1 hw;exact hL q hq
 have hl0:=axt _ λq hq'=>(hq q hq').2.2.2.2.1
 have e:(T-(partsOf (jO T l.sum l 0)).sum)*l.sum=(leftOf (jO T l.sum l 0)).sum:=by rw[Int.sub_mul];omega
 have hr0:0<=T-(partsOf (jO T l.sum l 0)).sum:=by
  rcases Au (0<=T-(partsOf (jO T l.sum l 0)).sum)with g|g
  .exact g
  .have:=iF (show T-(partsOf (jO T l.sum l 0)).sum <= -1 by omega) (hZ hS);omega
 have hr:((Ya T l:Nat):Int)=T-(partsOf (jO T l.sum l 0)).sum:=by unfold Ya;omega
 have axu:(leftOf (uf (jO T l.sum l 0))).sum=(leftOf (jO T l.sum l 0)).sum:=alr (Mx.map _);have hh:=aqp (r:=Ya T l) hS (Tp (jO T l.sum l 0)) (λq hq'=>by have:=hq q (Mx.mem_iff.1 hq');exact⟨this.2.2.2.2.1,this.2.2.2.2.2.1⟩) (by rw[axu,hr,e]);rw[Mx.length_eq,IV]at hh;exact⟨IV _ _ _ _,hq,hr,hh.1,hh.2⟩
theorem aek{Q}{n:Nat}(hQ:∀(k:Nat) (h:k<Q.length),(Q[k]).1=(k:Int)){q:Ev}(hq:q∈Q):(partsOf Q).getD q.1.toNat 0=q.2.1/\(leftOf Q).getD q.1.toNat 0=q.2.2.1:=by obtain⟨k,hk,rfl⟩:=jL hq;rw[hQ k hk,aU];unfold partsOf leftOf;simp[eQ,hk]
theorem aqq(T S)(l):∀(k:Nat) (h:k<(jO T S l 0).length),((jO T S l 0)[k]).1=(k:Int):=λk h=>by rw[aal T S l 0 k (by rwa [IV]at h)];exact sP _
theorem ajh{Q}(h:Q.Pairwise λa b=>a.1<b.1):(uf Q).Pairwise λa b=>a.1≠b.1:=(List.Perm.pairwise_iff (λh=>jf h) (uw Q)).2 (h.imp λh=>by omega)
theorem OkW.split{T}{l:List Int}(h:OkW T l):(HJ T l).length=l.length/\∀x∈HJ T l,0<=x/\x<=T:=by
 unfold HJ;by_cases hT:T=0
 .rw[ah hT];refine⟨xf,λx hx=>?_⟩;have:=List.eq_of_mem_replicate hx;subst this;have:=h.t0;omega
 .rw[ag hT];have K:=h.quo hT;refine⟨by rw[UZ];unfold partsOf;rw[bh,K.len],ajg _ _ (λx hx=>?_) (λq hq=>?_) ((ajh (aan _ _ _ _)).sublist (List.take_sublist _ _))⟩
  .obtain⟨q,hq,rfl⟩:=aN.1 hx;have:=K.q q hq;exact⟨this.2.2.1,this.2.2.2.1⟩
  .have hm:=(uw _).mem_iff.1 (fh hq);have k:=K.q q hm;refine⟨k.1,?_⟩;rw[(aek (n:=0) (aqq _ _ _) hm).1];exact k.2.2.2.2.2.2 (K.pos q hq)
abbrev Gw:=List aR->List bg->Oc
def o5:List Gw->List aR->List bg->List ye->Oc
 |[],p,h,d=>(p,h,d,0)
 |a::l,p,h,d=>if(a p h).2.2.2=0 then o5 l (a p h).1 (a p h).2.1 (d++(a p h).2.2.1)else([],[],[],(a p h).2.2.2)
theorem Qq:∀(l:List Gw) (p:List aR) (h:List bg) (d d0:List ye),
 (o5 l p h (d0++d)).2.2.2=(o5 l p h d).2.2.2/\((o5 l p h d).2.2.2=0->o5 l p h (d0++d)=((o5 l p h d).1,(o5 l p h d).2.1,d0++(o5 l p h d).2.2.1,0))
 |[],p,h,d,d0=>by simp[o5]
 |a::l,p,h,d,d0=>by
  rw[o5,o5];by_cases he:(a p h).2.2.2=0
  .rw[ah he,ah he,bq];exact Qq l _ _ _ d0
  .rw[ag he,ag he];exact⟨rfl,λh0=>absurd h0 he⟩
abbrev UA:=ar×Int
abbrev azL:=ar×ar×Int
def tt:List UA->List UA->List azL
 |[],_=>[]
 |_::_,[]=>[]
 |(u,x)::gs,(v,y)::ts=>(u,v,min x y)::if x<=y then tt gs ((v,y-x)::ts)else tt ((u,x-y)::gs) ts
termination_by gs ts=>gs.length+ts.length
theorem aad:∀(n:Nat) (gs ts:List UA),gs.length+ts.length<=n->(tt gs ts).length<=gs.length+ts.length
 |_,[],ts,_=>by rw[tt];simp
 |_,(u,x)::gs,[],_=>by rw[tt];simp
 |n,(u,x)::gs,(v,y)::ts,hn=>by
  obtain⟨m,rfl⟩:∃m,n=m+1:=⟨n-1,by simp only[aJ]at hn;omega⟩;rw[tt];simp only[aJ]at hn ⊢;split
  .have:=aad m gs ((v,y-x)::ts) (by simp only[aJ];omega);simp only[aJ]at this;omega
  .have:=aad m ((u,x-y)::gs) ts (by simp only[aJ];omega);simp only[aJ]at this;omega
def Lr(as:List gT)(x:azL):Gw:=λp h=>CK as p h x.1 x.2.1 x.2.2
structure StR(p:List aR)(h:List bg)(d:List ye)(n:Nat):Prop where
 f:u7 p
 pl:p.length<=94+40*n
 hh:lc h
 hl:h.length<=94+32*n
 dl:d.length<=n
def Gp(a:Gw)(k:Nat):Prop:=∀p h d n,StR p h d n->n+k<=10000->(a p h).2.2.2=0->StR (a p h).1 (a p h).2.1 (d++(a p h).2.2.1) (n+k)
theorem aae(as)(b t)(m):Gp (λp h=>CK as p h b t m) 1:=by
 intro p h d n S hn he;have hh:=S.hl;have hp:=S.pl;have hd:=S.dl;dsimp only at he ⊢;unfold CK at he ⊢;by_cases h0:m=0
 .rw[ah h0];exact⟨S.f,by dsimp only;omega,S.hh,by dsimp only;omega,by rw[cy];omega⟩
 .rw[ag h0]at he ⊢;by_cases h1:(l8 as p h b m).2.2=0
  .rw[ah h1]at he ⊢;obtain⟨_,a2,a3,a4⟩:=RG S.hh (by omega) S.f h1;by_cases h2:(jh (l8 as p h b m).1 b t m).2.1=0
   .rw[ah h2];have:=abv h2;refine⟨this.1,?_,a3,?_,?_⟩
    .dsimp only;omega
    .dsimp only;omega
    .rw[ap];show d.length+1<=n+1;omega
   .rw[ag h2]at he;exact absurd he h2
  .rw[ag h1]at he;exact absurd he h1
theorem ajb(as)(b t):Gp (λp h=>JS as p h b t) 1:=by
 intro p h d n S hn he;have hh:=S.hl;have hp:=S.pl;have hd:=S.dl;dsimp only at he ⊢;unfold JS at he ⊢;by_cases h1:(gG p t).2.1=0
 .rw[ah h1]at he ⊢;by_cases h2:(CJ as p h b).2.1=0
  .rw[ah h2]at he ⊢;by_cases h3:b=t
   .rw[ah h3];exact⟨S.f,by dsimp only;omega,S.hh,by dsimp only;omega,by rw[cy];omega⟩
   .rw[ag h3]at he ⊢;exact aae as b t _ p h d n S hn he
  .rw[ag h2]at he;exact absurd he h2
 .rw[ag h1]at he;exact absurd he h1
theorem ajc(as)(u):Gp (λp h=>QM as p h u) 1:=by
 intro p h d n S hn he;have hh:=S.hl;have hp:=S.pl;have hd:=S.dl;dsimp only at he ⊢;unfold QM at he ⊢;by_cases h1:(gG p u).2.1=0
 .rw[ah h1]at he ⊢;by_cases h2:(l8 as p h u 0).2.2=0
  .rw[ah h2]at he ⊢;obtain⟨a1,a2,a3,a4⟩:=RG S.hh (by omega) S.f h2;by_cases h3:(gG p u).1=(gG (l8 as p h u 0).1 u).1
   .rw[ah h3];exact⟨a1,by dsimp only;omega,a3,by dsimp only;omega,by rw[cy];omega⟩
   .rw[ag h3];exact⟨a1,by dsimp only;omega,a3,by dsimp only;omega,by rw[ap];show d.length+1<=n+1;omega⟩
  .rw[ag h2]at he;exact absurd he h2
 .rw[ag h1]at he;exact absurd he h1
theorem ajd{k}:∀(l:List Gw),(∀a∈l,Gp a k)->∀p h d n,StR p h d n->n+k*l.length<=10000->(o5 l p h d).2.2.2=0->StR (o5 l p h d).1 (o5 l p h d).2.1 (o5 l p h d).2.2.1 (n+k*l.length)
 |[],_,p,h,d,n,S,_,_=>S
 |a::l,hl,p,h,d,n,S,hn,he=>by
  rw[aJ,wL]at hn ⊢;rw[o5]at he ⊢;by_cases h1:(a p h).2.2.2=0
  .rw[ah h1]at he ⊢;have:=ajd l (λb hb=>hl b (cP _ hb)) _ _ _ _ (hl a eH p h d n S (by omega) h1) (by omega) he
   rwa [show n+k+k*l.length=n+(k*l.length+k)by omega]at this
  .rw[ag h1]at he;exact absurd he h1
def JO(n:Nat):Nat:=if n=0 then 0 else n.log2+1
theorem ahl{n}(h:0<n):2 ^ JO n<=2*n/\n+1<=2 ^ JO n:=by unfold JO;rw[ag (by omega)];have h1:=Nat.log2_self_le (n:=n) (by omega);have h2:=Nat.lt_log2_self (n:=n);rw[Nat.pow_succ]at *;omega
def at9(s:ByteArray)(n:Nat):Bool:=match s[n]? with|some b=>b.toNat==JO n|none=>false
theorem alV{β}{s}(hs:(List.range 256).all (at9 s)=true){n:Nat}(hn:n<256)(K:Int->Option β):aj.L8 s (n:Int) K=K (JO n:Nat):=by
 have h1:=mD.1 hs n (Cg.2 hn);dsimp only;unfold ahm;rw[aq (by omega)];unfold at9 at h1;rw[aU];cases hb:s[n]? with
 |none=>rw[hb]at h1;cases h1
 |some b=>
  rw[hb]at h1;have h2:b.toNat=JO n:=by simpa using h1
  show K (b.toNat:Int)=_;rw[h2]
theorem atA{x z n b}(h1:2 ^ n*z<=x)(h2:x<2 ^ n*(z+1))(h3:2 ^ b<=2*z)(h4:z+1<=2 ^ b)(hn:n+b<=64):9223372036854775808<=x*2 ^ (64-(n+b))/\x*2 ^ (64-(n+b))<18446744073709551616:=by
 have e:2 ^ n*2 ^ b*2 ^ (64-(n+b))=18446744073709551616:=by rw[<-uN,<-uN,show n+b+(64-(n+b))=64 by omega]
 have p:=zJ (64-(n+b));constructor
 .have a1:2 ^ n*2 ^ b<=2*x:=cp (lP _ h3) (by rw[Nat.mul_left_comm];omega);have a2:=dL (2 ^ (64-(n+b))) a1;rw[e,DU]at a2;omega
 .have a1:=e8 h2 (lP _ h4);have a2:=Nat.mul_lt_mul_of_pos_right a1 p
  rwa [e]at a2
theorem alW{x z n}(m)(h1:2 ^ n*z<=x)(h2:x<2 ^ n*(z+1)):2 ^ (n+m)*(z / 2 ^ m)<=x/\x<2 ^ (n+m)*(z / 2 ^ m+1):=by have p:=zJ m;have a1:2 ^ m*(z / 2 ^ m)<=z:=Nat.mul_div_le z _;have a2:=Nat.lt_mul_div_succ z p;rw[uN,DU,DU];exact⟨cp (lP _ a1) h1,e8 h2 (lP _ a2)⟩
def GR(x:Nat)(o:Option Int):Prop:=∃n z:Nat,o=some ((n+JO z:Nat):Int)/\0<z/\z<256/\n<=56/\2 ^ n*z<=x/\x<2 ^ n*(z+1)
theorem alX(z m:Nat)(hm:m<=64):Int.fdiv (z:Int) (2 ^ (min (Int.toNat (m:Int)) (Go.IntKind.bits Go.IntKind.u64)))=((z / 2 ^ m:Nat):Int):=by rw[aU,show min m (Go.IntKind.bits Go.IntKind.u64)=m from jQ hm,eO _ (Int.pow_nonneg (by decide))];simp
theorem aqC{x:Nat}(h0:0<x)(hx:x<18446744073709551616):GR x (QK (x:Int)):=by
 show GR x (pt aj (x:Int));unfold pt;refine Yv (Q:=GR x) λk7 I0=>?_
 have P1:∀z n:Nat,0<z->z<4294967296->n<=32->2 ^ n*z<=x->x<2 ^ n*(z+1)->GR x (k7 ((z:Int),(n:Int),())):=by
  intro z n a b c d e;subst I0;refine Yv (Q:=GR x) λk6 F8=>?_
  have P2:∀z n:Nat,0<z->z<65536->n<=48->2 ^ n*z<=x->x<2 ^ n*(z+1)->GR x (k6 ((z:Int),(n:Int),())):=by
   intro z n a b c d e;subst F8;refine Yv (Q:=GR x) λk5 DX=>?_
   have P3:∀z n:Nat,0<z->z<256->n<=56->2 ^ n*z<=x->x<2 ^ n*(z+1)->GR x (k5 ((z:Int),(n:Int),())):=by
    intro z n a b c d e;subst DX;refine⟨n,z,?_,a,b,c,d,e⟩;have eu:IntKind.u8.wrap (z:Int)=(z:Int):=IntWalk.u8_in _ (by omega);show aj.L8 _ (IntKind.u8.wrap (z:Int)) _=_;rw[eu,alV (by kernel_rfl) b]
    have hb:JO z<=8:=by
     rcases dS 8 (JO z)with h|h
     .have h5:=zk (show 0<2 by omega) h;have h6:=cp h5 (ahl a).1;omega
     .exact h
    dsimp only;rw[bI ((JO z:Nat):Int) (by omega),bI _ (by omega)];rfl
   show GR x (aj.af (decide ((256:Int)<=(z:Int))) (aj.i7 8 (k5 (Int.fdiv (z:Int) (2 ^ (min (Int.toNat ((8:Nat):Int)) (Go.IntKind.bits Go.IntKind.u64))),IntKind.i64.wrap ((n:Int)+8),()))) (k5 ((z:Int),(n:Int),())));by_cases h:256<=z
   .rw[aQ (aq (by omega)),vj (by omega),alX _ _ (by omega),bI _ (by omega)];obtain⟨s1,s2⟩:=alW 8 d e;exact P3 (z / 2 ^ 8) (n+8) (by omega) (by omega) (by omega) s1 s2
   .rw[az (an (by omega))];exact P3 z n a (by omega) (by omega) d e
  show GR x (aj.af (decide ((65536:Int)<=(z:Int))) (aj.i7 16 (k6 (Int.fdiv (z:Int) (2 ^ (min (Int.toNat ((16:Nat):Int)) (Go.IntKind.bits Go.IntKind.u64))),IntKind.i64.wrap ((n:Int)+16),()))) (k6 ((z:Int),(n:Int),())));by_cases h:65536<=z
  .rw[aQ (aq (by omega)),vj (by omega),alX _ _ (by omega),bI _ (by omega)];obtain⟨s1,s2⟩:=alW 16 d e;exact P2 (z / 2 ^ 16) (n+16) (by omega) (by omega) (by omega) s1 s2
  .rw[az (an (by omega))];exact P2 z n a (by omega) (by omega) d e
 show GR x (aj.af (decide ((4294967296:Int)<=(x:Int))) (aj.i7 32 (k7 (Int.fdiv (x:Int) (2 ^ (min (Int.toNat ((32:Nat):Int)) (Go.IntKind.bits Go.IntKind.u64))),((32:Nat):Int),()))) (k7 ((x:Int),((0:Nat):Int),())));by_cases h:4294967296<=x
 .rw[aQ (aq (by omega)),vj (by omega),alX _ _ (by omega)];obtain⟨s1,s2⟩:=alW (x:=x) (z:=x) (n:=0) 32 (by simp) (by simp);exact P1 (x / 2 ^ 32) 32 (by omega) (by omega) (by omega) (by simpa using s1) (by simpa using s2)
 .rw[az (an (by omega))];exact P1 x 0 h0 (by omega) (by omega) (by simp) (by simp)
theorem avh{x:Nat}(h0:0<x)(hx:x<18446744073709551616):∃s:Nat,Dm (x:Int)=some (s:Int)/\s<=63/\9223372036854775808<=x*2 ^ s/\x*2 ^ s<18446744073709551616:=by
 have key:=aqC h0 hx;obtain⟨n,z,e,hz,hz2,hn,h1,h2⟩:=key;obtain⟨h3,h4⟩:=ahl hz
 have hb:JO z<=8:=by
  rcases dS 8 (JO z)with h|h
  .have:=zk (show 0<2 by omega) h;have:=cp this h3;omega
  .exact h
 have hb0:0<JO z:=by unfold JO;rw[ag (by omega)];omega
 refine⟨64-(n+JO z),?_,by omega,(atA h1 h2 h3 h4 (by omega)).1,(atA h1 h2 h3 h4 (by omega)).2⟩;show iI aj (x:Int)=_;unfold iI;rw[ai e,bI _ (by omega)];congr 1;omega
structure D8(kC pS u v:Int):Prop where
 a:2147483648<=kC
 b:kC<4294967296
 c:0<=pS
 d:pS<4294967296
 e:0<=v
 f:v<4294967296
 g:0<=u
 h:u<kC*4294967296+pS
def digit(kC pS u v:Int):Int:=(u*4294967296+v) / (kC*4294967296+pS)
theorem Yw(q kC pS:Int):q*(kC*4294967296+pS)=q*kC*4294967296+q*pS:=by rw[zm,tK]
theorem D8.le{kC pS u v}(H:D8 kC pS u v){q:Int}(h:q*pS<=(u-q*kC)*4294967296+v):q<=digit kC pS u v:=by have:=H.a;have:=H.c;refine(Int.le_ediv_iff_mul_le (by omega)).2 ?_;rw[Yw];omega
theorem D8.gt{kC pS u v}(H:D8 kC pS u v){q:Int}(h:(u-q*kC)*4294967296+v<q*pS):digit kC pS u v<q:=by have:=H.a;have:=H.c;refine iX (by omega) ?_;rw[Yw];omega
theorem D8.nn{kC pS u v}(H:D8 kC pS u v):0<=digit kC pS u v/\digit kC pS u v<4294967296:=by
 have h1:=H.a;have h2:=H.c;have h3:=H.g;have h4:=H.e;have h5:=H.f;have h6:=H.h;constructor
 .exact fJ (by omega) (by omega)
 .refine iX (by omega) ?_;rw[iE];omega
theorem D8.first{kC pS u v}(H:D8 kC pS u v):digit kC pS u v<=u / kC/\u / kC<=4294967297:=by
 have h1:=H.a;have h2:=H.c;have h3:=H.g;have h4:=H.e;have h5:=H.f;have h6:=H.h;have h7:=H.d;constructor
 .refine(Int.le_ediv_iff_mul_le (by omega)).2 ?_;have a:=Int.ediv_mul_le (u*4294967296+v) (show kC*4294967296+pS≠0 by omega);have b:digit kC pS u v*(kC*4294967296+pS)<=u*4294967296+v:=a;rw[Yw]at b;have c:=jc H.nn.1 h2;omega
 .have:u / kC<4294967298:=by refine iX (by omega) ?_;rw[iE];omega
  omega
theorem D8.brk{kC pS u v}(H:D8 kC pS u v){q:Int}(hq:q<=4294967297)(h1:digit kC pS u v<q)(h2:4294967296<=u-(q-1)*kC):q-1=digit kC pS u v:=by
 have g1:=H.a;have g2:=H.c;have g3:=H.g;have g4:=H.e;have g5:=H.f;have g6:=H.h;have g7:=H.d;have g8:=H.b;have n0:=H.nn.1
 have hq2:q-1<=4294967295:=by
  rcases Au (4294967295<q-1)with hh|hh
  .have e:q-1=4294967296:=by omega
   rw[e]at h2;omega
  .omega
 have a1:(q-1)*pS<=4294967295*4294967295:=wB hq2 (by omega) g2 (by omega);have:=H.le (q:=q-1) (by omega);omega
theorem u64_in(z)(h0:0<=z)(h:z<18446744073709551616):u64.wrap z=z:=Sm z ⟨h0,h⟩
theorem D8.look{kC pS u v}(H:D8 kC pS u v){q r:Int}(hd:digit kC pS u v<=q)(hr:r=u-q*kC)(hr0:0<=r)(RB:r<4294967296):
 (4294967296<=q->digit kC pS u v<q)/\(q<4294967296->(if u64.wrap (u64.wrap (4294967296*r)+v)<u64.wrap (q*pS)then digit kC pS u v<q else digit kC pS u v=q)):=by
 have g4:=H.e;have g5:=H.f;have g2:=H.c;have g7:=H.d;have n:=H.nn;refine⟨λh=>by omega,λh=>?_⟩;have a0:=jc (show 0<=q by omega) g2;have a1:q*pS<=4294967295*4294967295:=wB (by omega) (by omega) g2 (by omega);rw[u64_in (4294967296*r) (by omega) (by omega),u64_in _ (by omega) (by omega),u64_in (q*pS) a0 (by omega)];split
 .exact H.gt (by rw[<-hr];omega)
 .have:=H.le (q:=q) (by rw[<-hr];omega);omega
theorem D8.ax9{β}{kC pS u v q0 r0}(H:D8 kC pS u v)(hq:q0=u / kC)(hr:r0=u-q0*kC)(k:Int×Unit->Option β):
 aj.aY (λz again=>aj.aH (λ_=>aj.af (decide (4294967296<=u64.wrap (z.1+kC))) (k (u64.wrap (z.2.1-1),())) (again (u64.wrap (z.1+kC),u64.wrap (z.2.1-1),()))) λk8=>aj.af (decide (4294967296<=z.2.1)) (k8 ()) (aj.af (decide (u64.wrap (u64.wrap (4294967296*z.1)+v)<u64.wrap (z.2.1*pS))) (k8 ()) (k z.2))) (r0,q0,())=k (digit kC pS u v,()):=by
 have g1:=H.a;have g8:=H.b;have n:=H.nn;obtain⟨f1,f2⟩:=H.first;have e1:u % kC=r0:=by rw[hr,hq,F0,iE]
 have e2:=jg u (show kC≠0 by omega);have e3:=gC u (show 0<kC by omega);refine(iH (λz=>z.2.1.toNat) (λz=>digit kC pS u v<=z.2.1/\z.2.1<=4294967297/\z.1=u-z.2.1*kC/\0<=z.1/\z.1<4294967296) (λ_=>k (digit kC pS u v,())) ⟨by show _<=q0;omega,by show q0<=_;omega,hr,by omega,by omega⟩ (by dsimp only;omega) ?_);rintro⟨r,q,⟨⟩⟩ ⟨h1,h2,h3,h4,h5⟩ again ha;dsimp only at h1 h2 h3 h4 h5;obtain⟨l1,l2⟩:=H.look h1 h3 h4 h5
 have down:digit kC pS u v<q->aj.af (decide (4294967296<=u64.wrap (r+kC))) (k (u64.wrap (q-1),())) (again (u64.wrap (r+kC),u64.wrap (q-1),()))=k (digit kC pS u v,()):=by
  intro hlt;have er:u-(q-1)*kC=r+kC:=by rw[h3,Int.sub_mul];omega
  rw[u64_in (r+kC) (by omega) (by omega),u64_in (q-1) (by omega) (by omega)];refine du (λhb=>?_) λhb=>?_
  .rw[H.brk h2 hlt (by rw[er];exact hb)]
  .exact ha (r+kC,q-1,()) ⟨by show _<=q-1;omega,by show q-1<=_;omega,er.symm,by show 0<=r+kC;omega,by show r+kC<_;omega⟩ (by show(q-1).toNat<q.toNat;omega)
 show aj.af (decide (4294967296<=q)) _ _=_;by_cases hb:4294967296<=q
 .rw[aQ (aq hb)];exact down (l1 hb)
 .have l2:=l2 (by omega);rw[az (an hb)];by_cases hc:u64.wrap (u64.wrap (4294967296*r)+v)<u64.wrap (q*pS)
  .rw[ah hc]at l2;show aj.af (decide (u64.wrap (u64.wrap (4294967296*r)+v)<u64.wrap (q*pS))) _ _=_;rw[aQ (aq hc)];exact down l2
  .rw[ag hc]at l2;show aj.af (decide (u64.wrap (u64.wrap (4294967296*r)+v)<u64.wrap (q*pS))) _ _=_;rw[az (an hc),l2]
theorem D8.axA{β}{kC pS u v q0 r0}(H:D8 kC pS u v)(hq:q0=u / kC)(hr:r0=u-q0*kC)(k:Int×Unit->Option β):
 aj.aY (λz again=>aj.aH (λ_=>aj.af (decide (4294967296<=u64.wrap (z.2.1+kC))) (k (u64.wrap (z.1-1),())) (again (u64.wrap (z.1-1),u64.wrap (z.2.1+kC),()))) λk8=>aj.af (decide (4294967296<=z.1)) (k8 ()) (aj.af (decide (u64.wrap (u64.wrap (4294967296*z.2.1)+v)<u64.wrap (z.1*pS))) (k8 ()) (k (z.1,())))) (q0,r0,())=k (digit kC pS u v,()):=by
 have g1:=H.a;have g8:=H.b;have n:=H.nn;obtain⟨f1,f2⟩:=H.first;have e1:u % kC=r0:=by rw[hr,hq,F0,iE]
 have e2:=jg u (show kC≠0 by omega);have e3:=gC u (show 0<kC by omega);refine(iH (λz=>z.1.toNat) (λz=>digit kC pS u v<=z.1/\z.1<=4294967297/\z.2.1=u-z.1*kC/\0<=z.2.1/\z.2.1<4294967296) (λ_=>k (digit kC pS u v,())) ⟨by omega,by omega,hr,by show 0<=r0;omega,by show r0<_;omega⟩ (by omega) ?_);rintro⟨q,r,⟨⟩⟩ ⟨h1,h2,h3,h4,h5⟩ again ha;dsimp only at h1 h2 h3 h4 h5;obtain⟨l1,l2⟩:=H.look h1 h3 h4 h5
 have down:digit kC pS u v<q->aj.af (decide (4294967296<=u64.wrap (r+kC))) (k (u64.wrap (q-1),())) (again (u64.wrap (q-1),u64.wrap (r+kC),()))=k (digit kC pS u v,()):=by
  intro hlt;have er:u-(q-1)*kC=r+kC:=by rw[h3,Int.sub_mul];omega
  rw[u64_in (r+kC) (by omega) (by omega),u64_in (q-1) (by omega) (by omega)];refine du (λhb=>?_) λhb=>?_
  .rw[H.brk h2 hlt (by rw[er];exact hb)]
  .exact ha (q-1,r+kC,()) ⟨by omega,by omega,er.symm,by show 0<=r+kC;omega,by show r+kC<_;omega⟩ (by show(q-1).toNat<q.toNat;omega)
 show aj.af (decide (4294967296<=q)) _ _=_;by_cases hb:4294967296<=q
 .rw[aQ (aq hb)];exact down (l1 hb)
 .have l2:=l2 (by omega);rw[az (an hb)];by_cases hc:u64.wrap (u64.wrap (4294967296*r)+v)<u64.wrap (q*pS)
  .rw[ah hc]at l2;show aj.af (decide (u64.wrap (u64.wrap (4294967296*r)+v)<u64.wrap (q*pS))) _ _=_;rw[aQ (aq hc)];exact down l2
  .rw[ag hc]at l2;show aj.af (decide (u64.wrap (u64.wrap (4294967296*r)+v)<u64.wrap (q*pS))) _ _=_;rw[az (an hc),l2]
theorem avi(a b s:Nat)(hs:s<=64)(hb:b<2 ^ s)(h:a*2 ^ s+b<18446744073709551616):bits .or .u64 ((a*2 ^ s:Nat):Int) (b:Int)=((a*2 ^ s+b:Nat):Int):=by
 show u64.wrap (((BitVec.ofInt 64 ((a*2 ^ s:Nat):Int) ||| BitVec.ofInt 64 ((b:Nat):Int)).toNat:Nat):Int)=_;rw[BitVec.toNat_or,nb,nb];have e0:((2 ^ 64:Nat):Int)=18446744073709551616:=by decide
 have e1:(((a*2 ^ s:Nat):Int) % ((2 ^ 64:Nat):Int)).toNat=a*2 ^ s:=by rw[e0];omega
 have e2:(((b:Nat):Int) % ((2 ^ 64:Nat):Int)).toNat=b:=by rw[e0];omega
 rw[e1,e2,kB a,<-Nat.two_pow_add_eq_or_of_lt hb,kB (2 ^ s),bW];omega
theorem abh{a b c}(h0:0<=a+b-c)(h1:a+b-c<18446744073709551616):u64.wrap (u64.wrap (u64.wrap a+b)-u64.wrap c)=a+b-c:=by rw[bW,bW,bW,bW];omega
theorem aeP{kC pS u v1 v0}(H:D8 kC pS u v1)(h0:0<=v0)(h1:v0<4294967296){q1 w q0:Int}(e1:q1=digit kC pS u v1)(ew:w=u*4294967296+v1-q1*(kC*4294967296+pS))(e0:q0=digit kC pS w v0):
 (0<=w/\w<kC*4294967296+pS)/\D8 kC pS w v0/\(0<=w*4294967296+v0-q0*(kC*4294967296+pS)/\w*4294967296+v0-q0*(kC*4294967296+pS)<kC*4294967296+pS)/\u*18446744073709551616+(v1*4294967296+v0)=(q1*4294967296+q0)*(kC*4294967296+pS)+(w*4294967296+v0-q0*(kC*4294967296+pS)):=by
 have a:=H.a;have c:=H.c;have p:0<kC*4294967296+pS:=by omega
 have w1:w=(u*4294967296+v1) % (kC*4294967296+pS):=by rw[ew,e1,digit,F0,iE ((u*4294967296+v1) / _)]
 have w2:=jg (u*4294967296+v1) (show kC*4294967296+pS≠0 by omega);have w3:=gC (u*4294967296+v1) p;rw[<-w1]at w2 w3;have H0:D8 kC pS w v0:=⟨H.a,H.b,H.c,H.d,h0,h1,w2,w3⟩;have r1:w*4294967296+v0-q0*(kC*4294967296+pS)=(w*4294967296+v0) % (kC*4294967296+pS):=by rw[e0,digit,F0,iE ((w*4294967296+v0) / _)]
 have r2:=jg (w*4294967296+v0) (show kC*4294967296+pS≠0 by omega);have r3:=gC (w*4294967296+v0) p;rw[<-r1]at r2 r3;refine⟨⟨w2,w3⟩,H0,⟨r2,r3⟩,?_⟩;generalize kC*4294967296+pS=Y at *;have m1:(q1*4294967296+q0)*Y=q1*Y*4294967296+q0*Y:=by rw[oC,Int.mul_right_comm]
 rw[m1];omega
theorem alY{hi lo y:Nat}(h0:0<hi)(h1:hi<y)(hy:y<18446744073709551616)(hl:lo<18446744073709551616):
    qC (hi:Int) (lo:Int) (y:Int)=some ((((hi*18446744073709551616+lo) / y:Nat):Int),((((hi*18446744073709551616+lo) % y:Nat):Int),())):=by
  obtain⟨s,es,hs,b1,b2⟩:=avh (x:=y) (by omega) hy
  show j3 aj (hi:Int) (lo:Int) (y:Int)=_
  unfold j3
  have pP:=zJ s
  have pP':=zJ (64-s)
  have ePP:2 ^ (64-s)*2 ^ s=18446744073709551616:=by rw[<-uN,show 64-s+s=64 by omega]
  have hhi:hi*2 ^ s+2 ^ s<=y*2 ^ s:=by
    have:=dL (2 ^ s) (show hi+1<=y from h1)
    rwa [im,Dc]at this
  have hlq:lo / 2 ^ (64-s)<2 ^ s:=by rw[nj pP'];rw[kB,ePP];exact hl
  have hlm:lo*2 ^ s=lo / 2 ^ (64-s)*18446744073709551616+lo*2 ^ s % 18446744073709551616:=by
    have e:lo*2 ^ s / 18446744073709551616=lo / 2 ^ (64-s):=by rw[<-ePP,Nat.mul_div_mul_right _ _ pP]
    have:=zK (lo*2 ^ s) 18446744073709551616
    rw[e]at this;omega
  have eS:u64.wrap (s:Int)=(s:Int):=u64_in _ (by omega) (by omega)
  have eS':u64.wrap (64-(s:Int))=((64-s:Nat):Int):=by rw[u64_in _ (by omega) (by omega)];omega
  have eP:∀m:Nat,m<=64->(2:Int) ^ (min (Int.toNat (m:Int)) u64.bits)=((2 ^ m:Nat):Int):=λm hm=>by
    rw[aU,show min m u64.bits=m from jQ hm];simp
  have ey:u64.wrap ((y:Int)*((2 ^ s:Nat):Int))=((y*2 ^ s:Nat):Int):=by rw[<-nH,u64_in _ (by omega) (by omega)]
  have eh:u64.wrap ((hi:Int)*((2 ^ s:Nat):Int))=((hi*2 ^ s:Nat):Int):=by rw[<-nH,u64_in _ (by omega) (by omega)]
  have el:u64.wrap ((lo:Int)*((2 ^ s:Nat):Int))=((lo*2 ^ s % 18446744073709551616:Nat):Int):=by rw[<-nH,bW];omega
  have ef:Int.fdiv (lo:Int) ((2 ^ (64-s):Nat):Int)=((lo / 2 ^ (64-s):Nat):Int):=by rw[eO _ (by omega)];simp
  rw[az (by simp;omega),cY (by omega),az (by simp;omega),ai es]
  simp (config:={proj:=false}) only[eS,eS',eP s (by omega),eP (64-s) (by omega),ey,eh,el,ef,avi hi _ s (by omega) hlq (by omega)]
  rw[JP ((y*2 ^ s:Nat):Int) (by omega),JP ((lo*2 ^ s % 18446744073709551616:Nat):Int) (by omega),abi ((y*2 ^ s:Nat):Int) (by omega),abi ((lo*2 ^ s % 18446744073709551616:Nat):Int) (by omega)]
  have hN:((hi*18446744073709551616+lo)*2 ^ s:Nat)=(hi*2 ^ s+lo / 2 ^ (64-s))*18446744073709551616+lo*2 ^ s % 18446744073709551616:=by
    rw[im,Nat.mul_right_comm,hlm,im];omega
  obtain⟨N,hNe⟩:∃N,N=hi*18446744073709551616+lo:=⟨_,rfl⟩
  rw[<-hNe]at hN ⊢
  have hu:hi*2 ^ s+lo / 2 ^ (64-s)<y*2 ^ s:=by omega
  have hl2:lo*2 ^ s % 18446744073709551616<18446744073709551616:=Ch _ (by omega)
  generalize hi*2 ^ s+lo / 2 ^ (64-s)=u at*
  generalize lo*2 ^ s % 18446744073709551616=l at*
  have fin:∀qt r:Int,((u:Nat):Int)*18446744073709551616+(l:Int)=qt*((y*2 ^ s:Nat):Int)+r->0<=r->r<((y*2 ^ s:Nat):Int)->0<=qt->qt=((N / y:Nat):Int)/\Int.fdiv r ((2 ^ s:Nat):Int)=((N % y:Nat):Int):=by
    intro qt r e r0 r1 q0
    obtain⟨qn,rfl⟩:=cS q0
    obtain⟨rn,rfl⟩:=cS r0
    have e2:N*2 ^ s=qn*(y*2 ^ s)+rn:=by
      rw[hN];rw[<-nH]at e;omega
    have r2:rn<y*2 ^ s:=by omega
    have d1:N*2 ^ s / (y*2 ^ s)=N / y:=Nat.mul_div_mul_right _ _ pP
    have d2:N*2 ^ s % (y*2 ^ s)=N % y*2 ^ s:=Nat.mul_mod_mul_right _ _ _
    have d3:(qn*(y*2 ^ s)+rn) / (y*2 ^ s)=qn:=by
      rw[kB qn,Nat.mul_add_div (by omega),Nat.div_eq_of_lt r2];rfl
    have d4:(qn*(y*2 ^ s)+rn) % (y*2 ^ s)=rn:=by
      rw[kB qn,Nat.mul_add_mod,kg r2]
    rw[e2,d3]at d1
    rw[e2,d4]at d2
    refine⟨by rw[d1],?_⟩
    rw[d2,eO _ (by omega),<-Int.natCast_ediv,Nat.mul_div_cancel _ pP]
  generalize hY:((y*2 ^ s:Nat):Int)=Y at*
  have Y1:9223372036854775808<=Y:=by omega
  have Y2:Y<18446744073709551616:=by omega
  have hu':((u:Nat):Int)<Y:=by omega
  have hu0:(0:Int)<=((u:Nat):Int):=by omega
  have hl0:(0:Int)<=((l:Nat):Int):=by omega
  have hl3:((l:Nat):Int)<18446744073709551616:=by omega
  generalize ((u:Nat):Int)=ui at*
  generalize ((l:Nat):Int)=li at*
  have hYs:Y / 4294967296*4294967296+Y % 4294967296=Y:=by omega
  have H1:D8 (Y / 4294967296) (Y % 4294967296) ui (li / 4294967296):=⟨by omega,by omega,by omega,by omega,by omega,by omega,by omega,by omega⟩
  have ahn:∀w:Int,0<=w->w<Y->u64.wrap (Int.tdiv w (Y / 4294967296))=w / (Y / 4294967296)/\u64.wrap (w-u64.wrap (u64.wrap (Int.tdiv w (Y / 4294967296))*(Y / 4294967296)))=w-u64.wrap (Int.tdiv w (Y / 4294967296))*(Y / 4294967296):=by
    intro w w0 w1
    have g1:=fJ w0 (show 0<=Y / 4294967296 by omega)
    have g2:w / (Y / 4294967296)<=w:=xU _ w0
    have e:u64.wrap (Int.tdiv w (Y / 4294967296))=w / (Y / 4294967296):=by rw[se w0,u64_in _ g1 (by omega)]
    refine⟨e,?_⟩
    rw[e]
    have g3:=Int.ediv_mul_le w (show Y / 4294967296≠0 by omega)
    have g4:=jc g1 (show 0<=Y / 4294967296 by omega)
    rw[u64_in (w / (Y / 4294967296)*(Y / 4294967296)) g4 (by omega),u64_in _ (by omega) (by omega)]
  rw[vj (by omega),vj (by omega),vj (by omega),vj (by omega),vj (by omega),vj (by omega),Yx (by omega)]
  refine bw λk9 RC=>?_
  refine(H1.axA (ahn ui hu0 hu').1 (ahn ui hu0 hu').2 k9).trans ?_
  subst RC
  have pf:∀(a:Int) (b:Unit),((a,b):Int×Unit).1=a:=λ_ _=>rfl
  simp (config:={proj:=false}) only[pf]
  generalize hq1:digit (Y / 4294967296) (Y % 4294967296) ui (li / 4294967296)=q1
  have n1:=H1.nn
  rw[hq1]at n1
  obtain⟨⟨w0,w1⟩,H0,⟨r0,r1⟩,tot⟩:=aeP H1 (v0:=li % 4294967296) (by omega) (by omega) hq1.symm rfl rfl
  rw[hYs]at w0 w1 r0 r1 tot
  have e21:=abh w0 (by omega)
  rw[hYs]at H0
  simp (config:={proj:=false}) only[e21]
  generalize ui*4294967296+li / 4294967296-q1*Y=w at*
  rw[Yx (by omega)]
  refine bw λk4 Vp=>?_
  refine(H0.ax9 (ahn w w0 w1).1 (ahn w w0 w1).2 k4).trans ?_
  subst Vp
  simp (config:={proj:=false}) only[pf]
  generalize hq0:digit (Y / 4294967296) (Y % 4294967296) w (li % 4294967296)=q0 at*
  have n0:=H0.nn
  rw[hq0]at n0
  rw[vj (by omega),u64_in (q1*4294967296) (by omega) (by omega),u64_in (q1*4294967296+q0) (by omega) (by omega),abh r0 (by omega)]
  obtain⟨f1,f2⟩:=fin (q1*4294967296+q0) _ (by rw[<-tot];omega) r0 r1 (by omega)
  rw[f1,f2]
theorem alZ{m d}(hm:0<=m)(hd:0<d)(hd2:d<18446744073709551616)(hq:m / d<18446744073709551616):
 qC (m / 18446744073709551616) (m % 18446744073709551616) d=some (m / d,m % d,()):=by
 obtain⟨mn,rfl⟩:=cS hm;obtain⟨dn,rfl⟩:=cS (show 0<=d by omega);have h1:mn<dn*18446744073709551616:=by have:=(nj (x:=mn) (y:=18446744073709551616) (show 0<dn by omega)).1 (by omega);omega
 by_cases h0:(mn:Int) / 18446744073709551616=0
 .rw[h0,show(mn:Int) % 18446744073709551616=(mn:Int)by omega];exact aho (by omega) (by omega) hd hd2
 .have:=alY (hi:=mn / 18446744073709551616) (lo:=mn % 18446744073709551616) (y:=dn) (by omega) (by omega) (by omega) (by omega);rw[show mn / 18446744073709551616*18446744073709551616+mn % 18446744073709551616=mn by omega]at this;have e1:((mn:Nat):Int) / 18446744073709551616=((mn / 18446744073709551616:Nat):Int):=by omega
  have e2:((mn:Nat):Int) % 18446744073709551616=((mn % 18446744073709551616:Nat):Int):=by omega
  rw[e1,e2,this,Int.natCast_ediv,Int.natCast_emod]
theorem Yy{m d}(hm:0<=m)(hm2:eN m)(hd:0<d)(hd2:cu d)(hq:m / d<9223372036854775808):abj (wide m) d=some (wide (m / d),m % d,0,()):=by
 show sr aj (wide m) d=_;unfold sr;unfold cu at hd2;have h1:=jg m (wC hd);have h2:=gC m hd;have hq0:=fJ hm (hZ hd);have e0:IntKind.u64.wrap d=d:=Sm _ (by omega);have esz:AV (wide m)=some (Dn m):=by have:=JQ (wide m) (nL m hm2);rw[tN]at this;rw[this];unfold km;rw[ag (by omega)]
 have ehi:m / 18446744073709551616<d:=by
  have h3:m<18446744073709551616*d:=by have:=Int.lt_mul_of_ediv_lt hd hq;omega
  exact iX (by omega) (by rw[iE];exact h3)
 have aqD:0<=m / 18446744073709551616:=fJ hm (by omega)
 have aeQ:qD (wide m)=some false:=by
  rw[yc];have:¬(wide m).1<0:=by unfold wide;dsimp only;omega
  rw[an this]
 have esg:jm (0,m / d,()) false=some (wide (m / d),true,()):=by
  have hr:=GS (m / d) false ⟨hq0,by omega⟩;have hi:eN (m / d):=by unfold eN;omega
  have es:Dn (m / d)=(0,m / d,()):=by unfold Dn;rw[jG hq0 (by omega),oD hq0 (by omega)]
  rw[es]at hr;rw[hr];show some (Yz (m / d),decide (eN (m / d)),())=_;rw[L9 _ hi,aq hi]
 rw[az (by simp;omega),cY (by omega),e0,ai esz,Yx (by omega),Yx (by omega)];show aj.ae (qC (Int.tmod (m / 18446744073709551616) d) (m % 18446744073709551616) d) _=_;rw[sf aqD,oD aqD ehi,ai (alZ hm hd (by omega) (by omega))];have etd:IntKind.u64.wrap (Int.tdiv (m / 18446744073709551616) d)=0:=by rw[se aqD,jG aqD ehi];rfl
 refine bw λk hk=>?_
 have kk:k (m % d,IntKind.u64.wrap (Int.tdiv (m / 18446744073709551616) d),m / d,())=some (wide (m / d),m % d,0,()):=by
  subst hk;rw[etd];have e5:IntKind.i64.wrap (m % d)=m % d:=bI _ (by omega);have inner:aj.ae (qD (wide m)) (λv7=>aj.ae (jm (0,m / d,()) v7) λv8=>some (v8.1,IntKind.i64.wrap (m % d),(0:Int),()))=some (wide (m / d),m % d,0,()):=by rw[ai aeQ,ai esg,e5]
  refine jV ?_ inner;rw[ai aeQ];exact jV (by rw[ai esg,e5]) (by rw[ai esg,e5])
 refine bw λk2 yd=>?_
 have kf:k2 (false,())=some (wide (m / d),m % d,0,()):=by subst yd;refine AP (by rfl) ?_;exact kk
 refine yu aeQ ?_;rw[az (by rfl),kf]
theorem aqE{t w s}(ht:0<=t)(hw:0<=w)(cH:t<=s)(hws:w<=s)(hs:0<s)(hI:cu s):Ie t w s=some (t*w / s,t*w % s,0,()):=by
 show rF aj t w s=_;unfold rF;have hI':=hI;unfold cu at hI';have a1:=jc ht hw;have a2:t*w<=9223372036854775807*9223372036854775807:=wB (by omega) (by omega) hw (by omega);have hq:t*w / s<=t:=by have:t*w / s<t+1:=iX hs (by have:=gy hws ht;rw[oC];omega);omega
 have hq0:=fJ a1 (hZ hs);have e1:=Fp (a:=t) (b:=w) (by unfold cu;omega) (by unfold cu;omega);have e2:=Yy (m:=t*w) (d:=s) a1 (by unfold eN;omega) hs hI (by omega);rw[ai e1,ai e2];have hz:cu (t*w / s):=by unfold cu;omega
 have e3:JR (wide (t*w / s)) 0=some (t*w / s,0,()):=by rw[D9 (vk hz),jx hz]
 rw[ai e3,az (by rfl)]
theorem atx{T}{l}(hT:0<=T)(h:∀w∈l,0<=w)(hl:l.length<=1000000):∃v,XM T l=some v/\0<=v:=by
 show ∃v,rQ aj T l=some v/\0<=v;unfold rQ;refine po (λo=>∃v,o=some v/\(0:Int)<=v) (λz=>l.length+1-z.2.1.toNat) (λz=>∃(j:Nat) (a:Int),j<=l.length/\0<=a/\z=(a,(j:Int),())) ⟨0,T,bE _,hT,rfl⟩ (by dsimp only;omega) ?_;rintro _ ⟨j,a,hj,ha0,rfl⟩ again ha;show ∃v,aj.af (decide ((j:Int)<(l.length:Int))) _ _=some v/\0<=v;by_cases hh:j<l.length
 .rw[dE hh];show ∃v,aj.aI l (j:Int) _=some v/\0<=v;rw[bO hh];dsimp only;rw[cU j (by omega)];refine ha _ ⟨j+1,_,by omega,?_,rfl⟩ (by dsimp only;omega);have:=h _ (aG hh);split<;>omega
 .have:j=l.length:=by omega
  subst this;rw[dZ];exact⟨a,rfl,ha0⟩
theorem aji{T}{l}(hT:0<=T)(h:∀w∈l,0<=w)(hl:l.length<=1000000):ael T l=some true:=by obtain⟨v,e,hv⟩:=atx hT h hl;show sH aj T l=_;unfold sH;rw[ai e,aq hv]
theorem U1{Q:List Ev}{k:Nat}(h:k<Q.length):(partsOf (Q.take (k+1)))=partsOf (Q.take k)++[(Q[k]).2.1]:=by unfold partsOf;rw[ax h,cz];rfl
theorem U2{Q}(h:∀q∈Q,0<=q.2.1)(k):0<=(partsOf (Q.take k)).sum/\(partsOf (Q.take k)).sum<=(partsOf Q).sum:=by
 have e:(partsOf Q).sum=(partsOf (Q.take k)).sum+(partsOf (Q.drop k)).sum:=by rw[<-nJ];unfold partsOf;rw[<-cz,nk]
 have nn:∀L:List Ev,(∀q∈L,0<=q.2.1)->0<=(partsOf L).sum:=λL hL=>by refine(HK (l:=partsOf L) λw hw=>?_).1;obtain⟨q,hq,rfl⟩:=aN.1 hw;exact hL q hq
 have h1:=nn (Q.take k) λq hq=>h q (fh hq)
 have h2:=nn (Q.drop k) λq hq=>h q (jt hq)
 omega
theorem aqr{T:Int}{l:List Int}(h:OkW T l)(hT:T≠0):aao T l.sum l=some (jO T l.sum l 0,(partsOf (jO T l.sum l 0)).sum,()):=by
 have K:=h.quo hT;have hl:=h.len;have h64:=h.s64;have t0:=h.t0;have ts:=h.ts;have hS:0<l.sum:=by omega
 show tJ aj T l.sum l=_;unfold tJ;rw[vj (by omega),dm (by simp;omega) (by simp;omega)];have hw:∀(i:Nat) (hi:i<l.length),Ie T l[i] l.sum=some (T*l[i] / l.sum,T*l[i] % l.sum,0,()):=λi hi=>aqE t0 (h.nn _ (aG hi)) ts ((HK h.nn).2 _ (aG hi)) hS h64
 have hg:∀(i:Nat) (hi:i<l.length),∃Tf:i<(jO T l.sum l 0).length,(jO T l.sum l 0)[i]=((i:Int),T*l[i] / l.sum,T*l[i] % l.sum,()):=λi hi=>⟨by rw[IV];exact hi,by have:=aal T l.sum l 0 i hi;rwa [sP]at this⟩
 generalize hQ:jO T l.sum l 0=Q at *;have hm:=U2 (Q:=Q) λq hq=>(K.q q hq).2.2.1
 have hlen:=K.len;have hre:=K.re;unfold cu at h64;refine vm (N:=l.length) (by omega) (λi=>((partsOf (Q.take i)).sum,(i:Int),Q.take i,())) _ (by simp[partsOf]) ?_ ?_
 .intro again;refine IZ ?_;rw[<-hlen,br]
 .intro i hi again ha;obtain⟨Tf,eg⟩:=hg i hi;refine Jp hi ?_;rw[bO hi];refine yu (hw i hi) ?_;show aj.bi ((Q.take i).length+1) 24 (again (IntKind.i64.wrap ((partsOf (Q.take i)).sum+T*l[i] / l.sum),IntKind.i64.wrap ((i:Int)+1),Q.take i++[((i:Int),T*l[i] / l.sum,T*l[i] % l.sum,())],()))=_;have e1:Q.take i++[((i:Int),T*l[i] / l.sum,T*l[i] % l.sum,())]=Q.take (i+1):=by rw[ax Tf,eg]
  have e2:(partsOf (Q.take i)).sum+T*l[i] / l.sum=(partsOf (Q.take (i+1))).sum:=by rw[U1 Tf,nJ,eg];simp
  have b:=hm (i+1);rw[dm (by rw[aX];omega) (by rw[aX];omega),e1,e2,cU i (by omega),bI _ (by omega)];exact ha
theorem Yb(q):∀(qs:List Ev) (o:List Int),bump (qs++[q]) o=(bump qs o).set q.1.toNat ((bump qs o).getD q.1.toNat 0+1)
 |[],o=>rfl
 |x::qs,o=>by rw[kh,bump,Yb q qs];rfl
theorem Yc{j}:∀(qs:List Ev) (o:List Int),(∀q∈qs,q.1.toNat≠j)->(bump qs o).getD j 0=o.getD j 0
 |[],_,_=>rfl
 |q::qs,o,h=>by rw[bump,Yc qs _ λx hx=>h x (cP _ hx),getD_set_ne (h q eH)]
theorem aap{Q}(h:Q.Pairwise λa b=>a.1<b.1)(hl:Q.length<4611686018427387904):uv Q=some (uf Q):=by unfold uv;have h1:Nat.blt Q.length 4611686018427387904=true:=gS hl;rw[h1,(Te Q).2 h];rfl
theorem aqs{o:List Int}{k:Nat}(h:k<o.length):o.getD k 0=o[k]:=by rw[eQ,aw h];rfl
theorem aty{S:List Ev}(h:S.Pairwise λa b=>a.1≠b.1){k:Nat}(hk:k<S.length):∀q∈S.take k,q.1≠(S[k]).1:=by intro q hq;obtain⟨i,hi,rfl⟩:=jL hq;rw[aX]at hi;rw[kW];exact bN.1 h i k (by omega) hk (by omega)
theorem atz{T:Int}{l:List Int}(h:OkW T l):aem T l=some (HJ T l,0,()):=by
 have hl:=h.len;have h64:=h.s64;have t0:=h.t0;have ts:=h.ts;show wt aj T l=_;unfold wt;rw[ai (aji t0 h.nn (by omega)),az (by rfl),ai (tZ h.w64 (by omega)),jx h64];rw[vj (by omega),dm (by simp;omega) (by simp;omega),Jo (by omega) (by simp),az (by rfl),aU];unfold HJ;by_cases hT:T=0
 .rw[aQ (by simp[hT]),ah hT]
 .rw[az (by simp[hT]),ag hT];have hS:0<l.sum:=by omega
  refine AP (by simp;omega) ?_;rw[ai (aqr h hT)];have K:=h.quo hT;have hat:=aqq T l.sum l;have azS:=aan T l.sum l 0;have aor:=ajh azS;have Mx:=uw (jO T l.sum l 0);have KI:∀q,q∈uf (jO T l.sum l 0)->q∈jO T l.sum l 0:=λq hq=>Mx.mem_iff.1 hq
  generalize jO T l.sum l 0=Q at *;generalize Ya T l=r at *;have hlen:=K.len;have hre:=K.re;have hm:=U2 (Q:=Q) λq hq=>(K.q q hq).2.2.1
  have hm0:=hm Q.length;rw[br]at hm0;unfold cu at h64;refine vm (N:=l.length) (by omega) (λi=>((i:Int),partsOf (Q.take i)++List.replicate (l.length-i) 0,Q,())) _ (by simp[partsOf]) ?_ ?_
  .intro again;show aj.af (decide ((l.length:Int)<(Q.length:Int))) _ (aj.ae (uv Q) λv11=>aj.kY (IntKind.i64.wrap (T-(partsOf Q).sum)) v11.length _)=_;rw[hlen,dZ,ai (aap azS (by omega)),bI _ (by omega),<-hre];have hsl:(uf Q).length=l.length:=by rw[Mx.length_eq,hlen]
   rw[Jo (by omega) (by rw[hsl];have:=K.rl;omega),aU];have hLl:((uf Q).take r).length=r:=by rw[aX,hsl];have:=K.rl;omega
   have hO:partsOf (Q.take l.length)++List.replicate (l.length-l.length) 0=partsOf Q:=by rw[<-hlen,br];simp
   refine vm (N:=r) (by have:=K.rl;omega) (λk=>((k:Int),bump ((uf Q).take k) (partsOf Q),())) _ (by simp only[hO];rfl) ?_ ?_
   .intro again;show aj.af (decide ((r:Int)<(((uf Q).take r).length:Int))) _ (some (bump ((uf Q).take r) (partsOf Q),0,()))=_;rw[hLl,dZ]
   .intro k hk again ha;have uY:k<((uf Q).take r).length:=by omega
    have yd:k<(uf Q).length:=by rw[hsl];have:=K.rl;omega
    have eg:((uf Q).take r)[k]=(uf Q)[k]:=kW;have hqQ:=KI _ (aG yd);have kq:=K.q _ hqQ;have zu:=K.pos ((uf Q)[k]) (by rw[<-eg];exact aG uY);have hpa:=aek (n:=0) hat hqQ;have hne:∀q∈(uf Q).take k,q.1.toNat≠((uf Q)[k]).1.toNat:=λq hq=>by have h1:=aty aor yd q hq;have h2:=(K.q q (KI q (fh hq))).1;omega
    have hgd:=Yc ((uf Q).take k) (partsOf Q) hne;have RU:=Yb ((uf Q)[k]) ((uf Q).take k) (partsOf Q);rw[<-ax yd,hgd,hpa.1]at RU;have u9:(bump ((uf Q).take k) (partsOf Q)).length=l.length:=by rw[UZ];unfold partsOf;rw[bh,hlen]
    rw[hpa.1]at hgd;refine Jp uY ?_;rw[bO uY,eg];generalize (uf Q)[k]=q at *;have eq1:q.1=((q.1.toNat:Nat):Int):=by omega
    have hq2:q.1.toNat<(bump ((uf Q).take k) (partsOf Q)).length:=by omega
    rw[aqs hq2]at hgd;generalize bump ((uf Q).take k) (partsOf Q)=o at *;show aj.aI o q.1 (λx16=>aj.cr o (Int.toNat q.1) λx17=>aj.aI o q.1 λx18=>aj.cr o (Int.toNat q.1) λx19=>again (IntKind.i64.wrap ((k:Int)+1),List.set o (Int.toNat q.1) (IntKind.i64.wrap (x17+1)),()))=_;rw[eq1,bO hq2,iR hq2,bO hq2,iR hq2,aU,hgd,bI (q.2.1+1) (by have:=kq.2.2.2.2.2.2 zu;omega),cU k (by have:=K.rl;omega),<-RU];exact ha
  .intro i hi again ha;have Tf:i<Q.length:=by omega
   refine Jp Tf ?_;rw[bO Tf,iR Tf];have eat:=hat i Tf;have Vz:(partsOf (Q.take i)).length=i:=by unfold partsOf;rw[bh,aX];omega
   have eo:(partsOf (Q.take i)++List.replicate (l.length-i) 0).set i (Q[i]).2.1=partsOf (Q.take (i+1))++List.replicate (l.length-(i+1)) 0:=by rw[List.set_append,ag (by omega),Vz,Av,show l.length-i=(l.length-(i+1))+1 by omega,pk,List.set_cons_zero,U1 Tf,bq];rfl
   have hol:i<(partsOf (Q.take i)++List.replicate (l.length-i) 0).length:=by rw[ap,xf];omega
   generalize Q[i]=q at *;generalize partsOf (Q.take i)++List.replicate (l.length-i) 0=o at *;show aj.aI o q.1 (λx9=>aj.cr o (Int.toNat q.1) λx10=>again (IntKind.i64.wrap ((i:Int)+1),List.set o (Int.toNat q.1) q.2.1,Q,()))=_;rw[eat,bO hol,iR hol,aU,cU i (by omega),eo];exact ha
theorem aqk{T}{l}(h:OkW T l):ag7 T l=some (HJ T l,0,()):=by have hl:=h.len;have ts:=h.ts;show uL aj T l=_;unfold uL;rw[ai (aji h.t0 h.nn (by omega)),az (by rfl),ai (tZ h.w64 (by omega)),jx h.s64,az (by rfl),cY (by omega)];exact yu (atz h) rfl
abbrev NE:=Int×Int×Unit
def ik(f:ar->NE):List ar->List Int->List Int×NE
 |[],acc=>(acc,cZ acc.sum)
 |u::l,acc=>if(f u).2.1=0 then ik f l (acc++[(f u).1])else([],0,(f u).2)
def np(as:List gT)(p:List aR)(h:List bg)(u:ar):NE:=((if ig p u<0 then 0 else(CJ as p h u).1),(CJ as p h u).2.1,())
theorem aaf{f}:∀{l:List ar} {acc:List Int},(ik f l acc).2.2.1=0->(ik f l acc).1=acc++l.map (λu=>(f u).1)/\(ik f l acc).2.1=(acc++l.map λu=>(f u).1).sum/\cu (acc++l.map λu=>(f u).1).sum/\∀u∈l,(f u).2.1=0
 |[],acc,h=>by
  have e:ik f [] acc=(acc,cZ acc.sum):=rfl;rw[e]at h ⊢;unfold cZ at h ⊢;by_cases hI:cu acc.sum
  .rw[ah hI];simp[hI]
  .rw[ag hI]at h;simp at h
 |u::l,acc,h=>by
  rw[ik]at h ⊢;by_cases he:(f u).2.1=0
  .rw[ah he]at h ⊢;obtain⟨h1,h2,h3,h4⟩:=aaf h;rw[bq]at h1 h2 h3;refine⟨h1,h2,h3,λv hv=>?_⟩;rcases aF.1 hv with rfl|hv
   .exact he
   .exact h4 v hv
  .rw[ag he]at h;exact absurd h he
theorem axr{s}{p}{h}{u}(ha:∀a∈iG s,qf a)(Cn:(iG s).length<=1000)(hh:lc h)(hf:u7 p)(hl:p.length<=1000000):
 alm (gE s p h) u=some (np (iG s) p h u):=by
 show B3 aj (gE s p h) u=_;unfold B3;have e1:=ame (s:=gE s p h) (u:=u) ha Cn hh hf hl;rw[ai e1,xk];show aj.ae (pw p u) _=_;rw[ai (Jq hl)];unfold np;refine du (λhg=>?_) λhg=>?_
 .rw[ah hg];rfl
 .rw[ag hg];rfl
theorem atv{s}{p}{h}{l}(hf:u7 p)(hl:p.length<=1000000)(hn:l.length<=1000):
 Jh (gE s p h) l=some (ik (gG p) l [],()):=by
 show kI aj (gE s p h) l=_;unfold kI;refine ib (l:=l) (by omega) (s0:=(([]:List Int),())) (λi z=>z.1.length=i/\∀x∈z.1,cu x) (λl' z=>some (ik (gG p) l' z.1,())) ⟨rfl,by simp⟩ ?_ ?_
 .rintro⟨acc,⟨⟩⟩ again ⟨h1,h2⟩;dsimp only at h1 h2;refine IZ ?_;rw[ai (tZ h2 (by omega))];rfl
 .rintro i hi ⟨acc,⟨⟩⟩ ⟨h1,h2⟩ again I2;dsimp only at h1 h2;refine Jp hi ?_;rw[bO hi,ik];refine yu (YC (s:=gE s p h) (u:=l[i]) hf hl) ?_;have h64:=(Mh hf l[i]).1;show aj.af ((gG p l[i]).2.1 != 0) (some (([],0,(gG p l[i]).2),())) (aj.bi (acc.length+1) 8 (again (IntKind.i64.wrap ((i:Int)+1),acc++[(gG p l[i]).1],())))=_;generalize gG p l[i]=r at *;by_cases he:r.2.1=0
  .rw[az (by simp[he]),ah he,dm (by omega) (by omega),cU i (by omega)];refine I2 (acc++[r.1],()) ⟨by simp[h1],λx hx=>?_⟩;rcases aT.1 hx with hx|hx
   .exact h2 x hx
   .simp only[aC]at hx;subst hx;exact h64
  .rw[fV he,ag he]
theorem aje(as)(p)(h)(u):cu (np as p h u).1/\0<=(np as p h u).1:=by
 unfold np;split
 .exact⟨by unfold cu;omega,oz _⟩
 .exact ahv as p h u
theorem atw{s}{p}{h}{l}(ha:∀a∈iG s,qf a)(Cn:(iG s).length<=1000)(hh:lc h)(hf:u7 p)(hl:p.length<=1000000)(hn:l.length<=1000):
 Ji (gE s p h) l=some (ik (np (iG s) p h) l [],()):=by
 show kJ aj (gE s p h) l=_;unfold kJ;refine ib (l:=l) (by omega) (s0:=(([]:List Int),())) (λi z=>z.1.length=i/\∀x∈z.1,cu x) (λl' z=>some (ik (np (iG s) p h) l' z.1,())) ⟨rfl,by simp⟩ ?_ ?_
 .rintro⟨acc,⟨⟩⟩ again ⟨h1,h2⟩;dsimp only at h1 h2;refine IZ ?_;rw[ai (tZ h2 (by omega))];rfl
 .rintro i hi ⟨acc,⟨⟩⟩ ⟨h1,h2⟩ again I2;dsimp only at h1 h2;refine Jp hi ?_;rw[bO hi,ik];refine yu (axr ha Cn hh hf hl) ?_;have h64:=(aje (iG s) p h l[i]).1;show aj.af ((np (iG s) p h l[i]).2.1 != 0) (some (([],0,(np (iG s) p h l[i]).2),())) (aj.bi (acc.length+1) 8 (again (IntKind.i64.wrap ((i:Int)+1),acc++[(np (iG s) p h l[i]).1],())))=_;generalize np (iG s) p h l[i]=r at *;by_cases he:r.2.1=0
  .rw[az (by simp[he]),ah he,dm (by omega) (by omega),cU i (by omega)];refine I2 (acc++[r.1],()) ⟨by simp[h1],λx hx=>?_⟩;rcases aT.1 hx with hx|hx
   .exact h2 x hx
   .simp only[aC]at hx;subst hx;exact h64
  .rw[fV he,ag he]
def aed(as:List gT)(p:List aR)(h:List bg)(l:List ar):Int:=min (ik (gG p) l []).2.1 (ik (np as p h) l []).2.1
def Qr(as:List gT)(p:List aR)(h:List bg)(l:List ar):List Int:=HJ (aed as p h l) (ik (np as p h) l []).1
def Qs(as:List gT)(p:List aR)(h:List bg)(l:List ar):List Int:=HJ (aed as p h l) (ik (gG p) l []).1
def vt(as:List gT)(l:List ar)(p:List aR)(h:List bg):Oc:=if(ik (gG p) l []).2.2.1=0 then if(ik (np as p h) l []).2.2.1=0 then o5 ((tt (l.zip (Qr as p h l)) (l.zip (Qs as p h l))).map (Lr as)) p h []else([],[],[],(ik (np as p h) l []).2.2.1)else([],[],[],(ik (gG p) l []).2.2.1)
theorem aqi{as}{p}{h}{l}(hf:u7 p)(hn:l.length<=1000)(e1:(ik (gG p) l []).2.2.1=0)(e2:(ik (np as p h) l []).2.2.1=0):
 OkW (aed as p h l) (ik (np as p h) l []).1/\OkW (aed as p h l) (ik (gG p) l []).1/\(ik (np as p h) l []).1.length=l.length/\(ik (gG p) l []).1.length=l.length:=by
 obtain⟨a1,a2,a3,_⟩:=aaf e1;obtain⟨b1,b2,b3,_⟩:=aaf e2;rw[dA]at a1 a2 a3 b1 b2 b3;have n1:∀w∈l.map (λu=>(gG p u).1),0<=w:=λw hw=>by obtain⟨u,_,rfl⟩:=aN.1 hw;exact(Mh hf u).2
 have n2:∀w∈l.map (λu=>(np as p h u).1),0<=w:=λw hw=>by obtain⟨u,_,rfl⟩:=aN.1 hw;exact(aje as p h u).2
 have s1:=(HK n1).1;have s2:=(HK n2).1;unfold aed;rw[a1,a2,b1,b2];exact⟨⟨by omega,by omega,n2,b3,by rw[bh];exact hn⟩,⟨by omega,by omega,n1,a3,by rw[bh];exact hn⟩,bh ..,bh ..⟩
theorem X'(as)(l)(hn:l.length<=20):Gp (λp h=>vt as l p h) 40:=by
 intro p h d n S hb he;dsimp only at he ⊢;unfold vt at he ⊢;by_cases e1:(ik (gG p) l []).2.2.1=0
 .rw[ah e1]at he ⊢;by_cases e2:(ik (np as p h) l []).2.2.1=0
  .rw[ah e2]at he ⊢;have hlen:((tt (l.zip (Qr as p h l)) (l.zip (Qs as p h l))).map (Lr as)).length<=40:=by rw[bh];refine cp (aad _ _ _ (au _)) ?_;rw[tX,tX];omega
   have hg:∀a∈(tt (l.zip (Qr as p h l)) (l.zip (Qs as p h l))).map (Lr as),Gp a 1:=λa ha=>by obtain⟨x,_,rfl⟩:=aN.1 ha;exact aae as x.1 x.2.1 x.2.2
   generalize (tt (l.zip (Qr as p h l)) (l.zip (Qs as p h l))).map (Lr as)=L at *;have S':StR p h (d++[]) n:=by rw[cy];exact S
   obtain⟨d1,d2⟩:=Qq L p h [] d;have he':(o5 L p h (d++[])).2.2.2=0:=by rw[d1];exact he
   have R:=ajd L hg p h (d++[]) n S' (by omega) he';rw[d2 he]at R;have r1:(o5 L p h []).1.length<=94+40*(n+1*L.length):=R.pl;have r2:(o5 L p h []).2.1.length<=94+32*(n+1*L.length):=R.hl;have r3:(d++(o5 L p h []).2.2.1).length<=n+1*L.length:=R.dl;exact⟨R.f,by omega,R.hh,by omega,by omega⟩
  .rw[ag e2]at he;exact absurd he e2
 .rw[ag e1]at he;exact absurd he e1
set_option maxHeartbeats 1000000
def stT{T:Type}(s:aV)(p:List aR)(h:List bg)(t:T):Int×List aW×List bF×List bf×List aD×List bz×List bP×List bZ×List bC×List bC×List aR×List bg×T:=(s.1,s.2.1,s.2.2.1,s.2.2.2.1,s.2.2.2.2.1,s.2.2.2.2.2.1,s.2.2.2.2.2.2.1,s.2.2.2.2.2.2.2.1,s.2.2.2.2.2.2.2.2.1,s.2.2.2.2.2.2.2.2.2.1,p,h,t)
theorem US{l:List ar}{t:List Int}:∀{k:Nat} (hk:k<l.length) (ht:t.length=l.length),(l.zip t).drop k=(l[k],t[k]'(by omega))::(l.zip t).drop (k+1):=by
 intro k hk ht;have h1:k<(l.zip t).length:=by rw[tX];omega
 rw[ck h1,List.getElem_zip]
theorem R5:∀(l:List ar) (t:List Int) (k:Nat) (v:Int),(l.zip (t.set k v)).drop (k+1)=(l.zip t).drop (k+1)
 |[],t,k,v=>by simp
 |u::l,[],k,v=>by simp
 |u::l,x::t,0,v=>by simp
 |u::l,x::t,k+1,v=>by rw[Cj,Cm,Cm,tm,tm];exact R5 l t k v
theorem aee{l:List ar}{t:List Int}{k:Nat}(hk:k<l.length)(ht:t.length=l.length)(v:Int):(l.zip (t.set k v)).drop k=(l[k],v)::(l.zip t).drop (k+1):=by rw[US (t:=t.set k v) hk (by simpa using ht),R5];simp
def aln(l:List Int):Prop:=∀x∈l,0<=x/\cu x
theorem R6{l}(h:aln l){k}{v:Int}(h0:0<=v)(h1:cu v):aln (l.set k v):=λx hx=>by
 rcases sX hx with hx|rfl
 .exact h x hx
 .exact⟨h0,h1⟩
theorem aqj{s:aV}{p:List aR}{h:List bg}{l:List ar}{m0:Nat}(ha:∀a∈iG s,qf a)(Cn:(iG s).length<=1000)(hn:l.length<=20)(S:StR p h [] m0)(hm0:m0+40<=10000):
 aef (gE s p h) l=some (qT s (vt (iG s) l p h)):=by
 have Vz:=S.pl;have hhl:=S.hl;show wq aj (gE s p h) l=_;unfold wq;rw[ai (atv S.f (by omega) (by omega)),ai (atw ha Cn S.hh S.f (by omega) (by omega))];refine bw λk59 azM=>?_
 unfold vt;have err:∀e:Int,e≠0->qT s ([],[],[],e)=(zS,[],e,()):=λe he=>by unfold qT;rw[ag he]
 have axs:∀e,e=(if(ik (gG p) l []).2.2.1=0 then(ik (np (iG s) p h) l []).2.2.1 else(ik (gG p) l []).2.2.1)->k59 (true,(ik (gG p) l []).1,(ik (np (iG s) p h) l []).1,())=some (zS,[],e,()):=by rintro _ rfl;subst azM;refine VA (by rfl) ?_;rw[ai (atE _ _)];rfl
 show aj.af ((ik (gG p) l []).2.2.1 != 0) (k59 (true,(ik (gG p) l []).1,(ik (np (iG s) p h) l []).1,())) (k59 ((ik (np (iG s) p h) l []).2.2.1 != 0,(ik (gG p) l []).1,(ik (np (iG s) p h) l []).1,()))=_;by_cases e1:(ik (gG p) l []).2.2.1=0
 .rw[az (by simp[e1]),ah e1];by_cases e2:(ik (np (iG s) p h) l []).2.2.1=0
  .rw[ah e2,show((ik (np (iG s) p h) l []).2.2.1 != 0)=false by simp[e2]];clear axs;obtain⟨w1,w2,c1,c2⟩:=aqi (as:=iG s) (h:=h) S.f (by omega) e1 e2;have a0Z:cu (aed (iG s) p h l):=by have:=w1.s64;have:=w1.t0;have:=w1.ts;unfold cu at *;omega
   have f1:=aqk w1;have f2:=aqk w2;obtain⟨s1,s2⟩:=w1.split;obtain⟨s3,s4⟩:=w2.split;have g1:aln (Qr (iG s) p h l):=λx hx=>by have:=s2 x hx;unfold cu at *;omega
   have g2:aln (Qs (iG s) p h l):=λx hx=>by have:=s4 x hx;unfold cu at *;omega
   have g3:(Qr (iG s) p h l).length=l.length:=s1.trans c1;have g4:(Qs (iG s) p h l).length=l.length:=s3.trans c2;subst azM;have azN:(if(ik (np (iG s) p h) l []).2.1<(ik (gG p) l []).2.1 then(ik (np (iG s) p h) l []).2.1 else(ik (gG p) l []).2.1)=aed (iG s) p h l:=by unfold aed;split<;>omega
   refine AP (by rfl) ?_;rw[azN,ai f1,ai f2];refine bw λk8 hk8=>?_
   have K8:∀p1 h1 (out:List ye),k8 (stT s p1 h1 (out,()))=some (gE s p1 h1,out,0,()):=by intro p1 h1 out;subst hk8;rfl
   clear hk8;show aj.aY _ ((0:Int),(0:Int),stT s p h (Qr (iG s) p h l,Qs (iG s) p h l,([]:List ye),()))=_;generalize Qr (iG s) p h l=gv0 at *;generalize Qs (iG s) p h l=tk0 at *;generalize azO:some (qT s (o5 ((tt (l.zip gv0) (l.zip tk0)).map (Lr (iG s))) p h []))=res
   refine po (λo=>o=res) (λz=>2*l.length+1-z.1.toNat-z.2.1.toNat)
    (λz=>∃(i k:Nat) (p1:List aR) (h1:List bg) (gv tk:List Int) (out:List ye) (m:Nat),z=((i:Int),(k:Int),stT s p1 h1 (gv,tk,out,()))/\i<=l.length/\k<=l.length/\gv.length=l.length/\tk.length=l.length/\aln gv/\aln tk/\StR p1 h1 out m/\m+(l.length-i)+(l.length-k)<=10000/\some (qT s (o5 ((tt ((l.zip gv).drop i) ((l.zip tk).drop k)).map (Lr (iG s))) p1 h1 out))=res)
    ⟨0,0,p,h,gv0,tk0,[],m0,rfl,bE _,bE _,g3,g4,g1,g2,S,by omega,by rw[sj,sj];exact azO⟩ (by dsimp only;omega) ?_
   clear azO f1 f2 s1 s2 s3 s4 w1 w2 c1 c2 g1 g2 g3 g4 azN a0Z;rintro _ ⟨i,k,p1,h1,gv,tk,out,m,rfl,hi,hk,lg,lt,ng,nt,St,hm,hr⟩ again I2;have KL:=St.pl;have hh1:=St.hl;have hd1:=St.dl
   have stop:(i=l.length\/k=l.length)->k8 (stT s p1 h1 (out,()))=res:=by
    intro hik;rw[K8,<-hr]
    have e:tt ((l.zip gv).drop i) ((l.zip tk).drop k)=[]:=by
     have lz1:(l.zip gv).length=l.length:=by rw[tX];omega
     have lz2:(l.zip tk).length=l.length:=by rw[tX];omega
     rcases hik with rfl|rfl
     .rw[<-lz1,fH,tt]
     .rw[<-lz2,fH];cases(l.zip gv).drop i with
      |nil=>rw[tt]
      |cons a b=>rw[tt]
    rw[e];rfl
   show aj.af (decide ((i:Int)<(gv.length:Int))) (aj.af (decide ((k:Int)<(tk.length:Int))) _ (k8 (stT s p1 h1 (out,())))) (k8 (stT s p1 h1 (out,())))=res;by_cases PS:i<l.length
   .have hig:i<gv.length:=by omega
    rw[dE hig];by_cases hkl:k<l.length
    .have hkt:k<tk.length:=by omega
     rw[dE hkt];clear stop K8;rw[US PS lg,US hkl lt,tt,bK,o5]at hr;have nx:=ng _ (aG hig);have ny:=nt _ (aG hkt);have sg:=R5 l gv i;have st:=R5 l tk k;have sg0:=aee (l:=l) PS lg;have st0:=aee (l:=l) hkl lt;have es1:∀v,(gv.set i v)[i]'(by rw[fG];exact hig)=v:=λv=>q6 _
     generalize hx:gv[i]=x at *;generalize hy:tk[k]=y at *;show aj.aI gv (i:Int) (λ_=>aj.aI tk (k:Int) λ_=>aj.cr gv (Int.toNat (i:Int)) λx13=>aj.cr tk (Int.toNat (k:Int)) λx14=>aj.aI l (i:Int) λx15=>aj.aI l (k:Int) λx16=>aj.two (aj.ae (WS (gE s p1 h1) x15 x16 (if x14<x13 then x14 else x13)) _))=res;rw[bO hig,bO hkt,iR hig,iR hkt,bO PS,bO hkl,ja,hx,hy]
     .obtain⟨n,hnn⟩:∃n,n=(if y<x then y else x):=⟨_,rfl⟩;have GO:n=min x y:=by rw[hnn];split<;>omega
      rw[<-hnn];rw[<-GO]at hr;have nI:cu n:=by have:=nx.2;have:=ny.2;unfold cu at *;omega
      have xn:0<=x-n/\cu (x-n):=by have:=nx.2;unfold cu at *;omega
      have yn:0<=y-n/\cu (y-n):=by have:=ny.2;unfold cu at *;omega
      rw[ai (amp ha Cn St.hh (by omega) St.f (by omega) nI)];have VZ:=aae (iG s) l[i] l[k] n p1 h1 out m St (by omega);have er:Lr (iG s) (l[i],l[k],n) p1 h1=CK (iG s) p1 h1 l[i] l[k] n:=rfl;rw[er]at hr;dsimp only at VZ;generalize CK (iG s) p1 h1 l[i] l[k] n=r at *;by_cases he:r.2.2.2=0
      .rw[ah he]at hr;have S2:=VZ he;have erd:qT s r=(gE s r.1 r.2.1,r.2.2.1,0,()):=by unfold qT;rw[ah he]
       have hd2:=S2.dl;rw[ap]at hd2;rw[erd];show aj.af ((0:Int) != 0) _ (aj.bi (out.length+r.2.2.1.length) 40 _)=res;rw[az (by rfl),dm (by omega) (by omega)];refine bw λk18 azP=>?_
       have K18:k18 (gv.set i (x-n),tk.set k (y-n),out++r.2.2.1,())=res:=by
        subst azP;have azQ:i<(gv.set i (x-n)).length:=by rw[fG];exact hig
        show aj.aI (gv.set i (x-n)) (i:Int) (λ_=>aj.cr (gv.set i (x-n)) (Int.toNat (i:Int)) λx17=>aj.af (x17==0) (again (i64.wrap ((i:Int)+1),(k:Int),stT s r.1 r.2.1 (gv.set i (x-n),tk.set k (y-n),out++r.2.2.1,()))) (again ((i:Int),i64.wrap ((k:Int)+1),stT s r.1 r.2.1 (gv.set i (x-n),tk.set k (y-n),out++r.2.2.1,()))))=res;rw[bO azQ,iR azQ,es1];by_cases hc:x<=y
        .have en:n=x:=by omega
         rw[ah hc]at hr;rw[aQ (by simp;omega),cU i (by omega)];refine I2 _ ⟨i+1,k,r.1,r.2.1,gv.set i (x-n),tk.set k (y-n),out++r.2.2.1,m+1,rfl,by omega,hk,by rw[fG];exact lg,by rw[fG];exact lt,R6 ng xn.1 xn.2,R6 nt yn.1 yn.2,S2,by omega,?_⟩ (by dsimp only;omega);rw[sg,st0,en];exact hr
        .have en:n=y:=by omega
         rw[ag hc]at hr;rw[az (by simp;omega),cU k (by omega)];refine I2 _ ⟨i,k+1,r.1,r.2.1,gv.set i (x-n),tk.set k (y-n),out++r.2.2.1,m+1,rfl,by omega,by omega,by rw[fG];exact lg,by rw[fG];exact lt,R6 ng xn.1 xn.2,R6 nt yn.1 yn.2,S2,by omega,?_⟩ (by dsimp only;omega);rw[sg0,st,en];exact hr
       clear azP;have w1:i64.wrap (x-n)=x-n:=bI _ (by have:=xn.2;unfold cu at this;omega);have w2:i64.wrap (y-n)=y-n:=bI _ (by have:=yn.2;unfold cu at this;omega);show aj.aI gv (i:Int) (λ_=>aj.aI tk (k:Int) λ_=>aj.gJ (aj.cr gv (Int.toNat (i:Int)) λx21=>aj.cr tk (Int.toNat (k:Int)) λx22=>aj.aI gv (i:Int) λ_=>aj.cr gv (Int.toNat (i:Int)) λ_=>aj.aI tk (k:Int) λ_=>aj.cr tk (Int.toNat (k:Int)) λ_=>k18 (gv.set (Int.toNat (i:Int)) (i64.wrap (x21-n)),tk.set (Int.toNat (k:Int)) (i64.wrap (x22-n)),out++r.2.2.1,())) (aj.cr tk (Int.toNat (k:Int)) λx27=>aj.cr gv (Int.toNat (i:Int)) λx28=>aj.aI gv (i:Int) λ_=>aj.cr gv (Int.toNat (i:Int)) λ_=>aj.aI tk (k:Int) λ_=>aj.cr tk (Int.toNat (k:Int)) λ_=>k18 (gv.set (Int.toNat (i:Int)) (i64.wrap (x28-n)),tk.set (Int.toNat (k:Int)) (i64.wrap (x27-n)),out++r.2.2.1,())))=res;rw[bO hig,bO hkt];exact jV (by rw[iR hig,iR hkt,bO hig,iR hig,bO hkt,iR hkt,hx,hy,w1,w2,aU,aU,K18]) (by rw[iR hkt,iR hig,bO hig,iR hig,bO hkt,iR hkt,hx,hy,w1,w2,aU,aU,K18])
      .rw[ag he]at hr;have erd:qT s r=(zS,[],r.2.2.2,()):=by unfold qT;rw[ag he]
       rw[erd];show aj.af (r.2.2.2 != 0) (some (zS,[],r.2.2.2,())) _=res;rw[aQ (by simpa using he),<-hr,err _ he]
    .have e:k=tk.length:=by omega
     have hkk:k=l.length:=by omega
     rw[show aj.af (decide ((k:Int)<(tk.length:Int))) _ (k8 (stT s p1 h1 (out,())))=k8 (stT s p1 h1 (out,()))from by rw[e,dZ]];exact stop (.inr hkk)
   .have e:i=gv.length:=by omega
    have hii:i=l.length:=by omega
    rw[show ∀A,aj.af (decide ((i:Int)<(gv.length:Int))) A (k8 (stT s p1 h1 (out,())))=k8 (stT s p1 h1 (out,()))from λA=>by rw[e,dZ]];exact stop (.inl hii)
  .rw[ag e2,show((ik (np (iG s) p h) l []).2.2.1 != 0)=true by simpa using e2,axs _ rfl,ah e1,err _ e2]
 .rw[aQ (by simpa using e1),ag e1,axs _ rfl,ag e1,err _ e1]
def sW(st:Oc)(a:Gw):Oc:=if st.2.2.2=0 then if(a st.1 st.2.1).2.2.2=0 then((a st.1 st.2.1).1,(a st.1 st.2.1).2.1,st.2.2.1++(a st.1 st.2.1).2.2.1,0)else(st.1,st.2.1,st.2.2.1,(a st.1 st.2.1).2.2.2)else st
def qZ(l:List Gw)(st:Oc):Oc:=l.foldl sW st
theorem aeg:∀(l:List Gw) {st:Oc},st.2.2.2≠0->qZ l st=st
 |[],_,_=>rfl
 |a::l,st,h=>by
  have e:sW st a=st:=by unfold sW;rw[ag h]
  show qZ l (sW st a)=st;rw[e];exact aeg l h
theorem aql:∀(l:List Gw) (p:List aR) (h:List bg) (d:List ye),
 (qZ l (p,h,d,0)).2.2.2=(o5 l p h d).2.2.2/\((o5 l p h d).2.2.2=0->qZ l (p,h,d,0)=o5 l p h d)/\((o5 l p h d).2.2.2≠0->o5 l p h d=([],[],[],(o5 l p h d).2.2.2))
 |[],p,h,d=>⟨rfl,λ_=>rfl,λh0=>absurd rfl h0⟩
 |a::l,p,h,d=>by
  rw[o5];by_cases he:(a p h).2.2.2=0
  .have e:sW (p,h,d,0) a=((a p h).1,(a p h).2.1,d++(a p h).2.2.1,0):=by unfold sW;rw[ah rfl,ah he]
   rw[ah he,qZ,lq,e];exact aql l _ _ _
  .have e:sW (p,h,d,0) a=(p,h,d,(a p h).2.2.2):=by unfold sW;rw[ah rfl,ag he]
   rw[ag he,qZ,lq,e];have:=aeg l (st:=(p,h,d,(a p h).2.2.2)) he;rw[qZ]at this;rw[this];exact⟨rfl,λh0=>absurd h0 he,λ_=>rfl⟩
theorem CZ(l1 l2)(st):qZ (l1++l2) st=qZ l2 (qZ l1 st):=Dj
def StO(st:Oc)(n:Nat):Prop:=st.2.2.2=0->StR st.1 st.2.1 st.2.2.1 n
theorem R7{a:Gw}{k:Nat}(hg:Gp a k){st:Oc}{n:Nat}(h:StO st n)(hn:n+k<=10000):StO (sW st a) (n+k):=by
 intro he;unfold sW at he ⊢;by_cases h0:st.2.2.2=0
 .rw[ah h0]at he ⊢;by_cases h1:(a st.1 st.2.1).2.2.2=0
  .rw[ah h1];exact hg st.1 st.2.1 st.2.2.1 n (h h0) hn h1
  .rw[ag h1]at he;exact absurd he h1
 .rw[ag h0]at he;exact absurd he h0
theorem StO.mono{st}{n m:Nat}(h:StO st n)(hm:n<=m):StO st m:=λhe=>by have S:=h he;have a:=S.pl;have b:=S.hl;have c:=S.dl;exact⟨S.f,by omega,S.hh,by omega,by omega⟩
theorem aag{k:Nat}:∀(l:List Gw),(∀a∈l,Gp a k)->∀{st:Oc} {n:Nat},StO st n->n+k*l.length<=10000->StO (qZ l st) (n+k*l.length)
 |[],_,st,n,h,_=>h
 |a::l,hl,st,n,h,hn=>by rw[aJ,wL]at hn ⊢;have:=aag l (λb hb=>hl b (cP _ hb)) (R7 (hl a eH) h (by omega)) (by omega);rw[show n+(k*l.length+k)=n+k+k*l.length by omega];exact this
def Nr(s:aV)(st:Oc):=stT s st.1 st.2.1 (st.2.2.1,st.2.2.2,())
def UT(s:aV)(st:Oc):=stT s st.1 st.2.1 (st.2.2.2,st.2.2.1,())
theorem ag5{s}{st r:Oc}(hd:r.2.2.2=0->st.2.2.1.length+r.2.2.1.length<=1000000):
 V0 s.1 s.2.1 s.2.2.1 s.2.2.2.1 s.2.2.2.2.1 s.2.2.2.2.2.1 s.2.2.2.2.2.2.1 s.2.2.2.2.2.2.2.1 s.2.2.2.2.2.2.2.2.1 s.2.2.2.2.2.2.2.2.2.1 st.1 st.2.1 st.2.2.1 st.2.2.2 (qT s r).1 (qT s r).2.1 (qT s r).2.2.1=some ((),Nr s (if r.2.2.2=0 then(r.1,r.2.1,st.2.2.1++r.2.2.1,0)else(st.1,st.2.1,st.2.2.1,r.2.2.2))):=by
 show mW aj s.1 s.2.1 s.2.2.1 s.2.2.2.1 s.2.2.2.2.1 s.2.2.2.2.2.1 s.2.2.2.2.2.2.1 s.2.2.2.2.2.2.2.1 s.2.2.2.2.2.2.2.2.1 s.2.2.2.2.2.2.2.2.2.1 st.1 st.2.1 st.2.2.1 st.2.2.2 (qT s r).1 (qT s r).2.1 (qT s r).2.2.1=_;unfold mW;by_cases he:r.2.2.2=0
 .have h:=hd he;have e:qT s r=(gE s r.1 r.2.1,r.2.2.1,0,()):=by unfold qT;rw[ah he]
  rw[e,ah he];show aj.af ((0:Int)==0) (aj.bi (st.2.2.1.length+r.2.2.1.length) 40 (some ((),Nr s (r.1,r.2.1,st.2.2.1++r.2.2.1,0)))) _=_;rw[aQ (by rfl),dm (by omega) (by omega)]
 .have e:qT s r=(zS,[],r.2.2.2,()):=by unfold qT;rw[ag he]
  rw[e,ag he];exact tqn he rfl
theorem UU{st}(a)(h:st.2.2.2=0):sW st a=(if(a st.1 st.2.1).2.2.2=0 then((a st.1 st.2.1).1,(a st.1 st.2.1).2.1,st.2.2.1++(a st.1 st.2.1).2.2.1,0)else(st.1,st.2.1,st.2.2.1,(a st.1 st.2.1).2.2.2)):=by unfold sW;rw[ah h]
theorem UW{a}{k:Nat}(hg:Gp a k){st:Oc}{n:Nat}(h:StO st n)(hn:n+k<=10000)(h0:st.2.2.2=0):(a st.1 st.2.1).2.2.2=0->st.2.2.1.length+(a st.1 st.2.1).2.2.1.length<=1000000:=λh1=>by have:=(hg st.1 st.2.1 st.2.2.1 n (h h0) hn h1).dl;rw[ap]at this;omega
def yk(as:List gT)(us:List ar):List Gw:=us.map λu=>λp h=>QM as p h u
def jk(as:List gT)(l:List aD):List Gw:=(l.filter λa=>a.2.2.1==2).map λa=>vt as (bY a)
def oq(as:List gT)(by' us:List ar):List Gw:=us.flatMap λu=>by'.map λb=>λp h=>JS as p h b u
theorem alo{s}{st:Oc}{l:List ar}{n:Nat}(ha:∀a∈iG s,qf a)(Cn:(iG s).length<=1000)(S:StO st n)(hn:n+l.length<=10000):
 aah s.1 s.2.1 s.2.2.1 s.2.2.2.1 s.2.2.2.2.1 s.2.2.2.2.2.1 s.2.2.2.2.2.2.1 s.2.2.2.2.2.2.2.1 s.2.2.2.2.2.2.2.2.1 s.2.2.2.2.2.2.2.2.2.1 st.1 st.2.1 st.2.2.1 st.2.2.2 l=some ((),Nr s (qZ (yk (iG s) l) st)):=by
 show tI aj s.1 s.2.1 s.2.2.1 s.2.2.2.1 s.2.2.2.2.1 s.2.2.2.2.2.1 s.2.2.2.2.2.2.1 s.2.2.2.2.2.2.2.1 s.2.2.2.2.2.2.2.2.1 s.2.2.2.2.2.2.2.2.2.1 st.1 st.2.1 st.2.2.1 st.2.2.2 l=_;unfold tI;refine ni (l:=l) (s0:=st) (by omega) (λi (z:Oc)=>((i:Int),UT s z)) (λi z=>StO z (n+i)) (λl' z=>some ((),Nr s (qZ (yk (iG s) l') z))) rfl S ?_ ?_
 .intro z _ again;refine IZ ?_;rfl
 .intro i hi z hz again I2;refine Jp hi ?_;have VZ:=ajc (iG s) l[i];have hz1:=R7 VZ hz (by omega);refine bw λk hk=>?_
  have K:∀z',z'=sW z (λp h=>QM (iG s) p h l[i])->k (UT s z')=some ((),Nr s (qZ (yk (iG s) (l.drop (i+1))) (sW z λp h=>QM (iG s) p h l[i]))):=by rintro _ rfl;subst hk;dsimp only;rw[cU i (by omega)];exact I2 _ hz1
  refine tix hi ?_;by_cases h0:z.2.2.2=0
  .have S0:=hz h0;have pl:=S0.pl;have hl:=S0.hl;show aj.af (z.2.2.2==0) (aj.ae (abx (gE s z.1 z.2.1) l[i]) _) _=_;rw[aQ (by simp[h0]),ai (avt ha Cn S0.hh (by omega) S0.f (by omega))];refine yu (ag5 (UW VZ hz (by omega) h0)) ?_;exact K _ (UU (λp h=>QM (iG s) p h l[i]) h0).symm
  .refine tqn h0 ?_;exact K z (by unfold sW;rw[ag h0])
theorem Rq(as)(a)(l)(st):qZ (jk as (a::l)) st=if a.2.2.1=2 then qZ (jk as l) (sW st (vt as (bY a)))else qZ (jk as l) st:=by
 unfold jk;rw[bu];by_cases h:a.2.2.1=2
 .rw[ah (by simp[h]),ah h];rfl
 .rw[ag (by simp[h]),ag h]
theorem IU{a}(h:a.2.2.2.1.length<=20):(bY a).length<=20:=by
 unfold bY;split
 .simp
 .rw[bh];exact h
theorem aai{s}{st:Oc}{l:List aD}{n:Nat}(ha:∀a∈iG s,qf a)(Cn:(iG s).length<=1000)(hA:∀a∈l,a.2.2.2.1.length<=20)(S:StO st n)(hn:n+40*l.length<=10000):
 Rr s.1 s.2.1 s.2.2.1 s.2.2.2.1 s.2.2.2.2.1 s.2.2.2.2.2.1 s.2.2.2.2.2.2.1 s.2.2.2.2.2.2.2.1 s.2.2.2.2.2.2.2.2.1 s.2.2.2.2.2.2.2.2.2.1 st.1 st.2.1 st.2.2.1 st.2.2.2 l=some ((),Nr s (qZ (jk (iG s) l) st)):=by
 show pO aj s.1 s.2.1 s.2.2.1 s.2.2.2.1 s.2.2.2.2.1 s.2.2.2.2.2.1 s.2.2.2.2.2.2.1 s.2.2.2.2.2.2.2.1 s.2.2.2.2.2.2.2.2.1 s.2.2.2.2.2.2.2.2.2.1 st.1 st.2.1 st.2.2.1 st.2.2.2 l=_;unfold pO;refine ni (l:=l) (s0:=st) (by omega) (λi (z:Oc)=>((i:Int),UT s z)) (λi z=>StO z (n+40*i)) (λl' z=>some ((),Nr s (qZ (jk (iG s) l') z))) rfl S ?_ ?_
 .intro z _ again;refine IZ ?_;rfl
 .intro i hi z hz again I2;rw[Rq];refine Jp hi ?_;have hu:=IU (hA _ (aG hi));have VZ:=X' (iG s) (bY l[i]) hu;have auL:=VZ;have hz1:=R7 auL hz (by omega);refine bw λk hk=>?_
  have K:∀z',StO z' (n+40*i+40)->k (UT s z')=some ((),Nr s (qZ (jk (iG s) (l.drop (i+1))) z')):=by intro z' h';subst hk;dsimp only;rw[cU i (by omega)];exact I2 _ h'
  refine tix hi ?_;refine bw λk13 aqV=>?_
  have Kf:k13 (false,UT s z)=some ((),Nr s (qZ (jk (iG s) (l.drop (i+1))) z)):=by subst aqV;refine AP (by rfl) ?_;exact K z (hz.mono (by omega))
  have Kt:z.2.2.2=0->k13 (true,UT s z)=some ((),Nr s (qZ (jk (iG s) (l.drop (i+1))) (sW z (vt (iG s) (bY l[i]))))):=by intro h0;have S0:=hz h0;have pl:=S0.pl;have hl:=S0.hl;subst aqV;refine VA (by rfl) ?_;rw[ja];refine yu (show xK l[i]=some (bY l[i])from yr (a:=l[i]) (by have:=hA _ (aG hi);omega)) ?_;have S1:StR z.1 z.2.1 [] (n+40*i):=⟨S0.f,S0.pl,S0.hh,S0.hl,bE _⟩;refine yu (aqj ha Cn hu S1 (by omega)) ?_;refine yu (ag5 (UW auL hz (by omega) h0)) ?_;have:=K _ hz1;rw[UU (vt (iG s) (bY l[i])) h0]at this ⊢;exact this
  show aj.af (z.2.2.2==0) (k13 (l[i].2.2.1==2,UT s z)) (k13 (false,UT s z))=_;by_cases h0:z.2.2.2=0
  .rw[aQ (by simp[h0])];by_cases yd:l[i].2.2.1=2
   .rw[ah yd,show(l[i].2.2.1==2)=true by simp[yd]];exact Kt h0
   .rw[ag yd,show(l[i].2.2.1==2)=false by simp[yd]];exact Kf
  .rw[py h0,Kf];have e:sW z (vt (iG s) (bY l[i]))=z:=by unfold sW;rw[ag h0]
   rw[e];split<;>rfl
theorem aaj(as)(by')(u)(us)(st):qZ (oq as by' (u::us)) st=qZ (oq as by' us) (qZ (by'.map λb=>λp h=>JS as p h b u) st):=by unfold oq;rw[cw,CZ]
theorem Ns{s}{st:Oc}{l by':List ar}{n:Nat}(ha:∀a∈iG s,qf a)(Cn:(iG s).length<=1000)(S:StO st n)(hn:n+by'.length*l.length<=10000)(Wx:l.length<=10000)(u9:by'.length<=10000):
 Rs s.1 s.2.1 s.2.2.1 s.2.2.2.1 s.2.2.2.2.1 s.2.2.2.2.2.1 s.2.2.2.2.2.2.1 s.2.2.2.2.2.2.2.1 s.2.2.2.2.2.2.2.2.1 s.2.2.2.2.2.2.2.2.2.1 st.1 st.2.1 st.2.2.1 st.2.2.2 l by'=some ((),Nr s (qZ (oq (iG s) by' l) st)):=by
 show my aj s.1 s.2.1 s.2.2.1 s.2.2.2.1 s.2.2.2.2.1 s.2.2.2.2.2.1 s.2.2.2.2.2.2.1 s.2.2.2.2.2.2.2.1 s.2.2.2.2.2.2.2.2.1 s.2.2.2.2.2.2.2.2.2.1 st.1 st.2.1 st.2.2.1 st.2.2.2 l by'=_;unfold my;refine ni (l:=l) (s0:=st) (by omega) (λi (z:Oc)=>((i:Int),UT s z)) (λi z=>StO z (n+by'.length*i)) (λl' z=>some ((),Nr s (qZ (oq (iG s) by' l') z))) rfl S ?_ ?_
 .intro z _ again;refine IZ ?_;rfl
 .intro i hi z hz again I2;rw[aaj]
  have hmul:by'.length*i+by'.length<=by'.length*l.length:=by
   have:=lP by'.length (show i+1<=l.length from hi)
   rwa [wL]at this
  have azR:by'.length*(i+1)=by'.length*i+by'.length:=wL ..;refine Jp hi ?_;rw[bO hi];refine ni (l:=by') (s0:=z) (by omega) (λk (w:Oc)=>((k:Int),UT s w)) (λk w=>StO w (n+by'.length*i+k)) (λl' w=>some ((),Nr s (qZ (oq (iG s) by' (l.drop (i+1))) (qZ (l'.map λb=>λp h=>JS (iG s) p h b l[i]) w)))) rfl hz ?_ ?_
  .intro w hw bp;refine IZ ?_;rw[cU i (by omega)];exact I2 _ (by rw[azR];exact hw.mono (by omega))
  .intro k hk w hw bp a1a;refine Jp hk ?_;have VZ:=ajb (iG s) by'[k] l[i];have hw1:=R7 VZ hw (by omega);refine bw λk7 I0=>?_
   have K:∀w',w'=sW w (λp h=>JS (iG s) p h by'[k] l[i])->k7 (UT s w')=some ((),Nr s (qZ (oq (iG s) by' (l.drop (i+1))) (qZ ((by'.drop (k+1)).map λb=>λp h=>JS (iG s) p h b l[i]) (sW w λp h=>JS (iG s) p h by'[k] l[i])))):=by rintro _ rfl;subst I0;dsimp only;rw[cU k (by omega)];exact a1a _ hw1
   refine tix hk ?_;by_cases h0:w.2.2.2=0
   .have S0:=hw h0;have pl:=S0.pl;have hl:=S0.hl;show aj.af (w.2.2.2==0) (aj.ae (abw (gE s w.1 w.2.1) by'[k] l[i]) _) _=_;rw[aQ (by simp[h0]),ai (avs ha Cn S0.hh (by omega) S0.f (by omega))];refine yu (ag5 (UW VZ hw (by omega) h0)) ?_;exact K _ (UU (λp h=>JS (iG s) p h by'[k] l[i]) h0).symm
   .refine tqn h0 ?_;exact K w (by unfold sW;rw[ag h0])
end Go.Proofs.YthghpahghjppjaaGreat