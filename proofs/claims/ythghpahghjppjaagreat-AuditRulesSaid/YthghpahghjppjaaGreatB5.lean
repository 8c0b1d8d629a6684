import Derived.Test.YthghpahghjppjaaGreatB4
namespace Go.Proofs.YthghpahghjppjaaGreat
open Go Go.Vc Go.RowKit
theorem Up(all):∀(us:List ar) (acc:List aZ),(AU all us acc).2.1=0->
 (AU all us acc).1=acc++(us.filter λu=>decide (me all u≠0)).map (λu=>(u,me all u,()))/\∀u∈us,cz (me all u)
 |[],acc,_=>by simp[AU]
 |u::us,acc,h=>by
  unfold AU at h ⊢;by_cases y:cz (me all u)
  .rw[ah y]at h ⊢;by_cases C:me all u≠0
   .rw[ah C]at h ⊢;have⟨G,F⟩:=Up all us _ h;refine⟨?_,λx j=>?_⟩
    .rw[G,bi,ah (by simpa using C)];simp
    .rcases aB.1 j with rfl|j
     .exact y
     .exact F x j
   .rw[ag C]at h ⊢;have⟨G,F⟩:=Up all us _ h;refine⟨?_,λx j=>?_⟩
    .rw[G,bi,ag (by simpa using C)]
    .rcases aB.1 j with rfl|j
     .exact y
     .exact F x j
  .rw[ag y]at h;simp at h
theorem qo(x:aZ)(l:List aZ)(u:ar):me (x::l) u=(if x.1=u then xt x else 0)+me l u:=by unfold me OY adX;rw[bi];by_cases h:x.1=u<;>simp[h]
theorem Sl(a b)(u):me (a++b) u=me a u+me b u:=by unfold me OY;rw[eU,cw,lr]
theorem XA{l}{u}(h:∀x∈l,x.1≠u):me l u=0:=by
 induction l with
 |nil=>rfl
 |cons x l j=>rw[qo,ag (h x (by simp)),j λy C=>h y (by simp[C])];rfl
theorem auW{us:List ar}(y:us.Nodup){v:ar}(z:Int):cI (λu=>if v=u then z else 0) us=if v∈us then z else 0:=by
 induction us with
 |nil=>rfl
 |cons u us j=>
  have⟨F,C⟩:=dK.1 y;rw[cx,j C];by_cases hv:v=u
  .subst hv;rw[ah rfl,ag F,ah (by simp)];omega
  .rw[ag hv];by_cases hm:v∈us
   .rw[ah hm,ah (by simp[hm])];omega
   .rw[ag hm,ag (by simp[hm,hv])];rfl
theorem Ob{α:Type}(f g:α->Int)(l:List α):cI (λx=>f x+g x) l=cI f l+cI g l:=by
 induction l with
 |nil=>rfl
 |cons x l j=>rw[cx,cx,cx,j];omega
theorem XB:∀(l:List aZ) {us:List ar},us.Nodup->(∀x∈l,x.1∈us)->cI (me l) us=cI xt l
 |[],us,_,_=>by
  have:∀us:List ar,cI (me []) us=0:=by
   intro us;induction us with
   |nil=>rfl
   |cons u us C=>rw[cx,C];rfl
  rw[this];rfl
 |x::l,us,j,h=>by
  have e:me (x::l)=λu=>(if x.1=u then xt x else 0)+me l u:=funext (qo x l)
  rw[e,Ob,auW j,ah (h x (by simp)),XB l j λy F=>h y (by simp[F]),cx]
def VI(all:List aZ)(us:List ar):List aZ:=(us.filter λu=>decide (me all u≠0)).map λu=>(u,me all u,())
theorem N3{us}(h:jN us):us.Nodup:=vD (λ{a b} (j:oj a b) (e:a=b)=>by subst e;exact jv _ j) h
theorem LN(all:List aZ):cI xt (VI all (lS all))=cI xt all:=by
 have e:∀us:List ar,cI xt (VI all us)=cI (me all) us:=by
  intro us;induction us with
  |nil=>rfl
  |cons u us j=>
   unfold VI at j ⊢;rw[bi,cx,<-j];by_cases h:me all u=0
   .rw[ag (by simp[h]),h];omega
   .rw[ah (by simp[h]),bI,cx];rfl
 rw[e,XB all (N3 (wG all)) λx y=>(Ic all x.1).2 ⟨x,y,rfl⟩]
theorem Rr{all}{us:List ar}(h:jN us):wy (VI all us)=true:=by
 refine ap ⟨λx j=>?_,?_⟩
 .obtain⟨u,y,rfl⟩:=aK.1 j;simpa using(aI.1 y).2
 .unfold VI;rw[hJ];have:((λx:aZ=>x.1) ∘ λu=>((u,me all u,()):aZ))=id:=rfl;rw[this,Cz];exact h.filter _
theorem aiJ{l}{u}(h:∀x∈l,x.1≠u):dr l u=0:=by
 induction l with
 |nil=>rfl
 |cons x l j=>rw[dr,ag (h x (by simp)),j λy C=>h y (by simp[C])]
theorem Gs:∀{l:List aZ},(l.map (·.1)).Nodup->∀u,dr l u=me l u
 |[],_,u=>rfl
 |x::l,h,u=>by
  have⟨G,F⟩:=dK.1 h;rw[dr,qo];by_cases j:x.1=u
  .rw[ah j,ah j,XA λy C e=>G (aK.2 ⟨y,C,e.trans j.symm⟩)];show xt x=_;omega
  .rw[ag j,ag j,Gs F];omega
theorem Sm{l:List aZ}(h:wy l=true):(l.map (·.1)).Nodup:=N3 (bA h).2
theorem Sk(all)(u:ar):dr (VI all (lS all)) u=me all u:=by
 by_cases C:me all u=0
 .rw[C];refine aiJ λx y e=>?_
  obtain⟨v,hv,rfl⟩:=aK.1 y;have:=(aI.1 hv).2;simp only[bg]at this;exact this (by rw[show v=u from e];exact C)
 .rw[Gs (Sm (Rr (wG all)))]
  have H:u∈lS all:=by
   rw[Ic];by_cases y:∃x∈all,x.1=u
   .exact y
   .exact absurd (XA λx F e=>y ⟨x,F,e⟩) C
  have key:∀us:List ar,us.Nodup->me (VI all us) u=if u∈us then me all u else 0:=by
   intro us;induction us with
   |nil=>intro _;rfl
   |cons v us j=>
    intro J;have⟨R,K⟩:=dK.1 J;have j:=j K;unfold VI at j ⊢;rw[bi];by_cases hv:v=u
    .subst hv;rw[ah (by simpa using C),bI,qo,j,ag R,ah rfl,ah (by simp)];show me all v+0=_;omega
    .have e:(if u∈v::us then me all u else 0)=if u∈us then me all u else 0:=by
      by_cases hm:u∈us
      .rw[ah hm,ah (by simp[hm])]
      .rw[ag hm,ag (by simp[hm,hZ hv])]
     rw[e,<-j];by_cases G:me all v=0
     .rw[ag (by simp[G])]
     .rw[ah (by simp[G]),bI,qo,ag hv];omega
  rw[key _ (N3 (wG all)),ah H]
theorem H9{l f}(h:(qw l f).2.1=0):wy l=true/\(qw l f).1=VI (l++f) (lS (l++f))/\∀u∈lS (l++f),cz (me (l++f) u):=by
 unfold qw at h ⊢;by_cases j:wy l=true
 .rw[ah j]at h ⊢;have⟨C,y⟩:=Up _ _ _ h;exact⟨j,by rw[C,cS];rfl,y⟩
 .rw[ag j]at h;simp at h
theorem Yp{all}{us}(h:∀u∈us,cz (me all u)):ta (VI all us):=by intro x j;obtain⟨u,y,rfl⟩:=aK.1 j;exact h u (aI.1 y).1
open Go.IntKind (i64 u64)
def CI(z:Int):OR:=(z / 18446744073709551616,z % 18446744073709551616,())
def ö(z:Int):bF:=(i64.wrap (z / 18446744073709551616),z % 18446744073709551616,())
theorem LA(z)(h:ec z):ö z=wide z:=by unfold ec at h;unfold ö wide;rw[bG _ (by omega)]
def kz(z:Int):Int:=if z<0 then -z else z
theorem xq(w):p8 w=some (decide (w.1<0)):=rfl
theorem Jz(x)(j:EW x):Ac x=some (CI (kz (wv x))):=by
 unfold EW at j;show iv aj x=_;unfold iv;rw[ai (xq _)];by_cases h:x.1<0
 .rw[az (by simp[h]),ai (MH),ai (MH (by omega) (by rw[cg];omega) (by rw[cg];omega) (by dsimp only;split<;>omega) (by dsimp only;split<;>omega))];unfold CI kz wv;refine bS some (jg ?_ (jg ?_ rfl))
  .dsimp only;rw[cg];split<;>split<;>omega
  .dsimp only;split<;>omega
 .rw[aT (by simp[h])];unfold CI kz wv;refine bS some (jg ?_ (jg ?_ rfl))
  .dsimp only;rw[cg];split<;>omega
  .dsimp only;split<;>omega
theorem aq7(z)(y:0<=z/\z<340282366920938463463374607431768211456)(h:z / 18446744073709551616=9223372036854775808):((z % 18446744073709551616)==0)=decide (ec (-z)):=by
 by_cases j:z % 18446744073709551616=0
 .have:ec (-z):=by unfold ec;omega
  rw[ap this];simp[j]
 .have:¬ec (-z):=by unfold ec;omega
  rw[an this];simp[j]
theorem adL(hi lo)(m):jk (hi,lo,()) m=(
 aj.af (!m) (some ((i64.wrap hi,lo,()),decide (hi<9223372036854775808),()))
 (aj.ae (G0 0 lo 0) λj=>aj.ae (G0 0 hi j.2.1) λy=>
 aj.af (decide (hi<9223372036854775808)) (some ((i64.wrap y.1,j.1,()),true,()))
  (
  aj.af (hi==9223372036854775808) (some ((i64.wrap y.1,j.1,()),lo==0,())) (some ((i64.wrap y.1,j.1,()),false,()))))):=rfl
theorem Gi(z)(m)(y:0<=z/\z<340282366920938463463374607431768211456):jk (CI z) m=some (ö (if m=true then -z else z),decide (ec (if m=true then -z else z)),()):=by
 unfold CI;rw[adL];cases m
 .rw[aT (by rfl)];simp only[fv,pn];congr 3;unfold ec;apply eA.2;omega
 .rw[az (by rfl),ai (MH (by omega) (by omega) (by omega) (by omega) (by omega)),ai (MH (by omega) (by omega) (by omega) (by dsimp only;split<;>omega) (by dsimp only;split<;>omega))]
  have e:((i64.wrap ((0-z / 18446744073709551616-(if 0<z % 18446744073709551616+0 then 1 else 0)) % 18446744073709551616),(0-z % 18446744073709551616-0) % 18446744073709551616,()):bF)=ö (-z):=by
   rw[J4];unfold ö;refine jg ?_ (jg ?_ rfl)
   .dsimp only;congr 1;split<;>omega
   .dsimp only;omega
  show _=some (ö (-z),decide (ec (-z)),());rw[<-e];refine de (λC=>?_) λC=>?_
  .have:ec (-z):=by unfold ec;omega
   rw[ap this]
  .by_cases j:z / 18446744073709551616=9223372036854775808
   .rw[aT (by simp[j]),aq7 z y j]
   .rw[az (by simp[j])];have:¬ec (-z):=by unfold ec;omega
    rw[an this]
theorem ô(a)(h:0<=a/\a<18446744073709551616):bits .and .u64 a 4294967295=a % 4294967296:=by
 obtain⟨n,rfl⟩:=cR h.1;show u64.wrap (((BitVec.ofInt 64 ((n:Nat):Int) &&& BitVec.ofInt 64 4294967295).toNat:Nat):Int)=_;rw[BitVec.toNat_and,mP,mP]
 have y:(((n:Nat):Int) % ((2 ^ 64:Nat):Int)).toNat=n:=by
  have:((2 ^ 64:Nat):Int)=18446744073709551616:=by decide
  omega
 have j:((4294967295:Int) % ((2 ^ 64:Nat):Int)).toNat=2 ^ 32-1:=by decide
 rw[y,j,Nat.and_two_pow_sub_one_eq_mod,cg];have:(2:Nat) ^ 32=4294967296:=by decide
 rw[this];omega
theorem Jy(a)(_:0<=a):Int.fdiv a (2 ^ (min (Int.toNat 32) (IntKind.bits .u64)))=a / 4294967296:=by
 have e:(2:Int) ^ (min (Int.toNat 32) (IntKind.bits .u64))=4294967296:=by decide +kernel
 rw[e,eH _ (by omega)]
theorem ZJ{a b:Int}(j:0<=a/\a<4294967296)(hb:0<=b/\b<4294967296):0<=a*b/\a*b<=18446744065119617025:=by refine⟨jf j.1 hb.1,?_⟩;have y:a*b<=4294967295*b:=gz (by omega) hb.1;omega
theorem ZK{x y:Int}(Y:0<=x/\x<18446744073709551616)(X:0<=y/\y<18446744073709551616):yL x y=some (x*y / 18446744073709551616,x*y % 18446744073709551616,()):=by
 show ke aj x y=_;unfold ke;rw[uz,uz,uz,uz,uz];simp only[Jy x Y.1,Jy y X.1,ô x Y,ô y X];have G:0<=x / 4294967296/\x / 4294967296<4294967296:=by omega
 have H:0<=x % 4294967296/\x % 4294967296<4294967296:=by omega
 have j:0<=y / 4294967296/\y / 4294967296<4294967296:=by omega
 have F:0<=y % 4294967296/\y % 4294967296<4294967296:=by omega
 have ex:x=x / 4294967296*4294967296+x % 4294967296:=by omega
 have ey:y=y / 4294967296*4294967296+y % 4294967296:=by omega
 have R:x*y=(x / 4294967296)*(y / 4294967296)*18446744073709551616+((x / 4294967296)*(y % 4294967296)+(x % 4294967296)*(y / 4294967296))*4294967296+(x % 4294967296)*(y % 4294967296):=by
  generalize x / 4294967296=K at *;generalize x % 4294967296=W at *;generalize y / 4294967296=J at *;generalize y % 4294967296=V at *;rw[ex,ey,n2,nZ,nZ];have a1:K*4294967296*(J*4294967296)=K*J*18446744073709551616:=by rw[s7,Int.mul_left_comm 4294967296,<-s7];rfl
  have a2:K*4294967296*V=K*V*4294967296:=by rw[s7,gE 4294967296,<-s7]
  have a3:W*(J*4294967296)=W*J*4294967296:=by rw[<-s7]
  rw[a1,a2,a3,n2];omega
 have hD:=ZJ G j;have hB:=ZJ G F;have hC:=ZJ H j;have hA:=ZJ H F;rw[R];generalize (x / 4294967296)*(y / 4294967296)=D at *;generalize (x / 4294967296)*(y % 4294967296)=B at *;generalize (x % 4294967296)*(y / 4294967296)=C at *;generalize (x % 4294967296)*(y % 4294967296)=A at *;have w1:u64.wrap A=A:=by rw[cg];omega
 have w2:u64.wrap B=B:=by rw[cg];omega
 have w3:u64.wrap C=C:=by rw[cg];omega
 have w4:u64.wrap D=D:=by rw[cg];omega
 rw[w1,w2,w3,w4,Jy A (by omega)];have w5:u64.wrap (B+A / 4294967296)=B+A / 4294967296:=by rw[cg];omega
 rw[w5,Jy _ (by omega),ô _ (by omega)];have w6:u64.wrap ((B+A / 4294967296) % 4294967296+C)=(B+A / 4294967296) % 4294967296+C:=by rw[cg];omega
 rw[w6,Jy _ (by omega)];have w7:u64.wrap (D+(B+A / 4294967296) / 4294967296)=D+(B+A / 4294967296) / 4294967296:=by rw[cg];omega
 rw[w7,cg,cg];congr 1;refine jg ?_ (jg ?_ rfl)
 .omega
 .first|rfl|(show _ % 18446744073709551616=_;omega)
theorem MJ(a b):(if(decide (a<0) != decide (b<0))=true then -(kz a*kz b)else kz a*kz b)=a*b:=by unfold kz;by_cases j:a<0<;>by_cases hb:b<0<;>simp[j,hb,Int.neg_mul,HU]
theorem ZL{a}(h:cz a):0<=kz a/\kz a<=9223372036854775808:=by unfold cz at h;unfold kz;split<;>omega
theorem H4{a b A B:Int}(j:0<=a/\a<=A)(hb:0<=b/\b<=B):0<=a*b/\a*b<=A*B:=⟨jf j.1 hb.1,vA j.2 hb.2 hb.1 (by omega)⟩
theorem Uf(z):decide ((wide z).1<0)=decide (z<0):=by refine eA.2 ?_;show z / 18446744073709551616<0↔_;omega
theorem jX{β}[qT β]{a b r:Option β}(ha:a=r)(hb:b=r):aj.gP a b=r:=by rw[ha,hb];exact ajI r
theorem Et{a b}(ha:cz a)(hb:cz b):Dp a b=some (wide (a*b)):=by
 show o8 aj a b=_;unfold o8;have y:=ZL ha;have j:=ZL hb;have s1:=Jz (wide a) (mT a (uA ha));have s2:=Jz (wide b) (mT b (uA hb));rw[tb]at s1 s2;have hp:=H4 y j;have m1:yL (CI (kz a)).2.1 (CI (kz b)).2.1=some (CI (kz a*kz b)):=by show yL (kz a % 18446744073709551616) (kz b % 18446744073709551616)=_;rw[n5 y.1 (by omega),n5 j.1 (by omega),ZK (by omega) (by omega)];rfl
 rw[ai (Gm a ha),ai (Gm b hb),ai s1,ai s2,ai m1]
 have F:0<=kz a*kz b/\kz a*kz b<340282366920938463463374607431768211456:=by
  have:(9223372036854775808:Int)*9223372036854775808=85070591730234615865843651857942052864:=by decide
  omega
 have g:(aj.ae (jk (CI (kz a*kz b)) (cX true (decide ((wide a).1<0)==decide ((wide b).1<0)))) λC=>some C.1)=some (wide (a*b)):=by
  have G:cX true (decide (a<0)==decide (b<0))=(decide (a<0) != decide (b<0)):=by rw[Xr];rfl
  rw[Uf,Uf,G,ai (Gi _ _ F),MJ];rw[LA];have:=MJ a b;have H:(9223372036854775808:Int)*9223372036854775808=85070591730234615865843651857942052864:=by decide
  unfold ec;split at this<;>omega
 refine jX ?_ ?_
 .rw[ai (xq _)];refine jX ?_ ?_
  .rw[ai (xq _),jc];exact g
  .rw[ai (xq _)];exact g
 .rw[ai (xq _),ai (xq _)];exact g
theorem CV{β}[qT β](e)(f:Bool->Option β):aj.qJ e f=aiq e f:=rfl
theorem aaN{v n}(hv:cz v)(j:cz n):adM (wide v) n=some (wide (v*n),0,()):=by
 show tT aj (wide v) n=_;unfold tT;have H:=ZL hv;have G:=ZL j;have C:=Jz (wide v) (mT v (uA hv));have y:=Jz (wide n) (mT n (uA j));rw[tb]at C y;have X:=H4 H G;have Y:(9223372036854775808:Int)*9223372036854775808=85070591730234615865843651857942052864:=by decide
 have V:(CI (kz v)).1=0:=by show kz v / 18446744073709551616=0;omega
 have R:(CI (kz v)).2.1=kz v:=by show kz v % 18446744073709551616=_;omega
 have K:(CI (kz n)).2.1=kz n:=by show kz n % 18446744073709551616=_;omega
 rw[ai C,ai (Gm n j),ai y,V,R,K,ai (ZK (x:=0) (by omega) (by omega)),ai (ZK (x:=kz v) (by omega) (by omega)),Int.zero_mul]
 have W:Jj (0 % 18446744073709551616:Int) (kz v*kz n / 18446744073709551616) 0=some (kz v*kz n / 18446744073709551616,0,()):=by
  rw[Ug];congr 1;refine jg ?_ (jg ?_ rfl)
  .omega
  .dsimp only;omega
 refine vY W ?_;rw[ai (xq _),Uf];have J:cX true (decide (v<0)==decide (n<0))=(decide (v<0) != decide (n<0)):=by rw[Xr];rfl
 show aj.ae (jk (CI (kz v*kz n)) (cX true (decide (v<0)==decide (n<0)))) _=_;have F:ec (v*n):=by have:=MJ v n;unfold ec;split at this<;>omega
 rw[J,ai (Gi _ _ (by omega)),MJ];refine tdy F ?_;rw[aT (by decide),ai (Uh _ _),LA _ F];rfl
def nv(t:List bR)(id:Int):Option bR:=t.find? λi=>i.1==id
def ajw:bR:=(0,0,0,0,[],())
theorem ann{s:List Int}(h:s.length<=1000000):DU s=some s:=by
 show jd aj s=_;unfold jd;rw[CV];refine xx ?_ λhe=>?_
 .refine zG rfl ?_;rw[da];rfl
 .have:s=[]:=by simpa using he
  subst this;rfl
theorem aq8{s}{id}(hl:s.length<=1000000):pq id s=some (zb (λi=>i.1==id) s,id,()):=by exact uu hl (λi:bR=>i.1==id) (λx (c:Int×Unit)=>J5 aj c.1 x) (id,()) (λx _=>rfl)
theorem Ui{s}{id}(hl:s.length<=1000000):aq9 s id=some (zb (λi=>i.1==id) s):=by exact ai (aq8 hl) _
theorem OS{i}(h:i.2.2.2.2.1.length<=1000000):aaS i=some i:=by exact ai (ann h) _
theorem X7{t}{id}(hl:t.length<=1000000)(hm:∀i∈t,i.2.2.2.2.1.length<=1000000):Wq t id=some (match nv t id with|some i=>(i,true,())|none=>(ajw,false,())):=by
 show pK aj t id=_;unfold pK nv;rw[ai (Ui hl)];rcases lx (λi:bR=>i.1==id) t with⟨h1,j⟩|⟨k,y,h1,j,_⟩
 .rw[h1,j];exact aT rfl _ _
 .rw[h1,j,cV (by omega),bO y];exact ai (OS (hm _ (aE y))) _
theorem oY{X β}{f:X->(X->Option β)->Option β}(Q:Option β->Prop)(μ:X->Nat)(R:X->Prop){z:X}(F:R z)(hm:μ z<18446744073709551616)
 (h:∀z,R z->∀j:X->Option β,(∀y,R y->μ y<μ z->Q (j y))->Q (f z j)):Q (aj.aV f z):=by
 have key:∀n z,R z->μ z<n->Q (xW n f z):=by
  intro n;induction n with
  |zero=>intro z _ h;omega
  |succ n G=>intro z F hm;exact h z F _ λy C H=>G y C (by omega)
 exact key FU z F (by rw[PQ];exact hm)
theorem aqA{X β}{N}(V:N<9223372036854775808){f:X->(X->Option β)->Option β}(st:Nat->X)(y:Nat->Prop)(r:Option β){z0:X}(J:z0=st 0)(K:y 0)
 (F:y N->∀j:X->Option β,f (st N) j=r) (C:∀i,i<N->y i->∀j:X->Option β,(y (i+1)->j (st (i+1))=r)->f (st i) j=r):aj.aV f z0=r:=by
 subst J
 have key:∀n i,i<=N->N-i<n->y i->xW n f (st i)=r:=by
  intro n;induction n with
  |zero=>intro i _ h;omega
  |succ n H=>
   intro i hi R hv;by_cases h:i<N
   .exact C i h hv _ λG=>H (i+1) (by omega) (by omega) G
   .have:i=N:=by omega
    subst this;exact F hv _
 exact key FU 0 (br _) (by rw[PQ];omega) K
theorem Yc{X β}{Q:Option β->Prop}{j:X->Option β}{f:(X->Option β)->Option β}(h:∀k,k=j->Q (f k)):Q (aj.aG j f):=h j rfl
def okI(i:bR):Prop:=(1<=i.2.1/\i.2.1<=65536)/\(0<=i.2.2.1/\i.2.2.1<2147483648)/\(0<=i.2.2.2.1/\i.2.2.2.1<2147483648)/\i.2.2.2.2.1.length<=8
def Vt(t:List bR):Prop:=(∀i∈t,okI i)/\t.length<=10
theorem Ye{β}{b:Int}(h:b≠0:=by omega)(K:Option β):aj.wg b K=K:=awY h K
theorem jY{α}{p:α->Bool}{l:List α}(h:∀x∈l,p x=false):l.filter p=[]:=vC.2 λx j=>by simp[h x j]
theorem BN{α}{p:α->Bool}{l:List α}(h:∀x∈l,p x=true):l.filter p=l:=lM.2 h
def CJ(a b:bu):Prop:=a.1<b.1\/(a.1=b.1/\a.2.1<b.2.1)
instance (a b:bu):Decidable (CJ a b):=by unfold CJ;infer_instance
def j8(x:bu):Prop:=(1<=x.1/\x.1<=4)/\(0<=x.2.1/\x.2.1<=255)/\0<x.2.2.1
instance (x:bu):Decidable (j8 x):=by unfold j8;infer_instance
def Dq(l:List bu):Prop:=(∀x∈l,j8 x)/\l.Pairwise CJ/\l.length<=16
instance (l:List bu):Decidable (Dq l):=by unfold Dq;infer_instance
def LD(l:List bu):Bool:=decide (Dq l)
def Yo(l:List bp):Prop:=(∀h∈l,h.2.1≠[]/\Dq h.2.1)/\jN (l.map (·.1))
instance (l:List bp):Decidable (Yo l):=by unfold Yo jN;infer_instance
def Bz(l:List bp):Bool:=decide (Yo l)
def tu(l:List bu):Prop:=l.length<=20/\∀x∈l,cz x.2.2.1
def HS(l:List bp):Prop:=jN (l.map (·.1))/\∀h∈l,tu h.2.1
def cE:List bp->ar->List bu
 |[],_=>[]
 |h::l,u=>if h.1=u then h.2.1 else cE l u
def eB(l:List bp)(u:ar):List bp:=l.filter λh=>decide (h.1≠u)
theorem abr{l}(h:HS l)(u:ar):HS (eB l u):=by refine⟨?_,λx j=>h.2 x (aI.1 j).1⟩;have:List.Sublist ((eB l u).map (·.1)) (l.map (·.1)):=sb _ (fF);exact dt this h.1
theorem p9{l}(h:∀x∈l,tu x.2.1)(u):tu (cE l u):=by
 induction l with
 |nil=>exact⟨by simp[cE],λx F=>by cases F⟩
 |cons x l j=>
  rw[cE];split
  .exact h x (by simp)
  .exact j λy C=>h y (by simp[C])
theorem ZP(l)(u x):cE (eB l u) x=if x=u then[]else cE l x:=by
 induction l with
 |nil=>simp[eB,cE]
 |cons h l C=>
  unfold eB at C ⊢;rw[bi];by_cases y:h.1=u
  .rw[ag (by simpa using y),C,cE];by_cases j:x=u
   .rw[ah j,ah j]
   .rw[ag j,ag j,ag λe=>j (e.symm.trans y)]
  .rw[ah (by simpa using y),cE,cE,C];by_cases j:h.1=x
   .rw[ah j,ah j,ag λe=>y (j.trans e)]
   .rw[ag j,ag j]
def ahS(k:Int)(l:List bu):Int:=cI (λx=>if x.1=k then x.2.2.1 else 0) l
def FY(k:Int)(l:List bp):Int:=cI (λh=>ahS k h.2.1) l
theorem abt{l}(hs:jN (l.map (·.1)))(u:ar)(k:Int):FY k (eB l u)+ahS k (cE l u)=FY k l:=by
 induction l with
 |nil=>rfl
 |cons h l y=>
  have⟨G,F⟩:=bw.1 hs;have y:=y F;unfold eB at y ⊢;rw[bi,cE];by_cases j:h.1=u
  .have e:l.filter (λh=>decide (h.1≠u))=l:=lM.2 λx C=>ap λe=>by have:oj h.1 x.1:=G _ (dm C);rw[j,e]at this;exact jv u this
   rw[ag (by simpa using j),ah j,e];unfold FY;rw[cx];omega
  .rw[ah (by simpa using j),ag j];unfold FY at y ⊢;rw[cx,cx];omega
theorem J9{all}:∀{us:List ar} (acc:List aZ),(∀u∈us,cz (me all u))->(AU all us acc).2.1=0
 |[],_,_=>rfl
 |u::us,acc,h=>by
  unfold AU;rw[ah (h u (by simp))];split
  .exact J9 _ λx j=>h x (by simp[j])
  .exact J9 _ λx j=>h x (by simp[j])
theorem xL{s}(h:s.length<=1000000):lT s=some s:=by
 show dd aj s=_;unfold dd;rw[CV];refine xx ?_ λj=>?_
 .refine zG rfl ?_;rw[da];rfl
 .have:s=[]:=by simpa using j
  subst this;rfl
theorem Lu{s}(h:s.length<=1000000):I3 s=some s:=by
 show jo aj s=_;unfold jo;rw[CV];refine xx ?_ λj=>?_
 .refine zG rfl ?_;rw[da];rfl
 .have:s=[]:=by simpa using j
  subst this;rfl
def qP(l:List aN):Prop:=(∀a∈l,a.2.2.2.1.length<=1000)/\l.length<=1000
theorem NI{l}(h:qP l):abu l=some l:=by
 have hl:=h.2;show rM aj l=_;refine lQ (N:=l.length) (by omega) (λi=>((i:Int),l.take i,())) _ rfl ?_ ?_
 .intro j;refine F8 ?_;rw[bs]
 .intro i hi j C;have F:=h.1 _ (aE hi);have e:Ls (l[i].1,l[i].2.1,l[i].2.2.1,l[i].2.2.2.1,())=some l[i]:=by show nk aj l[i]=_;unfold nk;rw[ai (Lu (by omega))]
  show aj.af (decide ((i:Int)<(l.length:Int))) (aj.aH l (i:Int) λy=>aj.ae (Ls (y.1,y.2.1,y.2.2.1,y.2.2.2.1,())) λv4=>aj.bc ((l.take i).length+1) 48 (j (i64.wrap ((i:Int)+1),l.take i++[(v4.1,v4.2.1,v4.2.2.1,v4.2.2.2.1,())],()))) _=_;have:(l.take i).length<=1000:=by rw[bf];omega
  rw[dx hi,bO hi,ai e,da,cP i];rw[ax hi]at C;exact C
def po(id:Int)(a:aN):Bool:=decide (a.2.1=id)
def bW(a:aN):List ar:=if a.2.2.1=1 then[(a.1,0,())]else a.2.2.2.1.map λc=>(a.1,c,())
theorem xD{a}(h:a.2.2.2.1.length<=1000):wZ (a.1,a.2.1,a.2.2.1,a.2.2.2.1,())=some (bW a):=by
 show jq aj a=_;unfold jq bW;refine dM (λy=>?_) λy=>?_
 .rw[ah y]
 .rw[ag y];refine lQ (N:=a.2.2.2.1.length) (by omega) (λi=>((i:Int),(a.2.2.2.1.take i).map λc=>((a.1,c,()):ar),())) _ rfl ?_ ?_
  .intro j;refine F8 ?_;rw[bs]
  .intro i hi j C;show aj.af (decide ((i:Int)<(a.2.2.2.1.length:Int))) (aj.aH a.2.2.2.1 (i:Int) λF=>aj.bc (((a.2.2.2.1.take i).map λc=>((a.1,c,()):ar)).length+1) 16 (j (i64.wrap ((i:Int)+1),(a.2.2.2.1.take i).map (λc=>((a.1,c,()):ar))++[(a.1,F,())],()))) _=_;have:((a.2.2.2.1.take i).map λc=>((a.1,c,()):ar)).length<=1000:=by rw[aW,bf];omega
   rw[dx hi,bO hi,da,cP i];rw[ax hi,cw]at C;exact C
theorem Ep{a}(h:a.2.2.2.1.length<=1000):(bW a).length<=1000:=by
 unfold bW;split
 .simp
 .rw[aW];exact h
theorem axm(fy)(hl:fy.length<=1000000):∃r,adO fy=some r:=by
 refine oY (λo=>∃r,o=some r) (λz=>fy.length+1-z.1.toNat) (λz=>∃j:Nat,j<=fy.length/\z=((j:Int),())) ⟨0,br _,rfl⟩ (by omega) ?_;rintro _ ⟨j,G,rfl⟩ y F;by_cases h:j<fy.length
 .rw[dx h];show ∃r,aj.aH fy (j:Int) _=some r;rw[bO h];by_cases C:fy[j]=0
  .rw[az (by simp[C])];rw[cP j];exact F _ ⟨j+1,by omega,rfl⟩ (by omega)
  .rw[aT (by simp[C])];exact⟨_,rfl⟩
 .have:j=fy.length:=by omega
  subst this;rw[dV];exact⟨_,rfl⟩
theorem anG{α}{f}{l:List α}{i:Nat}(hi:i<l.length)(inv:jN ((l.take i).map f))(K:∀R:0<i,oj (f (l[i-1]'(by omega))) (f l[i])):jN ((l.take (i+1)).map f):=by
 rw[ax hi,cw];refine dF.2 ⟨inv,by simp,λa J b hb=>?_⟩;simp only[bI,pW,ay]at hb;subst hb;have⟨k,C,j⟩:=dC.1 J;have H:k<i:=by simp at C;omega
 have G:=K (by omega);by_cases y:k=i-1
 .subst y;rw[<-j];simpa using G
 .have F:=bN.1 inv k (i-1) (by simpa using C) (by simp;omega) (by omega);rw[j]at F;refine sy F ?_;simpa using G
def lk(l:List bp):Prop:=(∀h∈l,tu h.2.1)/\l.length<=400000
theorem zg{l}{u}(h:lk l):H' l u=some (cE l u):=by
 have hl:=h.2;refine gQ (l:=l) (by omega) (s0:=()) (λ_ _=>True) (λl' _=>some (cE l' u)) trivial ?_ ?_
 .rintro _ j _;rw[dV];rfl
 .rintro i hi _ _ j y;have C:=(h.1 _ (aE hi)).1;rw[dx hi,bO hi,PG,eqA,cE];refine de (λh=>?_) λh=>?_
  .rw[ah h,ai (xL (by omega))]
  .rw[ag h];rw[cP i];exact y _ trivial
theorem auZ{l}{u}(h:lk l):abh l u []=some (eB l u):=by
 have hl:=h.2;have one:(aj.ae (lT []) λv1=>
 aj.aV (λj J=>
  aj.af (decide (j.2.1<(l.length:Int))) (
   aj.aG (λz4=>(J (z4.1,IntKind.i64.wrap (j.2.1+1),j.2.2.1,j.2.2.2.1,j.2.2.2.2.1,z4.2.1,())))
    λX=>aj.aH l j.2.1 λW=>
    aj.aG (λK=>
     aj.af (cX true ((W.1.1==u.1)&&(W.1.2.1==u.2.1))) (aj.ae (lT W.2.1) λv8=>aj.bc (K.2.1.length+((W.1,v8,())::[]).length) 40 (X (K.1,K.2.1++((W.1,v8,())::[]),())))
      (
      aj.af (!K.1) (aj.bc (K.2.1.length+(((j.2.2.1,j.2.2.2.1,()),j.2.2.2.2.1,())::[]).length) 40 (X (true,K.2.1++(((j.2.2.1,j.2.2.2.1,()),j.2.2.2.2.1,())::[]),()))) (X (K.1,K.2.1,()))))
     λY=>
     aj.aG (λF=>
      aj.af F.1 (aj.bc (F.2.1.length+(((j.2.2.1,j.2.2.2.1,()),j.2.2.2.2.1,())::[]).length) 40 (Y (true,F.2.1++(((j.2.2.1,j.2.2.2.1,()),j.2.2.2.2.1,())::[]),()))) (Y (j.1,F.2.1,())))
      λC=>
      aj.af (!j.1) (aj.ae (OX u W.1) λv12=>(C (v12,j.2.2.2.2.2.1,()))) (C (false,j.2.2.2.2.2.1,())))
   (
   aj.aG (λz13=>some z13.1)
    λG=>
    aj.af (!j.1) (aj.bc (j.2.2.2.2.2.1.length+(((j.2.2.1,j.2.2.2.1,()),j.2.2.2.2.1,())::[]).length) 40 (G (j.2.2.2.2.2.1++(((j.2.2.1,j.2.2.2.1,()),j.2.2.2.2.1,())::[]),()))) (G (j.2.2.2.2.2.1,()))))
  ((([]:List bu).length:Int)==0,0,u.1,u.2.1,v1,[],()))=some (eB l u):=by
   rw[ai (xL (s:=[]) (by simp))];refine lQ (N:=l.length) (by omega) (λi=>(true,(i:Int),u.1,u.2.1,[],eB (l.take i) u,())) _ rfl ?_ ?_
   .intro V;refine F8 ?_;refine bz λG hk=>?_
    have kk:∀x,G (x,())=some x:=by intro x;subst hk;rfl
    clear hk;refine zG rfl ?_;rw[kk,bs]
   .intro i hi V ha;have h2:=(h.1 _ (aE hi)).1;have hwl:(eB (l.take i) u).length<=400000:=cn (cp _ _) (by rw[bf];omega);refine HX hi ?_;refine bz λX hk5=>?_
    have y:X (true,eB (l.take (i+1)) u,())=some (eB l u):=by subst hk5;rw[cP i];exact ha
    clear hk5 ha;refine tix hi ?_
    have es:eB (l.take (i+1)) u=if l[i].1=u then eB (l.take i) u else eB (l.take i) u++[l[i]]:=by
     unfold eB;rw[ax hi,eU,bi,qi];by_cases H:l[i].1=u
     .rw[ah H,ag (by simpa using H),bZ]
     .rw[ag H,ah (by simpa using H)]
    rw[es]at y;refine bz λY hk9=>?_
    have k9':Y (true,eB (l.take i) u,())=some (eB l u):=by
     subst hk9;show aj.af (cX true ((l[i].1.1==u.1)&&(l[i].1.2.1==u.2.1))) _ _=_;rw[Xr,eqA];by_cases H:l[i].1=u
     .rw[ah H]at y;rw[az (by simp[H])];refine zG rfl ?_;exact y
     .rw[ag H]at y;rw[aT (by simp[H]),ai (xL (by omega))];show aj.bc ((eB (l.take i) u).length+1) 40 (X (true,eB (l.take i) u++[l[i]],()))=_;rw[da];exact y
    clear hk9;refine bz λC R=>?_
    have ay1:C (false,eB (l.take i) u,())=some (eB l u):=by subst R;show aj.af false _ (Y (true,eB (l.take i) u,()))=_;rw[az rfl];exact k9'
    clear R;show aj.af (!true) _ (C (false,eB (l.take i) u,()))=_;rw[az (by rfl)];exact ay1
 exact jX one one
def pu(s:aU):List aZ:=s.2.2.2.2.2.2.2.2.2.2.1
def ho(s:aU):List bp:=s.2.2.2.2.2.2.2.2.2.2.2.1
def fV(s:aU)(p:List aZ)(h:List bp):aU:=(s.1,s.2.1,s.2.2.1,s.2.2.2.1,s.2.2.2.2.1,s.2.2.2.2.2.1,s.2.2.2.2.2.2.1,s.2.2.2.2.2.2.2.1,s.2.2.2.2.2.2.2.2.1,s.2.2.2.2.2.2.2.2.2.1,p,h,())
def avz(a:aN):Prop:=1<=a.1/\a.2.2.2.1.Pairwise (· < ·)
def yF(x y:Int):Int:=if x<y then -1 else if y<x then 1 else 0
theorem ZR(x y):P3 x y=some (yF x y):=by
 show pM aj x y=_;unfold pM yF;have e:∀x:Int,XD x=some false:=λx=>by show some (x != x)=_;simp
 rw[ai (e x),ai (e y),az rfl,az rfl];refine de (λh=>?_) λh=>?_
 .rw[ah h]
 .rw[ag h];refine de (λj=>?_) λj=>?_
  .rw[ah j]
  .rw[ag j]
def orI:List Int->Int
 |[]=>0
 |x::l=>if x=0 then orI l else x
theorem axo(l)(hl:l.length<=1000000):adO l=some (orI l):=by
 refine gQ (l:=l) (by omega) (s0:=()) (λ_ _=>True) (λl' _=>some (orI l')) trivial ?_ ?_
 .rintro _ j _;rw[dV];rfl
 .rintro i hi _ _ j C;rw[dx hi,bO hi,orI];by_cases y:l[i]=0
  .rw[az (by simp[y]),ah y];rw[cP i];exact C _ trivial
  .rw[aT (by simp[y]),ag y]
theorem H6(a b:bu):JE a b=some (orI [yF a.1 b.1,yF a.2.1 b.2.1]):=by show rh aj a b=_;unfold rh;rw[ai (ZR _ _),ai (ZR _ _),ai (axo _ (by simp))]
theorem aiQ(a b:bu):decide (0<=orI [yF a.1 b.1,yF a.2.1 b.2.1])=!decide (CJ a b):=by
 unfold CJ;simp only[orI,yF];by_cases C:a.1<b.1
 .simp[C]
 .by_cases G:b.1<a.1
  .have j:¬a.1=b.1:=by omega
   simp[C,G,j]
  .have j:a.1=b.1:=by omega
   by_cases y:a.2.1<b.2.1
   .simp[j,y]
   .by_cases F:b.2.1<a.2.1<;>simp[j,y,F]
theorem Wz(x:bu):aee x=some (decide (j8 x)):=by
 show tX aj x=_;unfold tX j8;refine de (λF=>?_) λF=>?_
 .refine de (λC=>?_) λC=>?_
  .refine de (λy=>?_) λy=>?_
   .refine de (λj=>?_) λj=>?_
    .simp[F,C,y,j]
    .simp[j]
   .simp[y]
  .simp[C]
 .simp[F]
def LP(l:List bu):Prop:=(∀x∈l,j8 x)/\l.Pairwise CJ
theorem acB{a b c}(y:CJ a b)(j:CJ b c):CJ a c:=by unfold CJ at *;omega
theorem agK{l:List bu}{i:Nat}(hi:i<l.length)(inv:LP (l.take i))(V:j8 l[i])(R:∀W:0<i,CJ (l[i-1]'(by omega)) l[i]):LP (l.take (i+1)):=by
 rw[ax hi];refine⟨λx j=>?_,?_⟩
 .rcases aQ.1 j with j|j
  .exact inv.1 x j
  .simp at j;rw[j];exact V
 .refine dF.2 ⟨inv.2,by simp,λa K b hb=>?_⟩;simp only[ay]at hb;subst hb;have⟨k,F,y⟩:=dC.1 K;have J:k<i:=by simp at F;omega
  have H:=R (by omega);by_cases C:k=i-1
  .subst C;rw[<-y];simpa using H
  .have G:=bN.1 inv.2 k (i-1) (by simpa using F) (by simp;omega) (by omega);rw[y]at G;refine acB G ?_;simpa using H
theorem ara{l:List bu}(h:LP (l.take l.length)):LD l=decide ((l.length:Int)<=16):=by rw[bs]at h;unfold LD Dq;refine eA.2 ⟨λh=>by omega,λj=>⟨h.1,h.2,by omega⟩⟩
theorem anJ{l:List bu}{i:Nat}(hi:i<l.length)(h:¬j8 l[i]):LD l=false:=an λj=>h (j.1 _ (aE hi))
theorem anK{l:List bu}{i:Nat}(hi:i<l.length)(y:0<i)(h:¬CJ (l[i-1]'(by omega)) l[i]):LD l=false:=an λj=>h (bN.1 j.2.1 (i-1) i (by omega) hi (by omega))
theorem Sc{l:List bu}(hl:l.length<=1000000):agJ l=some (LD l):=by
 refine GU (N:=l.length) (by omega) (λi _=>LP (l.take i)) (some (LD l)) (by simp[LP]) ?_ ?_
 .rintro _ j h;rw[dV,ara h]
 .rintro i hi _ inv j K;rw[dx hi,bO hi];refine bz λk J=>?_
  have G:k (true,())=some false:=by subst J;rfl
  have H:k (false,())=j (((i+1:Nat):Int),()):=by rw[<-cP i];subst J;rfl
  rw[ai (Wz _)];by_cases y:j8 l[i]
  .rw[az (by simp[y])];by_cases F:0<i
   .rw[eG (by omega),Hb i F (by rw[iE];omega),bO,ai (H6 _ _),jc,aiQ];by_cases C:CJ (l[i-1]'(by omega)) l[i]
    .rw[ap C];exact H.trans (K _ (agK hi inv y λ_=>C))
    .rw[an C,anK hi F C];exact G
   .rw[cV (by omega),jc];exact H.trans (K _ (agK hi inv y λh=>absurd h F))
  .rw[aT (by simp[y]),jc,G,anJ hi y]
def HP(l:List bp):Prop:=(∀h∈l,h.2.1≠[]/\Dq h.2.1)/\jN (l.map (·.1))
theorem agL{l:List bp}{i:Nat}(hi:i<l.length)(inv:HP (l.take i))(C:l[i].2.1≠[]/\Dq l[i].2.1)(y:∀F:0<i,oj (l[i-1]'(by omega)).1 l[i].1):HP (l.take (i+1)):=by
 refine⟨λx j=>?_,anG hi inv.2 y⟩;rw[ax hi]at j;rcases aQ.1 j with j|j
 .exact inv.1 x j
 .simp at j;rw[j];exact C
theorem arb{l:List bp}(h:HP (l.take l.length)):Bz l=true:=by rw[bs]at h;exact ap h
theorem anL{l:List bp}{i:Nat}(hi:i<l.length)(h:l[i].2.1=[]):Bz l=false:=an λj=>(j.1 _ (aE hi)).1 h
theorem anM{l:List bp}{i:Nat}(hi:i<l.length)(h:LD l[i].2.1=false):Bz l=false:=an λj=>of_decide_eq_false h (j.1 _ (aE hi)).2
theorem anN{l:List bp}{i:Nat}(hi:i<l.length)(y:0<i)(h:¬oj (l[i-1]'(by omega)).1 l[i].1):Bz l=false:=an λj=>h (by have:=bN.1 j.2 (i-1) i (by simp;omega) (by simpa using hi) (by omega);simpa using this)
theorem JG{l:List bp}(h:lk l):Rl l=some (Bz l):=by
 have hl:=h.2;refine GU (N:=l.length) (by omega) (λi _=>HP (l.take i)) (some (Bz l)) (by simp[HP,jN]) ?_ ?_
 .rintro _ j h;rw[dV,arb h]
 .rintro i hi _ inv j R;rw[dx hi,bO hi];refine bz λk K=>?_
  have F:k (true,())=some false:=by subst K;rfl
  have J:k (false,())=j (((i+1:Nat):Int),()):=by rw[<-cP i];subst K;rfl
  by_cases y:l[i].2.1=[]
  .rw[aT (by rw[y];rfl),jc,F,anL hi y]
  .have G:((l[i].2.1.length:Int)==0)=false:=by
    cases V:l[i].2.1 with
    |nil=>exact absurd V y
    |cons x xs=>simp;omega
   rw[az G,ai (Sc (by have:=(h.1 _ (aE hi)).1;omega))];cases hL:LD l[i].2.1 with
   |false=>rw[aT (by rfl),jc,F,anM hi hL]
   |true=>
    rw[az (by rfl)];by_cases H:0<i
    .rw[eG (by omega),Hb i H (by rw[iE];omega),bO,ai (B4 _ _),jc];by_cases C:oj (l[i-1]'(by omega)).1 l[i].1
     .rw[ap C];exact J.trans (R _ (agL hi inv ⟨y,bA hL⟩ λ_=>C))
     .rw[an C,anN hi H C];exact F
    .rw[cV (by omega),jc];exact J.trans (R _ (agL hi inv ⟨y,bA hL⟩ λh=>absurd h H))
theorem aiO{l}(h:Bz l=true)(u):Bz (eB l u)=true:=by have h:=bA h;refine ap ⟨λx j=>h.1 x (aI.1 j).1,?_⟩;exact dt ((fF).map _) h.2
def Gv(u:ar)(l:List bp):List bp:=l.filter λp=>decide (oj p.1 u)
def Yt(u:ar)(l:List bp):List bp:=l.filter λp=>decide (p.1=u)
def yV(u:ar)(l:List bp):List bp:=l.filter λp=>decide (oj u p.1)
theorem aoP(u):∀{l:List bp},jN (l.map (·.1))->l=Gv u l++(Yt u l++yV u l)
 |[],_=>rfl
 |p::l,h=>by
  have⟨y,R⟩:=bw.1 h;have y:∀x∈l,oj p.1 x.1:=λx j=>y _ (dm j)
  have J:=aoP u (l:=l) R;unfold Gv Yt yV at J ⊢;rw[bi,bi,bi];by_cases G:oj p.1 u
  .have V:¬p.1=u:=λe=>jv u (by rw[e]at G;exact G)
   have C:¬oj u p.1:=λe=>CW G e
   rw[ah (by simpa using G),ag (by simpa using V),ag (by simpa using C),kw,<-J]
  .by_cases F:p.1=u
   .have C:¬oj u p.1:=by rw[F];exact jv u
    have H:∀x∈l,decide (oj x.1 u)=false:=λx j=>an λe=>CW e (by rw[<-F];exact y x j)
    have a2:∀x∈l,decide (x.1=u)=false:=λx j=>an λe=>jv u (by have:=y x j;rw[F,e]at this;exact this)
    have a3:∀x∈l,decide (oj u x.1)=true:=λx j=>ap (by rw[<-F];exact y x j)
    rw[ag (by simpa using G),ah (by simpa using F),ag (by simpa using C),jY H,jY a2,BN a3];rfl
   .have C:=cZ λK=>F (EF G K)
    have H:∀x∈l,decide (oj x.1 u)=false:=λx j=>an λe=>CW (sy C (y x j)) e
    have a2:∀x∈l,decide (x.1=u)=false:=λx j=>an λe=>jv u (by have:=sy C (y x j);rw[e]at this;exact this)
    have a3:∀x∈l,decide (oj u x.1)=true:=λx j=>ap (sy C (y x j))
    rw[ag (by simpa using G),ag (by simpa using F),ah (by simpa using C),jY H,jY a2,BN a3];rfl
theorem akv{l:List bp}(h:jN (l.map (·.1))):(l.map (·.1)).Nodup:=N3 h
theorem IH{l}(h:(l.map (·.1)).Nodup){p}(j:p∈l):cE l p.1=p.2.1:=by
 induction l with
 |nil=>cases j
 |cons x l y=>
  have⟨F,C⟩:=dK.1 h;rw[cE];rcases aB.1 j with rfl|j
  .rw[ah rfl]
  .rw[ag λe=>F (by show x.1∈_;rw[e];exact dm j),y C j]
theorem EY{l}{u}(h:∀p∈l,p.1≠u):cE l u=[]:=by
 induction l with
 |nil=>rfl
 |cons x l j=>rw[cE,ag (h x (by simp)),j λy C=>h y (by simp[C])]
theorem Sn{l:List bp}(h:jN (l.map (·.1)))(u:ar):(Yt u l=[]/\(∀p∈l,p.1≠u)/\cE l u=[])\/(Yt u l=[(u,cE l u,())]/\(u,cE l u,())∈l):=by
 by_cases F:∃p∈l,p.1=u
 .right;obtain⟨p,j,rfl⟩:=F;have e:=IH (akv h) j;have J:((p.1,cE l p.1,()):bp)=p:=by rw[e]
  rw[J];refine⟨?_,j⟩;have R:=akv h;clear h e J;induction l with
  |nil=>cases j
  |cons x l G=>
   have⟨H,V⟩:=dK.1 R;unfold Yt at G ⊢;rw[bi];rcases aB.1 j with rfl|j
   .rw[ah (by simp),jY λy K=>an λe=>H (by show p.1∈_;rw[<-e];exact dm K)]
   .rw[ag (by simpa using λe=>H (by show x.1∈_;rw[e];exact dm j)),G j V]
 .left;have C:∀p∈l,p.1≠u:=λp j e=>F ⟨p,j,e⟩
  exact⟨jY λp j=>an (C p j),C,EY C⟩
def Ev(l:List bp)(u:ar)(j:List bu):List bp:=Gv u l++((if j=[]then[]else[(u,j,())])++yV u l)
theorem Sf{l}(h:jN (l.map (·.1)))(u:ar)(j:List bu):(Ev l u j).length<=l.length+1:=by have y:=bS List.length (aoP u h);unfold Ev;rw[aq,aq]at y;rw[aq,aq];split<;>simp<;>omega
theorem uH{l}{u}{now}{p}:p∈Ev l u now↔(p∈l/\p.1≠u)\/(now≠[]/\p=(u,now,())):=by
 unfold Ev Gv yV;rw[aQ,aQ,aI,aI];constructor
 .rintro(⟨y,j⟩|h|⟨y,j⟩)
  .exact .inl ⟨y,λe=>jv u (by simp only[bg]at j;rw[e]at j;exact j)⟩
  .split at h
   .cases h
   .rename_i G;exact .inr ⟨G,by simpa using h⟩
  .exact .inl ⟨y,λe=>jv u (by simp only[bg]at j;rw[e]at j;exact j)⟩
 .rintro(⟨y,j⟩|⟨G,rfl⟩)
  .by_cases C:oj p.1 u
   .exact .inl ⟨y,by simpa using C⟩
   .by_cases F:oj u p.1
    .exact .inr (.inr ⟨y,by simpa using F⟩)
    .exact absurd (EF C F) j
  .rw[ag G];exact .inr (.inl (by simp))
theorem LV{l}(h:jN (l.map (·.1)))(u:ar)(F:List bu):jN ((Ev l u F).map (·.1)):=by
 unfold Ev;rw[cw,cw];have C:∀x∈(Gv u l).map (·.1),oj x u:=λx G=>by obtain⟨p,J,rfl⟩:=aK.1 G;simpa using(aI.1 J).2
 have j:∀x∈(yV u l).map (·.1),oj u x:=λx G=>by obtain⟨p,J,rfl⟩:=aK.1 G;simpa using(aI.1 J).2
 have R:jN ((Gv u l).map (·.1)):=dt ((fF).map _) h;have K:jN ((yV u l).map (·.1)):=dt ((fF).map _) h
 have y:∀x∈(if F=[]then([]:List bp)else[(u,F,())]).map (·.1),x=u:=λx G=>by
  split at G
  .cases G
  .simpa using G
 refine dF.2 ⟨R,dF.2 ⟨?_,K,λa H b hb=>?_⟩,λa H b hb=>?_⟩
 .split<;>simp
 .rw[y a H];exact j b hb
 .rcases aQ.1 hb with hb|hb
  .rw[y b hb];exact C a H
  .exact sy (C a H) (j b hb)
theorem Rp{l}(h:jN (l.map (·.1)))(u:ar)(j:List bu)(x:ar):cE (Ev l u j) x=if x=u then j else cE l x:=by
 have J:=akv (LV h u j);by_cases G:x=u
 .subst G;rw[ah rfl];by_cases K:j=[]
  .rw[K];refine EY λp y=>?_
   rcases uH.1 y with⟨_,H⟩|⟨H,_⟩
   .exact H
   .exact absurd rfl H
  .exact IH J (p:=(x,j,())) (uH.2 (.inr ⟨K,rfl⟩))
 .rw[ag G];by_cases F:∃p∈l,p.1=x
  .obtain⟨p,y,rfl⟩:=F;rw[IH (akv h) y,IH J (uH.2 (.inl ⟨y,G⟩))]
  .have C:∀p∈l,p.1≠x:=λp y e=>F ⟨p,y,e⟩
   rw[EY C];refine EY λp y=>?_
   rcases uH.1 y with⟨h1,_⟩|⟨_,rfl⟩
   .exact C p h1
   .exact hZ G
def u5(u:ar)(j:List bu):List bp->Bool->List bp->List bp
 |[],d,out=>if d=true then out else out++[(u,j,())]
 |p::l,d,out=>
  if d=true\/oj p.1 u then(if p.1=u then u5 u j l d out else u5 u j l d (out++[p]))
  else(if p.1=u then u5 u j l true (out++[(u,j,())])else u5 u j l true (out++[(u,j,())]++[p]))
theorem MK(u)(now):∀(l out:List bp),u5 u now l true out=out++l.filter λp=>decide (p.1≠u)
 |[],out=>by rw[u5,ah rfl,qi,bZ]
 |p::l,out=>by
  rw[u5,ah (.inl rfl),bi];by_cases h:p.1=u
  .rw[ah h,MK u now l,ag (by simpa using h)]
  .rw[ag h,MK u now l,ah (by simpa using h),bn];rfl
theorem agB{u}{l:List bp}(h:jN (l.map (·.1))):(l.filter λp=>decide (p.1≠u))=Gv u l++yV u l:=by
 have e:=aoP u h
 have C:(Gv u l).filter (λp=>decide (p.1≠u))=Gv u l:=BN λx j=>ap λe=>by
  have:=(aI.1 j).2
  simp only[bg]at this
  rw[e]at this;exact jv u this
 have a2:(Yt u l).filter (λp=>decide (p.1≠u))=[]:=jY λx j=>an λy=>by
  have:=(aI.1 j).2
  simp only[bg]at this
  exact y this
 have a3:(yV u l).filter (λp=>decide (p.1≠u))=yV u l:=BN λx j=>ap λe=>by
  have:=(aI.1 j).2
  simp only[bg]at this
  rw[e]at this;exact jv u this
 calc (l.filter λp=>decide (p.1≠u))=(Gv u l++(Yt u l++yV u l)).filter (λp=>decide (p.1≠u)):=by rw[<-e]
  _=Gv u l++yV u l:=by rw[eU,eU,C,a2,a3];rfl
theorem agC(u)(y:List bu):∀(l out:List bp),jN (l.map (·.1))->u5 u y l false out=out++(Gv u l++([(u,y,())]++yV u l))
 |[],out,_=>by rw[u5,ag (by simp)];rfl
 |p::l,out,h=>by
  have⟨R,V⟩:=bw.1 h;have R:∀x∈l,oj p.1 x.1:=λx C=>R _ (dm C)
  rw[u5];by_cases j:oj p.1 u
  .have F:¬p.1=u:=λe=>jv u (by rw[e]at j;exact j)
   rw[ah (.inr j),ag F,agC u y l _ V];have J:Gv u (p::l)=p::Gv u l:=by unfold Gv;rw[bi,ah (by simpa using j)]
   have H:yV u (p::l)=yV u l:=by unfold yV;rw[bi,ag (by simpa using λe=>CW j e)]
   rw[J,H,bn];rfl
  .rw[ag (by simpa using j)]
   have K:∀x∈p::l,¬oj x.1 u:=by
    intro x C G;rcases aB.1 C with rfl|C
    .exact j G
    .exact j (sy (R x C) G)
   have J:Gv u (p::l)=[]:=jY λx C=>an (K x C)
   have H:=agB (u:=u) h;rw[J,cS]at H;rw[J,<-H,bi];by_cases F:p.1=u
   .rw[ah F,ag (by simpa using F),MK,bn];rfl
   .rw[ag F,ah (by simpa using F),MK];simp only[bn,cS,kw]
theorem aiG{l}(h:jN (l.map (·.1)))(u:ar)(j:List bu):u5 u j l (decide (j=[])) []=Ev l u j:=by
 unfold Ev;by_cases y:j=[]
 .rw[ap y,MK,ah y,agB h];rfl
 .rw[an y,agC u j l [] h,ag y];rfl
def GB(l:List bp)(f t:ar):List bp×Int×Unit:=if Bz l=true then(if f=t then([],24,())else if cE l t=[]then(Ev (Ev l f []) t (cE l f),0,())else([],21,()))else([],3,())
theorem Ro{l}(h:Bz l=true):jN (l.map (·.1)):=(bA h).2
theorem Se{l}(h:lk l)(hl:l.length<=390000)(hs:jN (l.map (·.1)))(u:ar){all:List bu}(y:tu all):lk (Ev l u all):=
 ⟨λp j=>by
  rcases uH.1 j with⟨h1,_⟩|⟨_,rfl⟩
  .exact h.1 p h1
  .exact y,by have:=Sf hs u all;omega⟩
theorem zh:tu []:=⟨by simp,λx j=>by cases j⟩
theorem ahW{α:Type}(p:α->Bool)(l:List α)(i:Nat)(h:i<l.length):(l.take (i+1)).filter p=(l.take i).filter p++(if p l[i]=true then[l[i]]else[]):=P1 p l i h
def Fz(l:List cd)(u:ar):List cd:=l.filter λc=>decide (c.1≠u)
theorem ur(v x:ar):cX false ((v.1==x.1)&&(v.2.1==x.2.1))=decide (v=x):=by rw[PG];exact eqA v x
theorem Ym{l}{u}{all}(h:lk l)(hs:jN (l.map (·.1)))(hal:all.length<=1000):abh l u all=some (Ev l u all):=by
 have hl:=h.2;show zP aj l u all=_;rw[<-aiG hs];refine jX ?_ ?_<;>
 .rw[ai (xL (s:=all) (by omega))]
  have hz:((all.length:Int)==0)=decide (all=[]):=by
   cases all with
   |nil=>rfl
   |cons x xs=>simp;omega
  rw[hz];refine mS (l:=l) (s0:=(decide (all=[]),[])) (by omega) (λi (z:Bool×List bp)=>(z.1,(i:Int),u.1,u.2.1,all,z.2,())) (λi z=>z.2.length<=2*i) (λl' z=>some (u5 u all l' z.1 z.2)) rfl (by simp) ?_ ?_
  .rintro⟨d,out⟩ ho Y;refine F8 ?_;refine bz λk hk=>?_
   have kk:∀x,k (x,())=some x:=by intro x;subst hk;rfl
   clear hk;simp only at ho;show aj.af (!d) (aj.bc (out.length+1) 40 (k (out++[(u,all,())],()))) (k (out,()))=some (u5 u all [] d out);cases d with
   |true=>rw[az (by rfl),kk,u5,ah rfl]
   |false=>rw[aT (by rfl),da,kk,u5,ag (by decide)]
  .rintro i hi ⟨d,out⟩ ho Y ha;simp only at ho;have h2:=(h.1 _ (aE hi)).1;refine HX hi ?_;refine bz λk5 hk5=>?_
   have R:∀(C:Bool) (j:List bp),j.length<=2*(i+1)->k5 (C,j,())=some (u5 u all (l.drop (i+1)) C j):=by intro C j V;rw[<-ha (C,j) V];subst hk5;dsimp only;rw[cP i]
   clear hk5 ha;refine tix hi ?_;rw[u5];refine bz λk9 X=>?_
   have k9u:l[i].1=u->∀(C:Bool) (j:List bp),j.length<=2*i+1->k9 (C,j,())=some (u5 u all (l.drop (i+1)) true (if C=true then j else j++[(u,all,())])):=by
    intro y C j V;subst X;show aj.af (cX true ((l[i].1.1==u.1)&&(l[i].1.2.1==u.2.1))) _ _=_;rw[Xr,eqA,az (by simp[y])];show aj.af (!C) (aj.bc (j.length+1) 40 (k5 (true,j++[(u,all,())],()))) (k5 (C,j,()))=_;cases C with
    |true=>rw[az (by rfl),ah rfl,R true j (by omega)]
    |false=>rw[aT (by rfl),ag (by decide),da,R true _ (by rw[aq];simp;omega)]
   have K:¬l[i].1=u->∀(C:Bool) (j:List bp),j.length<=2*i+1->k9 (C,j,())=some (u5 u all (l.drop (i+1)) C (j++[l[i]])):=by intro y C j V;subst X;show aj.af (cX true ((l[i].1.1==u.1)&&(l[i].1.2.1==u.2.1))) _ _=_;rw[Xr,eqA,aT (by simp[y]),ai (xL (by omega))];show aj.bc (j.length+1) 40 (k5 (C,j++[l[i]],()))=_;rw[da,R C _ (by rw[aq];simp;omega)]
   clear X;refine bz λH G=>?_
   have ay0:H (true,out,())=k9 (true,out++[(u,all,())],()):=by subst G;show aj.af true (aj.bc (out.length+1) 40 (k9 (true,out++[(u,all,())],()))) _=_;rw[aT rfl,da]
   have J:H (false,out,())=k9 (d,out,()):=by subst G;show aj.af false _ (k9 (d,out,()))=_;rw[az rfl]
   clear G;show aj.af (!d) (aj.ae (OX u l[i].1) λv=>H (v,out,())) (H (false,out,()))=_;cases d with
   |true=>
    rw[az (by rfl),J,ah (.inl rfl)];by_cases y:l[i].1=u
    .rw[ah y,k9u y true out (by omega),ah rfl]
    .rw[ag y,K y true out (by omega)]
   |false=>
    rw[aT (by rfl),ai (B4 _ _)];by_cases F:oj u l[i].1
    .have W:¬oj l[i].1 u:=λe=>CW F e
     have y:¬l[i].1=u:=λe=>jv u (by rw[e]at F;exact F)
     rw[ap F,ay0,K y true _ (by rw[aq];simp;omega),ag (by simpa using W),ag y]
    .rw[an F,J];by_cases y:l[i].1=u
     .have W:¬oj l[i].1 u:=by rw[y];exact jv u
      rw[k9u y false out (by omega),ag (by decide),ag (by simpa using W),ah y]
     .have W:oj l[i].1 u:=cZ λW=>y (EF W F)
      rw[K y false out (by omega),ah (.inr W),ag y]
theorem ar4(a)(id):ahe id a=some (!(po id a),id,()):=by show some (a.2.1 != id,id,())=_;unfold po;by_cases h:a.2.1=id<;>simp[h]
theorem avq{l}{id}(hl:l.length<=1000000):
 (iy id l=some (-1,id,())/\∀a∈l,po id a=true)\/
 ∃i:Nat,i<l.length/\iy id l=some ((i:Int),id,())/\(∀a∈l.take i,po id a=true)/\∀h:i<l.length,po id l[i]=false:=by
 refine oY (λo=>(o=some ((-1:Int),id,())/\∀a∈l,po id a=true)\/∃i:Nat,i<l.length/\o=some ((i:Int),id,())/\(∀a∈l.take i,po id a=true)/\∀h:i<l.length,po id l[i]=false) (λz=>l.length+1-z.1.toNat) (λz=>∃j:Nat,j<=l.length/\z=((j:Int),id,())/\∀a∈l.take j,po id a=true) ⟨0,br _,rfl,by simp⟩ (by omega) ?_;rintro _ ⟨j,G,rfl,y⟩ C F;by_cases h:j<l.length
 .rw[dx h];show(aj.aH l (j:Int) _=_/\_)\/∃i:Nat,_/\aj.aH l (j:Int) _=_/\_;rw[bO h,ai (show wt aj id l[j]=_ from ar4 _ _)];by_cases hv:po id l[j]=true
  .rw[hv,az (by rfl)];rw[cP j];refine F _ ⟨j+1,by omega,rfl,λa hm=>?_⟩ (by omega);rw[ax h]at hm;rcases aQ.1 hm with hm|hm
   .exact y a hm
   .simp only[ay]at hm;subst hm;exact hv
  .have hv:po id l[j]=false:=by simpa using hv
   rw[hv,aT (by rfl)];exact .inr ⟨j,h,rfl,y,λ_=>hv⟩
 .have:j=l.length:=by omega
  subst this;rw[dV];rw[bs]at y;exact .inl ⟨rfl,y⟩
theorem asF{l}{id}(hl:l.length<=1000000):mr id l=some (l.filter (po id),id,()):=by
 show c7 aj id l=_;unfold c7;rcases avq (id:=id) hl with⟨e,R⟩|⟨y,F,e,hp,hn⟩
 .rw[ai e,aT (by rfl),lM.2 R]
 .rw[ai e,az (show((y:Int) == -1)=false by simp)];have J:=F;have hf0:(l.take (y+1)).filter (po id)=l.take y:=by rw[ax F,eU,lM.2 hp,bi,hn F];simp
  have hz:((y:Int),i64.wrap ((y:Int)+1),id,l,())=(((y:Nat):Int),((y+1:Nat):Int),id,l,()):=by rw[cP y]
  show aj.aV _ ((y:Int),i64.wrap ((y:Int)+1),id,l,())=_;rw[hz];refine(iI (λz=>l.length+1-z.2.1.toNat) (λz=>∃(i j:Nat) (s:List aN),i<j/\j<=l.length/\s.length=l.length/\s.take i=(l.take j).filter (po id)/\s.drop j=l.drop j/\z=((i:Int),(j:Int),id,s,())) (λ_=>some (l.filter (po id),id,())) ⟨y,y+1,l,by omega,J,rfl,hf0.symm,rfl,rfl⟩ (by dsimp only;omega) ?_);rintro _ ⟨i,j,s,hij,hj,hs,X,hd,rfl⟩ again ha;show aj.af (decide ((j:Int)<(s.length:Int))) _ _=_;by_cases h:j<s.length
  .have C:j<l.length:=by omega
   have hx:s[j]=l[j]:=by
    have V:(s.drop j)[0]?=(l.drop j)[0]?:=by rw[hd]
    rw[cN,cN,jh,aw h,aw C]at V;exact cK V
   rw[dx h];refine bz λk5 H=>?_
   have kk:∀(G:Nat) (s':List aN),G<j+1->s'.length=l.length->s'.take G=(l.take (j+1)).filter (po id)->s'.drop (j+1)=l.drop (j+1)->k5 ((G:Int),id,s',())=some (l.filter (po id),id,()):=by intro G s' g1 g2 g3 g4;subst H;dsimp only;rw[cP j];exact ha _ ⟨G,j+1,s',by omega,by omega,g2,g3,g4,rfl⟩ (by dsimp only;omega)
   clear H ha
   have K:s.drop (j+1)=l.drop (j+1):=by
    have:=bS (List.drop 1) hd
    rwa [mN,mN]at this
   have W:i<s.length:=by omega
   refine tix h ?_;refine tnt h ?_;rw[hx,ai (show wt aj id l[j]=_ from ar4 _ _)];by_cases hv:po id l[j]=true
   .rw[hv,aT (by rfl)];refine tix W ?_;refine tnt W ?_;dsimp only;rw[aX,cP i];refine kk (i+1) (s.set i l[j]) (by omega) (by rw[fO];exact hs) ?_ ?_
    .rw[ax C,eU,<-X,bi,hv,qi,ah rfl];have V:i<(s.set i l[j]).length:=by rw[fO];exact W
     rw[ax V,qE];congr 1;rw[y6 (au _)]
    .rw[y7 (by omega)];exact K
   .have hv:po id l[j]=false:=by simpa using hv
    rw[hv,az (by rfl)];refine kk i s (by omega) hs ?_ K;rw[ax C,eU,bi,hv,X];simp
  .have:j=s.length:=by omega
   subst this;have hll:=hs;rw[dV];show aj.j5 (i:Int) s.length _=_;rw[Jd,aX];show aj.j5 (i:Int) s.length _=_;rw[Jd,aX];show aj.j5 (i:Int) (s.take i++List.replicate (s.length-i) (0,0,0,[],())).length _=_;have Y:(s.take i).length=i:=by rw[bf];omega
   rw[Jd (by omega) (by rw[aq,Y];omega),aX];dsimp only;rw[kN (by omega),Br,Nat.min_self,X,hll,bs]
theorem Wn{l}{id}(h:qP l):X0 l id=some (l.filter (po id)):=by show sI aj l id=_;unfold sI;have hl:=h.2;rw[ai (NI h),ai (asF (by omega))]
def mZ(a b:bu):Prop:=a.1=b.1/\a.2.1=b.2.1
instance (a b:bu):Decidable (mZ a b):=by unfold mZ;infer_instance
def LB(l:List bu):Prop:=l.Pairwise CJ
def fM(x:bu)(l:List bu):List bu:=l.filter λy=>decide (CJ y x)
def zf(x:bu)(l:List bu):List bu:=l.filter λy=>decide (mZ y x)
def Ad(x:bu)(l:List bu):List bu:=l.filter λy=>decide (CJ x y)
theorem Yg(x):∀{l:List bu},LB l->l=fM x l++(zf x l++Ad x l)
 |[],_=>rfl
 |y::l,h=>by
  have⟨G,K⟩:=bw.1 h;have H:=Yg x K;unfold fM zf Ad at H ⊢;rw[bi,bi,bi];by_cases C:CJ y x
  .have R:¬mZ y x:=by unfold CJ at C;unfold mZ;omega
   have F:¬CJ x y:=by unfold CJ at C ⊢;omega
   rw[ah (by simpa using C),ag (by simpa using R),ag (by simpa using F)];exact bS (y::·) H
  .have J:∀z∈l,decide (CJ z x)=false:=λz j=>an λe=>C (acB (G z j) e)
   by_cases hs:mZ y x
   .have F:¬CJ x y:=by unfold mZ at hs;unfold CJ;omega
    have a2:∀z∈l,decide (mZ z x)=false:=λz j=>an λe=>by have:=G z j;unfold CJ at this;unfold mZ at hs e;omega
    have a3:∀z∈l,decide (CJ x z)=true:=λz j=>ap (by have:=G z j;unfold CJ at this ⊢;unfold mZ at hs;omega)
    rw[ag (by simpa using C),ah (by simpa using hs),ag (by simpa using F),jY J,jY a2,BN a3];rfl
   .have F:CJ x y:=by unfold CJ at C ⊢;unfold mZ at hs;omega
    have a2:∀z∈l,decide (mZ z x)=false:=λz j=>an λe=>by have:=G z j;unfold CJ at this F;unfold mZ at e;omega
    have a3:∀z∈l,decide (CJ x z)=true:=λz j=>ap (acB F (G z j))
    rw[ag (by simpa using C),ag (by simpa using hs),ah (by simpa using F),jY J,jY a2,BN a3];rfl
def tp:List bu->Int->Int->Int
 |[],_,_=>0
 |y::l,a,t=>if y.1=a/\y.2.1=t then y.2.2.1 else tp l a t
theorem H3{l}{x}(h:zf x l=[]):tp l x.1 x.2.1=0:=by
 induction l with
 |nil=>rfl
 |cons y l j=>
  unfold zf at h j;rw[bi]at h;by_cases hs:mZ y x
  .rw[ah (by simpa using hs)]at h;cases h
  .rw[ag (by simpa using hs)]at h;unfold mZ at hs;rw[tp,ag hs,j h]
theorem Wv{l}{x y}{m}(h:zf x l=y::m):tp l x.1 x.2.1=y.2.2.1:=by
 induction l with
 |nil=>cases h
 |cons z l j=>
  unfold zf at h j;rw[bi]at h;by_cases hs:mZ z x
  .rw[ah (by simpa using hs)]at h;obtain⟨rfl,_⟩:=List.cons.inj h;unfold mZ at hs;rw[tp,ah hs]
  .rw[ag (by simpa using hs)]at h;unfold mZ at hs;rw[tp,ag hs,j h]
theorem LC{l}(h:LB l)(x:bu):zf x l=[]\/∃y,zf x l=[y]/\mZ y x/\y∈l:=by
 cases e:zf x l with
 |nil=>exact .inl rfl
 |cons y m=>
  have H:y∈zf x l:=by rw[e];simp
  have j:=aI.1 H;have hs:mZ y x:=by simpa using j.2
  refine .inr ⟨y,?_,hs,j.1⟩;have F:LB (zf x l):=dt fF h;rw[e]at F;cases m with
  |nil=>rfl
  |cons z m=>
   have J:=(bw.1 F).1 z (by simp);have G:z∈zf x l:=by rw[e];simp
   have C:mZ z x:=by simpa using(aI.1 G).2
   unfold CJ at J;unfold mZ at hs C;omega
def Eu(l:List bu)(x:bu):List bu:=fM x l++((if x.2.2.1=0 then[]else[x])++Ad x l)
theorem atb{l}(h:LB l)(x:bu){i:Nat}(hi:i<l.length):(CJ l[i] x↔i<(fM x l).length):=by
 have e:=Yg x h
 have F:∀y∈zf x l++Ad x l,¬CJ y x:=λy j hl=>by
  rcases aQ.1 j with j|j
  .have:=(aI.1 j).2;simp only[bg]at this;unfold CJ at hl;unfold mZ at this;omega
  .have:=(aI.1 j).2;simp only[bg]at this;unfold CJ at hl this;omega
 have hl:∀y∈fM x l,CJ y x:=λy j=>by simpa using(aI.1 j).2
 generalize fM x l=a at *;generalize zf x l++Ad x l=b at *;subst e;by_cases C:i<a.length
 .rw[s8 C];exact⟨λ_=>C,λ_=>hl _ (aE _)⟩
 .rw[nj (by omega)];exact⟨λhh=>absurd hh (F _ (aE _)),λhh=>absurd hh C⟩
theorem Yh{l}(h:LB l)(x:bu):(∃hi:(fM x l).length<l.length,mZ l[(fM x l).length] x/\zf x l=[l[(fM x l).length]])\/(zf x l=[]/\∀hi:(fM x l).length<l.length,¬mZ l[(fM x l).length] x):=by
 have e:=Yg x h;rcases LC h x with hm|⟨y,hm,hs,_⟩
 .right;refine⟨hm,λhi hs=>?_⟩;have:l[(fM x l).length]∈zf x l:=aI.2 ⟨aE hi,by simpa using hs⟩;rw[hm]at this;cases this
 .left;rw[hm]at e;have j:(fM x l).length<l.length:=by have:=bS List.length e;simp at this;omega
  have F:l[(fM x l).length]=y:=by
   have C:l[(fM x l).length]?=some y:=by
    have:(fM x l++([y]++Ad x l))[(fM x l).length]?=some y:=by simp
    rwa [<-e]at this
   rw[aw j]at C;exact cK C
  exact⟨j,by rw[F];exact⟨hs,hm⟩⟩
theorem Ww{l}(h:LB l){x:bu}(hi:(fM x l).length<l.length)(hs:mZ l[(fM x l).length] x)(q:Int)(j:q≠0):
 l.set (fM x l).length (x.1,x.2.1,q,())=Eu l (x.1,x.2.1,q,()):=by
 have e:=Yg x h
 have hm:zf x l=[l[(fM x l).length]]:=by
  rcases Yh h x with⟨_,_,hm⟩|⟨_,C⟩
  .exact hm
  .exact absurd hs (C hi)
 generalize H:l[(fM x l).length]=y at hm;have G:Eu l (x.1,x.2.1,q,())=fM x l++([(x.1,x.2.1,q,())]++Ad x l):=by unfold Eu;rw[ag j];rfl
 rw[G];rw[hm]at e;have F:l.set (fM x l).length (x.1,x.2.1,q,())=(fM x l++([y]++Ad x l)).set (fM x l).length (x.1,x.2.1,q,()):=by rw[<-e]
 rw[F,qF _ _ (au _),zE];rfl
theorem aht{l}(h:LB l){x:bu}(hi:(fM x l).length<l.length)(hs:mZ l[(fM x l).length] x):
 l.take (fM x l).length++l.drop ((fM x l).length+1)=fM x l++Ad x l:=by
 have e:=Yg x h
 have hm:zf x l=[l[(fM x l).length]]:=by
  rcases Yh h x with⟨_,_,hm⟩|⟨_,j⟩
  .exact hm
  .exact absurd hs (j hi)
 generalize C:l[(fM x l).length]=y at hm;rw[hm]at e;generalize fM x l=a at *;generalize Ad x l=b at *;subst e;simp
theorem ahu{l}(h:LB l){x:bu}(hm:zf x l=[]):
 l.take (fM x l).length++x::l.drop (fM x l).length=fM x l++(x::Ad x l):=by
 have e:=Yg x h;rw[hm]at e;generalize fM x l=a at *;generalize Ad x l=b at *;subst e;simp
def jz(x:bu):Int:=x.2.2.1
def ck(a:fI):Int:=a.2.1
def IU(l:List bu)(x:bu):List bu×Int×Unit:=if LD l=true then if j8 x then if cz (tp l x.1 x.2.1+x.2.2.1)then if tp l x.1 x.2.1=0/\l.length=16 then([],25,())else(Eu l (x.1,x.2.1,tp l x.1 x.2.1+x.2.2.1,()),0,())else([],7,())else([],2,())else([],3,())
def xI(l:List bu)(x:bu):List bu×Int×Unit:=if LD l=true then if j8 x then if tp l x.1 x.2.1<x.2.2.1 then([],23,())else(Eu l (x.1,x.2.1,tp l x.1 x.2.1-x.2.2.1,()),0,())else([],2,())else([],3,())
def tq(l:List bp)(u:ar)(x:bu):List bp×Int×Unit:=if Bz l=true then if(IU (cE l u) x).2.1=0 then(Ev l u (IU (cE l u) x).1,0,())else([],(IU (cE l u) x).2.1,())else([],3,())
def kS(l:List bp)(u:ar)(x:bu):List bp×Int×Unit:=if Bz l=true then if(xI (cE l u) x).2.1=0 then(Ev l u (xI (cE l u) x).1,0,())else([],(xI (cE l u) x).2.1,())else([],3,())
def uB(l:List bp)(f t:ar)(x:bu)(tag:Int):List bp×Int×Unit:=if Bz l=true then if f=t then([],24,())else if(kS l f x).2.1=0 then tq (kS l f x).1 t (x.1,tag,x.2.2.1,())else([],(kS l f x).2.1,())else([],3,())
def zA:fI:=(0,0,0,())
def fk:List fI->Int->fI×Bool×Unit
 |[],_=>(zA,false,())
 |a::l,k=>if a.1=k then(a,true,())else fk l k
def qY(as:List fI):List bu->List Int->List Int×Int×Unit
 |[],acc=>(acc,0,())
 |x::l,acc=>if(fk as x.1).2.1=true then if cz (jz x*ck (fk as x.1).1)then qY as l (acc++[jz x*ck (fk as x.1).1])else([],7,())else([],11,())
def yE(as:List fI)(l:List bu):Int×Int×Unit:=if LD l=true then if(qY as l []).2.1=0 then cW (qY as l []).1.sum else(0,(qY as l []).2.1,())else(0,3,())
def fb(p:List aZ)(u:ar):Int×Int×Unit:=if dr p u = -9223372036854775808 then(0,7,())else if dr p u<0 then(- dr p u,0,())else(0,0,())
def uC(as:List fI)(p:List aZ)(h:List bp)(u:ar):Int×Int×Unit:=if(yE as (cE h u)).2.1=0 then if cz ((yE as (cE h u)).1+dr p u)then(max 0 ((yE as (cE h u)).1+dr p u),0,())else(0,7,())else(0,(yE as (cE h u)).2.1,())
abbrev PH:=List aZ×List bp×Int
def tU:ar:=(0,1,())
def fU:ar:=(0,0,())
def Gj(m d:Int):Int := -((-m) / d)
def oC(as:List fI)(u:ar)(x:bu)(m:Int)(p:List aZ)(h:List bp):PH:=if(fk as x.1).2.1=true then if ck (fk as x.1).1=0 then(p,h,0)else if cz (min (Gj m (ck (fk as x.1).1)) (jz x)*ck (fk as x.1).1)then if(uB h u tU (x.1,x.2.1,min (Gj m (ck (fk as x.1).1)) (jz x),()) 0).2.1=0 then if(ig p tU u (min (Gj m (ck (fk as x.1).1)) (jz x)*ck (fk as x.1).1)).2.1=0 then((ig p tU u (min (Gj m (ck (fk as x.1).1)) (jz x)*ck (fk as x.1).1)).1,(uB h u tU (x.1,x.2.1,min (Gj m (ck (fk as x.1).1)) (jz x),()) 0).1,0)else([],[],(ig p tU u (min (Gj m (ck (fk as x.1).1)) (jz x)*ck (fk as x.1).1)).2.1)else([],[],(uB h u tU (x.1,x.2.1,min (Gj m (ck (fk as x.1).1)) (jz x),()) 0).2.1)else([],[],7)else([],[],11)
def jV(as:List fI)(u:ar)(cash:Int):List bu->List aZ->List bp->PH
 |[],p,h=>(p,h,0)
 |x::l,p,h=>if cz (cash-dr p u)then if 0<cash-dr p u then
  if(oC as u x (cash-dr p u) p h).2.2=0 then jV as u cash l (oC as u x (cash-dr p u) p h).1 (oC as u x (cash-dr p u) p h).2.1 else([],[],(oC as u x (cash-dr p u) p h).2.2)
  else jV as u cash l p h else([],[],7)
def gJ(as:List fI)(p:List aZ)(h:List bp)(u:ar)(cash:Int):PH:=if wy p=true/\Bz h=true then if u=tU then([],[],2)else jV as u cash (cE h u) p h else([],[],3)
abbrev kA:=ar×ar×Int×Unit
abbrev NT:=List aZ×List bp×List kA×Int
def jl(as:List fI)(p:List aZ)(h:List bp)(by' to:ar)(n:Int):NT:=if n=0 then(p,h,[],0)else if(gJ as p h by' n).2.2=0 then if(ig (gJ as p h by' n).1 by' to n).2.1=0 then((ig (gJ as p h by' n).1 by' to n).1,(gJ as p h by' n).2.1,[(by',to,n,())],0)else([],[],[],(ig (gJ as p h by' n).1 by' to n).2.1)else([],[],[],(gJ as p h by' n).2.2)
def Ew(as:List fI)(p:List aZ)(h:List bp)(by' to:ar):NT:=if(fb p to).2.1=0 then if(uC as p h by').2.1=0 then if by'=to then(p,h,[],0)else jl as p h by' to (min (fb p to).1 (uC as p h by').1)else([],[],[],(uC as p h by').2.1)else([],[],[],(fb p to).2.1)
def FX(as:List fI)(p:List aZ)(h:List bp)(u:ar):NT:=if(fb p u).2.1=0 then if(gJ as p h u 0).2.2=0 then if(fb p u).1=(fb (gJ as p h u 0).1 u).1 then((gJ as p h u 0).1,(gJ as p h u 0).2.1,[],0)else((gJ as p h u 0).1,(gJ as p h u 0).2.1,[(u,u,(fb p u).1-(fb (gJ as p h u 0).1 u).1,())],0)else([],[],[],(gJ as p h u 0).2.2)else([],[],[],(fb p u).2.1)
theorem LF{l}{k}(hl:l.length<=1000):JB l k=some (fk l k):=by
 refine gQ (l:=l) (by omega) (s0:=()) (λ_ _=>True) (λl' _=>some (fk l' k)) trivial ?_ ?_
 .rintro _ j _;rw[dV];rfl
 .rintro i hi _ _ j y;rw[dx hi,bO hi,fk];by_cases h:l[i].1=k
  .rw[aT (by simp[h]),ah h]
  .rw[az (by simp[h]),ag h];rw[cP i];exact y _ trivial
def ly(a:fI):Prop:=(1<=a.1/\a.1<=4)/\(0<=a.2.1/\a.2.1<=2147483647)/\(0<=a.2.2.1/\a.2.2.1<=10000)
instance (a:fI):Decidable (ly a):=by unfold ly;infer_instance
theorem Sa(p):LG p=some (decide (0<=p)&&decide (p<=2147483647)):=by
 refine de (λh=>?_) λh=>?_
 .rw[ap h];rfl
 .rw[an h];rfl
theorem NU{a}(h:ly a):Pq a=some 0:=by
 have⟨⟨K,J⟩,⟨F,C⟩,H,G⟩:=h;refine bz λk y=>?_
 have j:k (false,())=some 0:=by subst y;rfl
 rw[cV (by omega),cV (by omega),ai (Sa _),ap F,ap C,az (by rfl),cV (by omega),an (by omega)];exact j
theorem jy{z}(h:cz z):cW z=(z,0,()):=ah h
theorem tt{z}(h:¬cz z):cW z=(0,7,()):=ag h
theorem Yi{a b}(y:cz a)(hb:cz b):ec (a*b):=by
 unfold cz at y hb;unfold ec;rcases Int.le_total 0 a with h1|h1<;>rcases Int.le_total 0 b with j|j
 .have:=H4 (a:=a) (b:=b) (A:=9223372036854775808) (B:=9223372036854775808) ⟨h1,by omega⟩ ⟨j,by omega⟩;omega
 .have:=H4 (a:=a) (b := -b) (A:=9223372036854775807) (B:=9223372036854775808) ⟨h1,by omega⟩ ⟨by omega,by omega⟩;rw[HU]at this;omega
 .have:=H4 (a := -a) (b:=b) (A:=9223372036854775808) (B:=9223372036854775807) ⟨by omega,by omega⟩ ⟨j,by omega⟩;rw[Int.neg_mul]at this;omega
 .have:=H4 (a := -a) (b := -b) (A:=9223372036854775808) (B:=9223372036854775808) ⟨by omega,by omega⟩ ⟨by omega,by omega⟩;rw[Int.neg_mul_neg]at this;omega
theorem ajW{X β}(f)(z:X)(r:Option β)(h:∀j,f z j=r):aj.aV f z=r:=uD (N:=0) (by decide) (λ_=>z) r rfl h (λi hi=>absurd hi (by omega))
theorem Sb{a b}(G:cz a)(hb:cz b):ø (a::(b::[]))=some (cW (a*b)):=by
 have R:cz 1:=by unfold cz;omega
 have W:=Yi R G;have V:=Yi G hb;have C:=Et R G;have F:=Et G hb;have J:=JD W;have H:=JD V;rw[Int.one_mul]at C J;rw[jy G]at J;by_cases K:cz (a*b)
 .rw[jy K]at H ⊢;refine uD (N:=2) (by decide) (λi=>((if i=0 then 1 else if i=1 then a else a*b),((i:Nat):Int),())) _ rfl ?_ ?_
  .intro j;rfl
  .intro i hi j y;have:i=0\/i=1:=by omega
   rcases this with rfl|rfl
   .show aj.af true (aj.ae (Dp 1 a) _) _=_;rw[aT rfl,ai C];refine vY J ?_;exact y
   .show aj.af true (aj.ae (Dp a b) _) _=_;rw[aT rfl,ai F];refine vY H ?_;exact y
 .rw[tt K]at H ⊢;refine uD (N:=1) (by decide) (λi=>((if i=0 then 1 else a),((i:Nat):Int),())) _ rfl ?_ ?_
  .intro j;show aj.af true (aj.ae (Dp a b) _) _=_;rw[aT rfl,ai F];refine vY H ?_;rfl
  .intro i hi j y;have:i=0:=by omega
   subst this;show aj.af true (aj.ae (Dp 1 a) _) _=_;rw[aT rfl,ai C];refine vY J ?_;exact y
theorem ly.e8{a}(h:ly a):cz (ck a):=by unfold ly at h;unfold cz ck;omega
theorem NV{a}{q:Int}(h:ly a)(j:cz q):Gk a q=some (cW (q*ck a)):=by show pD aj a q=_;unfold pD;rw[ai (NU h),az (by rfl)];exact vY (Sb j h.e8) rfl
theorem ù{as}(h:∀a∈as,ly a){k}(j:(fk as k).2.1=true):ly (fk as k).1:=by
 induction as with
 |nil=>cases j
 |cons a l C=>
  rw[fk]at j ⊢;by_cases y:a.1=k
  .rw[ah y];exact h a (by simp)
  .rw[ag y]at j ⊢;exact C (λb hb=>h b (by simp[hb])) j
theorem ajX{as}{l:List bu}(R:∀a∈as,ly a)(H:as.length<=1000)(hl:tu l):
 CK as l=some ((if LD l=true then qY as l []else([],3,())),()):=by
 show iK aj as l=_;unfold iK;have V:=hl.1;rw[ai (Sc (by omega))];by_cases F:LD l=true
 .rw[F,az (by rfl),ah rfl];refine gQ (l:=l) (by omega) (λi (z:List Int×Unit)=>z.1.length<=i) (λl' (z:List Int×Unit)=>some (qY as l' z.1,())) (au _) ?_ ?_
  .rintro⟨acc,⟨⟩⟩ j _;rw[dV];rfl
  .rintro i hi ⟨acc,⟨⟩⟩ C j J;simp only at C;refine HX hi ?_;rw[bO hi,qY];rw[ai (LF H)];by_cases y:(fk as l[i].1).2.1=true
   .have K:cz (jz l[i]):=hl.2 _ (aE hi);rw[az (by rw[y];rfl),ah y];show aj.ae (Gk (fk as l[i].1).1 (jz l[i])) _=_;rw[ai (NV (ù R y) K)];by_cases G:cz (jz l[i]*ck (fk as l[i].1).1)
    .rw[jy G,ah G];show aj.af false _ (aj.bc (acc.length+1) 8 (j (IntKind.i64.wrap ((i:Int)+1),acc++[jz l[i]*ck (fk as l[i].1).1],())))=_;rw[az rfl,da,cP i];exact J (acc++[jz l[i]*ck (fk as l[i].1).1],()) (by simp;omega)
    .rw[tt G,ag G];exact Vq rfl rfl
   .have y:(fk as l[i].1).2.1=false:=by simpa using y
    rw[aT (by rw[y];rfl),ag (by rw[y];simp)]
 .have F:LD l=false:=by simpa using F
  rw[F,aT (by rfl),ag (by simp)]
theorem ú(as):∀(l:List bu) (acc:List Int),(qY as l acc).1.length<=acc.length+l.length
 |[],acc=>by simp[qY]
 |x::l,acc=>by
  rw[qY];split
  .split
   .have:=ú as l (acc++[jz x*ck (fk as x.1).1]);simp at this ⊢;omega
   .simp
  .simp
theorem aeZ(as):∀(l:List bu) (acc:List Int),(∀x∈acc,cz x)->∀x∈(qY as l acc).1,cz x
 |[],acc,h=>by simpa[qY]using h
 |x::l,acc,h=>by
  rw[qY];split
  .split
   .rename_i C;exact aeZ as l _ λy j=>(aQ.1 j).elim (h y) λj=>by simp at j;exact j▸C
   .simp
  .simp
theorem ajY{as}{l}(J:∀a∈as,ly a)(y:as.length<=1000)(hl:tu l):Pr as l=some (yE as l):=by
 show uE aj as l=_;unfold uE yE;rw[ai (ajX J y hl)];by_cases j:LD l=true
 .rw[ah j,ah j];have G:=ú as l [];have F:=aeZ as l [] (by simp);have K:=hl.1;generalize qY as l []=v at *;have⟨R,H,⟨⟩⟩:=v;simp only at G F;by_cases C:H=0
  .subst C;refine zG rfl ?_;rw[ai (tv F (by simp at G;omega))];rfl
  .refine tby C ?_;rw[ag C]
 .rw[ag j,ag j];exact Vq rfl rfl
theorem ajZ{as}{l}:cz (yE as l).1:=by
 unfold yE;split
 .split
  .unfold cW;split
   .assumption
   .unfold cz;omega
  .unfold cz;omega
 .unfold cz;omega
theorem acC{a}(h:cz a):LH a=some (if a<0 then cW (-a)else(a,0,())):=by
 show uF aj a=_;unfold uF;by_cases j:a<0
 .have:=Jv (a:=0) (b:=a) (by unfold cz;omega) h;rw[zC]at this;rw[eG j,ai this,ah j]
 .rw[cV j,ag j]
theorem BO{l}(h:ta l)(u):cz (dr l u):=by
 induction l with
 |nil=>unfold dr cz;omega
 |cons x l j=>
  rw[dr];split
  .exact h x (by simp)
  .exact j λy C=>h y (by simp[C])
theorem Yj{s}{u}(C:ta (pu s))(hl:(pu s).length<=1000000):Wx s u=some (fb (pu s) u):=by
 show qZ aj s u=_;unfold qZ fb;show aj.ae (nl (pu s) u) _=_;rw[ai (Gl hl)];have y:=BO C u;generalize dr (pu s) u=c at *;have e:(if c<0 then c else 0)=min 0 c:=by unfold cz at y;split<;>omega
 show aj.ae (LH (if c<0 then c else 0)) _=_;by_cases j:c<0
 .rw[ah j,ai (acC y),ah j];by_cases hm:c = -9223372036854775808
  .rw[ah hm,hm,tt (by unfold cz;omega)]
  .rw[ag hm,ah j,jy (by unfold cz at *;omega)]
 .rw[ag j,ai (acC (by unfold cz;omega)),ag (by omega),ag (by omega),ag j]
def gN(s:aU):List fI:=s.2.2.2.1
theorem aka{s}{u}(J:∀a∈gN s,ly a)(y:(gN s).length<=1000)(hh:lk (ho s))(H:ta (pu s))(hl:(pu s).length<=1000000):ahv s u=some (uC (gN s) (pu s) (ho s) u):=by
 show wC aj s u=_;unfold wC uC;refine vY (zg hh) ?_;show aj.ae (Pr (gN s) (cE (ho s) u)) _=_;rw[ai (ajY J y (p9 hh.1 u))];have G:=ajZ (as:=gN s) (l:=cE (ho s) u);generalize yE (gN s) (cE (ho s) u)=v at *;have⟨n,e,⟨⟩⟩:=v;simp only at G;show aj.af (e != 0) (some (0,e,())) (aj.ae (nl (pu s) u) λv3=>aj.ae (H5 (n::(v3::[]))) λv4=>some ((if v4.1>0 then v4.1 else 0),v4.2))=some (if e=0 then(if cz (n+dr (pu s) u)then(max 0 (n+dr (pu s) u),0,())else(0,7,()))else(0,e,()));by_cases C:e=0
 .subst C;rw[ah rfl,az (by rfl),ai (Gl hl)];have K:=BO H u;generalize dr (pu s) u=c at *;refine vY (tv (l:=[n,c]) (by intro x F;simp at F;rcases F with rfl|rfl<;>assumption) (by simp)) ?_;have es:[n,c].sum=n+c:=by simp
  rw[es];by_cases j:cz (n+c)
  .rw[jy j,ah j];congr 2;split<;>omega
  .rw[tt j,ag j];rfl
 .rw[ag C,fT C]
theorem û{m d}(_:0<m)(j:0<d):Gj m d=if 0<m % d then m / d+1 else m / d:=by
 unfold Gj;have F:=iw m (n3 j);have C:=gG m j;have y:=mW m d;have key:∀q r:Int,0<=r->r<d -> -m=d*q+r->(-m) / d=q:=λq r a b e=>by rw[e,Int.add_comm,Int.add_mul_ediv_left _ _ (n3 j),jI a b];omega
 split
 .rw[key (-(m / d)-1) (d-m % d) (by omega) (by omega) (by rw[Int.mul_sub,HU,Int.mul_one];omega)];omega
 .rw[key (-(m / d)) 0 (by omega) j (by rw[HU];omega)];omega
theorem arD{m d}(hm:0<m)(j:0<d):0<Gj m d/\Gj m d<=m:=by
 have C:=mW m d;have H:=iw m (n3 j);have G:=gG m j;have y:=fR (gg hm) (gg j)
 have F:m / d<=d*(m / d):=by
  have:=gz (show(1:Int)<=d by omega) y
  rwa [Int.one_mul]at this
 rw[û hm j];split
 .omega
 .refine⟨?_,by omega⟩;rcases Int.lt_or_eq_of_le y with h|h
  .exact h
  .exfalso;rw[<-h,Fl]at C;omega
theorem aeY{lo y}(j:0<=lo)(J:lo<18446744073709551616)(F:0<y)(C:y<18446744073709551616):p7 0 lo y=some (lo / y,lo % y,()):=by show j7 aj 0 lo y=_;unfold j7;have H:=fR j (gg F);have G:lo / y<=lo:=xj _ j;rw[az (by simp;omega),cV (by omega),aT (by rfl),Ye,Ye,rr j,ru j,R' _ (by omega)]
theorem atc{m d}(hm:0<=m)(hI:cz m)(F:0<d)(J:cz d):õ (wide m) d=some (wide (m / d),m % d,0,()):=by
 show rD aj (wide m) d=_;unfold rD;unfold cz at hI J;have h1:=iw m (n3 F);have h2:=gG m F;have G:=fR hm (gg F);have hq2:m / d<=m:=xj _ hm;have e0:u64.wrap d=d:=R' _ (by omega);have K:Ac (wide m)=some (CI m):=by have:=Jz (wide m) (mT m (by unfold ec;omega));rw[tb]at this;rw[this];unfold kz;rw[ag (by omega)]
 have e1:CI m=(0,m,()):=by unfold CI;rw[jI hm (by omega),n5 hm (by omega)]
 have j:p8 (wide m)=some false:=by
  rw[xq];have:(wide m).1=0:=by unfold wide;exact jI hm (by omega)
  rw[this];rfl
 have C:jk (0,m / d,()) false=some (wide (m / d),true,()):=by
  have V:=Gi (m / d) false ⟨G,by omega⟩;have hi:ec (m / d):=by unfold ec;omega
  have es:CI (m / d)=(0,m / d,()):=by unfold CI;rw[jI G (by omega),n5 G (by omega)]
  rw[es]at V;rw[V];show some (ö (m / d),decide (ec (m / d)),())=_;rw[LA _ hi,ap hi]
 rw[az (by simp;omega),cV (by omega),e0,ai K,e1,Ye (by omega),Ye (by omega)];show aj.ae (p7 (Int.tmod 0 d) m d) _=_;rw[Int.zero_tmod,ai (aeY hm (by omega) F (by omega))];refine bz λk hk=>?_
 have Y:k (m % d,u64.wrap (Int.tdiv 0 d),m / d,())=some (wide (m / d),m % d,0,()):=by
  subst hk;rw[Int.zero_tdiv,show u64.wrap 0=0 by decide];have R:i64.wrap (m % d)=m % d:=bG _ (by omega);have y:aj.ae (p8 (wide m)) (λX=>aj.ae (jk (0,m / d,()) X) λW=>some (W.1,i64.wrap (m % d),(0:Int),()))=some (wide (m / d),m % d,0,()):=by rw[ai j,ai C,R]
  refine jX ?_ y;rw[ai j];exact jX (by rw[ai C,R]) (by rw[ai C,R])
 refine bz λk2 H=>?_
 have kf:k2 (false,())=some (wide (m / d),m % d,0,()):=by subst H;refine zG rfl ?_;exact Y
 refine vY j ?_;rw[az rfl,kf]
theorem akb{a}{m:Int}(ha:ly a)(J:0<ck a)(hm:0<m)(H:cz m):acD a m=some (Gj m (ck a),0,()):=by
 show xJ aj a m=_;unfold xJ;have R:=ha.e8;have hb:=arD hm J;have G:cz (Gj m (ck a)):=by unfold cz at H ⊢;omega
 rw[ai (NU ha),az (by rfl),cV (by omega)]
 have W:atd m 1 (ck a)=some (Gj m (ck a),0,()):=by
  show LI aj m 1 (ck a)=_;unfold LI;have F:=Et H (show cz 1 by unfold cz;omega);rw[Int.mul_one]at F;rw[ai F,ai (atc (gg hm) H J R)];refine bz λk hk=>?_
  have X:∀z,cz z->k (0,wide z)=some (z,0,()):=by intro z Y;subst hk;refine vY (Dn (uA Y)) ?_;rw[jy Y]
  refine bz λk2 V=>?_
  have K:=û hm J;have hq:=fR (gg hm) (gg J);have hq2:m / ck a<=m:=xj _ (gg hm)
  have kf:∀b,b=decide (0<m % ck a)->k2 (b,())=some (Gj m (ck a),0,()):=by
   rintro _ rfl;subst V;by_cases h:0<m % ck a
   .rw[ah h]at K;rw[ap h]
    have j:aj.ae (Yk 1) (λv9=>aj.ae (xK (wide (m / ck a)::(v9::[]))) λC=>k (C.2.1,C.1))=some (Gj m (ck a),0,()):=by
     rw[ai (Gm 1 (by unfold cz;omega))]
     have y:=NW [wide (m / ck a),wide 1] (by
      intro w F;simp only[aB,dD,kO]at F;rcases F with rfl|rfl
      .exact mT _ (by unfold cz at H;unfold ec;omega)
      .exact mT _ (by unfold ec;omega)) (by simp)
     have es:rE [wide (m / ck a),wide 1]=m / ck a+1:=by unfold rE;simp[tb]
     have ef:fit (m / ck a+1)=(wide (m / ck a+1),0,()):=ah (by unfold cz at H;unfold ec;omega);rw[es,ef]at y;rw[ai y];rw[<-K];exact X _ G
    refine Vq rfl ?_;exact jX j j
   .rw[ag h]at K;rw[an h];refine zG rfl ?_;rw[<-K];exact X _ G
  refine Vq rfl ?_;exact kf _ rfl
 exact vY W rfl
open rA
theorem Gn(a b):(orI [yF a.1 b.1,yF a.2.1 b.2.1]<0↔CJ a b)/\(orI [yF a.1 b.1,yF a.2.1 b.2.1]=0↔mZ a b):=by
 unfold CJ mZ;simp only[orI,yF];by_cases F:a.1<b.1
 .simp[F];omega
 .by_cases H:b.1<a.1
  .have j:¬a.1=b.1:=by omega
   simp[F,H,j]
  .have j:a.1=b.1:=by omega
   by_cases C:a.2.1<b.2.1
   .simp[j,C];omega
   .by_cases G:b.2.1<a.2.1
    .have y:¬a.2.1=b.2.1:=by omega
     simp[j,C,G,y]
    .have y:a.2.1=b.2.1:=by omega
     simp[j,y]
theorem ate(i j:Nat)(h:i+j<9223372036854775807):i64.wrap (Int.fdiv (u64.wrap (i64.wrap ((i:Int)+(j:Int)))) (2 ^ (min (Int.toNat 1) u64.bits)))=(((i+j) / 2:Nat):Int):=by rw[show i64.wrap ((i:Int)+(j:Int))=((i+j:Nat):Int)by rw[dR];omega,R' _ (by omega),show(2:Int) ^ (min (Int.toNat 1) u64.bits)=2 by decide,eH _ (by decide),bG _ (by omega)];omega
theorem akc(x)(l):(fM x l).length<=l.length:=cp _ _
def CL(x:bu)(l:List bu):Bool:=!(zf x l).isEmpty
theorem avy{l}{x}(hs:LB l)(hl:l.length<=1000):kB l x=some (((((fM x l).length:Nat):Int),CL x l,()),()):=by
 show cG aj l x=_;have K:=akc x l;refine iI (λz=>(z.2.1-z.1).toNat) (λz=>∃i j:Nat,z=((i:Int),(j:Int),())/\i<=(fM x l).length/\(fM x l).length<=j/\j<=l.length) (λ_=>some (((((fM x l).length:Nat):Int),CL x l,()),())) ⟨0,l.length,rfl,br _,K,au _⟩ (by dsimp only;omega) ?_;rintro _ ⟨i,j,rfl,h1,h2,h3⟩ y R
 show aj.af (decide ((i:Int)<(j:Int))) (aj.jb 1 (aj.aH l (i64.wrap (Int.fdiv (u64.wrap (i64.wrap ((i:Int)+(j:Int)))) (2 ^ (min (Int.toNat 1) u64.bits)))) λW=>aj.ae (JE W x) λv4=>
  aj.af (decide (v4<0)) (y (i64.wrap (i64.wrap (Int.fdiv (u64.wrap (i64.wrap ((i:Int)+(j:Int)))) (2 ^ (min (Int.toNat 1) u64.bits)))+1),(j:Int),())) (y ((i:Int),i64.wrap (Int.fdiv (u64.wrap (i64.wrap ((i:Int)+(j:Int)))) (2 ^ (min (Int.toNat 1) u64.bits))),()))))
  (aj.af (decide ((i:Int)<(l.length:Int))) (aj.aH l (i:Int) λV=>aj.ae (JE V x) λX=>some (((i:Int),X==0,()),())) (some (((i:Int),false,()),())))=_
 rw[ate i j (by omega)];by_cases hij:i<j
 .have hh:(i+j) / 2<l.length:=by omega
  rw[eG (by omega),uz (by decide),bO hh,ai (H6 _ _)];have⟨o1,_⟩:=Gn l[(i+j) / 2] x;have F:=atb hs x hh;by_cases C:CJ l[(i+j) / 2] x
  .rw[eG (o1.2 C),cP _];have:=F.1 C;exact R _ ⟨(i+j) / 2+1,j,rfl,by omega,h2,h3⟩ (by dsimp only;omega)
  .rw[az (an λh=>C (o1.1 h))];have:¬(i+j) / 2<(fM x l).length:=λh=>C (F.2 h)
   exact R _ ⟨i,(i+j) / 2,rfl,h1,by omega,by omega⟩ (by dsimp only;omega)
 .have hi:i=(fM x l).length:=by omega
  subst hi;rw[cV (by omega)];rcases Yh hs x with⟨hi,J,hm⟩|⟨hm,Y⟩
  .have H:CL x l=true:=by unfold CL;rw[hm];rfl
   rw[eG (by omega),bO hi,ai (H6 _ _),H];have⟨_,G⟩:=Gn l[(fM x l).length] x;rw[G.2 J];rfl
  .have H:CL x l=false:=by unfold CL;rw[hm];rfl
   rw[H];by_cases hi:(fM x l).length<l.length
   .rw[eG (by omega),bO hi,ai (H6 _ _)];have⟨_,G⟩:=Gn l[(fM x l).length] x;have:(orI [yF l[(fM x l).length].1 x.1,yF l[(fM x l).length].2.1 x.2.1]==0)=false:=by rw[beq_eq_false_iff_ne];exact λh=>Y hi (G.1 h)
    rw[this]
   .rw[cV (by omega)]
theorem Wy{l}{x}(hl:l.length<=1000):Yl l x=some (if LD l=true then if j8 x then 0 else 2 else 3):=by
 show qm aj l x=_;unfold qm;rw[ai (Sc (by omega))];by_cases h:LD l=true
 .rw[h,az (by rfl),ah rfl,ai (Wz x)];by_cases j:j8 x
  .rw[ap j,az (by rfl),ah j]
  .rw[an j,aT (by rfl),ag j]
 .have h:LD l=false:=by simpa using h
  rw[h,aT (by rfl)];rfl
theorem H7{l}(h:LD l=true):Dq l:=bA h
theorem Ps{l}(h:Dq l)(x:bu):(CL x l=true/\∃hi:(fM x l).length<l.length,mZ l[(fM x l).length] x/\tp l x.1 x.2.1=l[(fM x l).length].2.2.1/\0<l[(fM x l).length].2.2.1)\/(CL x l=false/\zf x l=[]/\tp l x.1 x.2.1=0):=by
 rcases Yh h.2.1 x with⟨hi,j,hm⟩|⟨hm,_⟩
 .exact .inl ⟨by unfold CL;rw[hm];rfl,hi,j,Wv hm,(h.1 _ (aE hi)).2.2⟩
 .exact .inr ⟨by unfold CL;rw[hm];rfl,hm,H3 hm⟩
theorem ahw{l}{i:Nat}{x:bu}(h:i<=l.length)(hl:l.length<=1000):NX l (i:Int) (x::[])=some (l.take i++x::l.drop i,()):=by show JF 24 l (i:Int) [x]=_;unfold JF;rw[show(decide (0<=(i:Int))&&decide ((i:Int)<=(l.length:Int))&&Nat.ble ((l.length+1)*24) 140737488355328)=true by rw[aD,aD,bg,bg];exact⟨⟨by omega,by omega⟩,gU (by omega)⟩];rfl
theorem ahx{l}{i:Nat}(h:i<l.length):H8 l (i:Int) ((i+1:Nat):Int)=some (l.take i++l.drop (i+1),()):=by show Vr l (i:Int) ((i+1:Nat):Int)=_;unfold Vr;rw[show(decide (0<=(i:Int))&&decide ((i:Int)<((i+1:Nat):Int))&&decide (((i+1:Nat):Int)<=(l.length:Int)))=true by rw[aD,aD,bg,bg,bg];exact⟨⟨by omega,by omega⟩,by omega⟩];rfl
theorem atf{l}{x:bu}(hl:tu l)(Y:cz x.2.2.1):akd l x=some (IU l x):=by
 show Dr aj l x=_;unfold Dr IU;have h20:=hl.1;rw[ai (Wy (by omega))];by_cases H:LD l=true
 .rw[ah H,ah H];by_cases G:j8 x
  .rw[ah G,ah G,az (by rfl)];have j:=H7 H;have h16:=j.2.2;rw[ai (avy j.2.1 (by omega))];have hq:=G.2.2;rcases Ps j x with⟨K,hi,C,R,W⟩|⟨K,hm,R⟩
   .rw[K,R];refine zG rfl ?_;rw[bO hi];have hy:=hl.2 _ (aE hi);have y:=tv (l:=[l[(fM x l).length].2.2.1,x.2.2.1]) (by intro z V;simp at V;rcases V with rfl|rfl<;>assumption) (by simp);have es:[l[(fM x l).length].2.2.1,x.2.2.1].sum=l[(fM x l).length].2.2.1+x.2.2.1:=by simp
    rw[es]at y;rw[ai y];by_cases F:cz (l[(fM x l).length].2.2.1+x.2.2.1)
    .rw[jy F,ah F,ag (by rintro⟨h,_⟩;omega)];refine zG rfl ?_;rw[ai (xL (by omega)),bO hi];refine tnt hi ?_;rw[aX,C.1,C.2];rw[Ww j.2.1 hi C _ (by omega)]
    .rw[tt F,ag F];exact Vq rfl rfl
   .rw[K,R];have F:cz (0+x.2.2.1):=by rw[r'];exact Y
    rw[ah F];refine Vq rfl ?_;by_cases X:l.length=16
    .rw[eG (by omega),ah ⟨rfl,X⟩]
    .rw[cV (by omega),ag (by rintro⟨_,h⟩;exact X h)];have ex:((x.1,x.2.1,0+x.2.2.1,()):bu)=x:=by rw[r']
     have J:Eu l x=fM x l++(x::Ad x l):=by unfold Eu;rw[ag (by omega)];rfl
     rw[ex,J,<-ahu j.2.1 hm];refine jX ?_ ?_<;>
     .rw[ai (xL (by omega))];exact vY (ahw (akc x l) (by omega)) rfl
  .rw[ag G,ag G];exact Vq rfl rfl
 .rw[ag H,ag H];exact Vq rfl rfl
theorem aoK{l}{x:bu}(hl:tu l)(hx:cz x.2.2.1):ahy l x=some (xI l x):=by
 show Ae aj l x=_;unfold Ae xI;have h20:=hl.1;rw[ai (Wy (by omega))];by_cases K:LD l=true
 .rw[ah K,ah K];by_cases J:j8 x
  .rw[ah J,ah J,az (by rfl)];have j:=H7 K;have h16:=j.2.2;rw[ai (avy j.2.1 (by omega))];have hq:=J.2.2;refine bz λk hk=>?_
   have kt:k (true,())=some ([],23,()):=by subst hk;rfl
   rcases Ps j x with⟨Y,hi,y,hg,atg⟩|⟨Y,hm,hg⟩
   .rw[Y,hg];refine zG rfl ?_;rw[bO hi];have hy:=hl.2 _ (aE hi);by_cases C:l[(fM x l).length].2.2.1<x.2.2.1
    .rw[ap C,ah C,kt]
    .rw[an C,ag C];subst hk;refine zG rfl ?_;rw[ai (xL (by omega)),bO hi];refine tnt hi ?_;rw[bO hi];refine tnt hi ?_;rw[aX,y.1,y.2];have ew:i64.wrap (l[(fM x l).length].2.2.1-x.2.2.1)=l[(fM x l).length].2.2.1-x.2.2.1:=bG _ (by unfold cz at hy hx;omega);rw[ew];have H:(l.set (fM x l).length (x.1,x.2.1,l[(fM x l).length].2.2.1-x.2.2.1,())).length=l.length:=fO;have G:(fM x l).length<(l.set (fM x l).length (x.1,x.2.1,l[(fM x l).length].2.2.1-x.2.2.1,())).length:=by rw[H];exact hi
     refine bz λX hk2=>?_
     have kk:∀z:List bu,X (z,())=some (z,0,()):=by intro z;subst hk2;rfl
     show aj.aH (l.set (fM x l).length (x.1,x.2.1,l[(fM x l).length].2.2.1-x.2.2.1,())) (((fM x l).length:Nat):Int) (λ_=>aj.cr (l.set (fM x l).length (x.1,x.2.1,l[(fM x l).length].2.2.1-x.2.2.1,())) (fM x l).length λV=>aj.af (V.2.2.1==0) (aj.ae (H8 (l.set (fM x l).length (x.1,x.2.1,l[(fM x l).length].2.2.1-x.2.2.1,())) (((fM x l).length:Nat):Int) (i64.wrap ((((fM x l).length:Nat):Int)+1))) λW=>X W) (X (l.set (fM x l).length (x.1,x.2.1,l[(fM x l).length].2.2.1-x.2.2.1,()),())))=_;have F:=ij (β:=List bu×Int×Unit) G;rw[aX]at F;rw[bO G,F,qE,cP _];by_cases R:l[(fM x l).length].2.2.1-x.2.2.1=0
     .rw[aT (by simp[R]),ai (ahx G),kk];have e1:(l.set (fM x l).length (x.1,x.2.1,l[(fM x l).length].2.2.1-x.2.2.1,())).take (fM x l).length=l.take (fM x l).length:=by rw[y6 (au _)]
      have e2:(l.set (fM x l).length (x.1,x.2.1,l[(fM x l).length].2.2.1-x.2.2.1,())).drop ((fM x l).length+1)=l.drop ((fM x l).length+1):=by rw[y7 (by omega)]
      rw[e1,e2,aht j.2.1 hi y];unfold Eu;rw[ah R];rfl
     .rw[az (by simp[R]),kk,Ww j.2.1 hi y _ R]
   .rw[Y,hg,ah hq];refine Vq rfl ?_;rw[kt]
  .rw[ag J,ag J];exact Vq rfl rfl
 .rw[ag K,ag K];exact Vq rfl rfl
theorem WA{l}{u}{now}{e}(h:lk l)(C:now.length<=1000):Gp l u now e=some (if Bz l=true then if e=0 then(Ev l u now,0,())else([],e,())else([],3,())):=by
 show lO aj l u now e=_;unfold lO;rw[ai (JG h)];by_cases j:Bz l=true
 .rw[j,az (by rfl),ah rfl];by_cases y:e=0
  .rw[ah y,az (by simp[y]),ai (Ym h (bA j).2 C)]
  .rw[ag y,aT (by simp[y])]
 .have j:Bz l=false:=by simpa using j
  rw[j,aT (by rfl),ag (by simp)]
theorem ake{l}(h:LB l)(x:bu):(Eu l x).length<=l.length+1:=by have j:=bS List.length (Yg x h);unfold Eu;rw[aq,aq]at j;rw[aq,aq];split<;>simp<;>omega
theorem LJ{l}{x p}(h:p∈Eu l x):p∈l\/p=x:=by
 unfold Eu at h;rcases aQ.1 h with h|h
 .exact .inl (aI.1 h).1
 .rcases aQ.1 h with h|h
  .split at h
   .cases h
   .exact .inr (by simpa using h)
  .exact .inl (aI.1 h).1
theorem aoL{l}(h:∀x∈l,cz x.2.2.1)(a t):cz (tp l a t):=by
 induction l with
 |nil=>unfold tp cz;omega
 |cons x l j=>
  rw[tp];split
  .exact h x (by simp)
  .exact j λy C=>h y (by simp[C])
theorem akf{l}(h:∀x∈l,j8 x)(a t):0<=tp l a t:=by
 induction l with
 |nil=>exact jT _
 |cons x l j=>
  rw[tp];split
  .exact gg (h x (by simp)).2.2
  .exact j λy C=>h y (by simp[C])
theorem ü{l}(hi:Dq l)(hl:tu l){x:bu}(j:cz x.2.2.1):tu (Eu l x):=⟨by have:=ake hi.2.1 x;have:=hi.2.2;omega,λp y=>(LJ y).elim (hl.2 p) λe=>e▸j⟩
theorem Yn{l:List bu}(hl:tu l){x:bu}:tu (IU l x).1:=by
 unfold IU;by_cases j:LD l=true
 .rw[ah j];split
  .split
   .rename_i y;split
    .exact zh
    .exact ü (H7 j) hl y
   .exact zh
  .exact zh
 .rw[ag j];exact zh
theorem Sd{l:List bu}(hl:tu l){x:bu}:tu (xI l x).1:=by
 unfold xI;by_cases y:LD l=true
 .rw[ah y];by_cases j:j8 x
  .rw[ah j];by_cases C:tp l x.1 x.2.1<x.2.2.1
   .rw[ah C];exact zh
   .rw[ag C];refine ü (H7 y) hl ?_;have F:=aoL hl.2 x.1 x.2.1;have a3:=j.2.2;unfold cz at *;dsimp only;omega
  .rw[ag j];exact zh
 .rw[ag y];exact zh
theorem afa{l}(h:tu l):l.length<=1000:=by have:=h.1;omega
theorem afb{l}{u}{x}(h:lk l)(j:cz x.2.2.1):WB l u x=some (kS l u x):=by show om aj l u x=_;unfold om kS;have hl:=p9 h.1 u;rw[ai (zg h),ai (aoK hl j),ai (WA h (afa (Sd hl)))]
theorem akg{l}{u}{x}(h:lk l)(j:cz x.2.2.1):ý l u x=some (tq l u x):=by show qn aj l u x=_;unfold qn tq;have hl:=p9 h.1 u;rw[ai (zg h),ai (atf hl j),ai (WA h (afa (Yn hl)))]
theorem q5:lk []:=⟨λ_ h=>(by cases h),by simp⟩
theorem þ{l}(h:lk l)(hl:l.length<=390000)(u)(x):lk (kS l u x).1/\(kS l u x).1.length<=l.length+1:=by
 unfold kS;by_cases h1:Bz l=true
 .have hs:=(bA h1:Yo l).2;rw[ah h1];split
  .exact⟨Se h hl hs u (Sd (p9 h.1 u)),Sf hs u _⟩
  .exact⟨q5,by simp⟩
 .rw[ag h1];exact⟨q5,by simp⟩
theorem aoM{l}(h:lk l)(hl:l.length<=390000)(u)(x):lk (tq l u x).1/\(tq l u x).1.length<=l.length+1:=by
 unfold tq;by_cases h1:Bz l=true
 .have hs:=(bA h1:Yo l).2;rw[ah h1];split
  .exact⟨Se h hl hs u (Yn (p9 h.1 u)),Sf hs u _⟩
  .exact⟨q5,by simp⟩
 .rw[ag h1];exact⟨q5,by simp⟩
theorem akh{l}(h:lk l)(hl:l.length<=380000)(f t)(x)(tag):lk (uB l f t x tag).1/\(uB l f t x tag).1.length<=l.length+2:=by
 unfold uB;have⟨y,F⟩:=þ h (by omega) f x;split
 .split
  .exact⟨q5,by simp⟩
  .split
   .have⟨j,C⟩:=aoM y (by omega) t (x.1,tag,x.2.2.1,());exact⟨j,by omega⟩
   .exact⟨q5,by simp⟩
 .exact⟨q5,by simp⟩
theorem aoN{l}{f t}{x}{tag:Int}(h:lk l)(hl:l.length<=380000)(F:cz x.2.2.1):WC l f t x tag=some (uB l f t x tag):=by
 show Af aj l f t x tag=_;unfold Af uB;rw[ai (JG h)];by_cases y:Bz l=true
 .rw[y,az (by rfl),ah rfl,ur];by_cases j:f=t
  .rw[ah j,aT (by simp[j])]
  .rw[ag j,az (by simp[j]),ai (afb h F)];by_cases C:(kS l f x).2.1=0
   .rw[ah C,az (by simp[C])];exact vY (akg (x:=(x.1,tag,x.2.2.1,())) (þ h (by omega) f x).1 F) rfl
   .rw[ag C,fT C]
 .have y:Bz l=false:=by simpa using y
  rw[y,aT (by rfl),ag (by simp)]
set_option synthInstance.maxSize 100000
set_option synthInstance.maxHeartbeats 0
def zS:aU:=(0,[],[],[],[],[],[],[],[],[],[],[],())
def BB(s:aU)(r:PH):aU×Int×Unit:=if r.2.2=0 then(fV s r.1 r.2.1,0,())else(zS,r.2.2,())
theorem aki(s):fV s (pu s) (ho s)=s:=rfl
theorem afc{l f}(h:(qw l f).2.1=0):ta (qw l f).1:=by have⟨_,y,j⟩:=H9 h;rw[y];exact Yp j
theorem Sg{p}{f t}{n}(h:(ig p f t n).2.1=0):cz (-n)/\ig p f t n=qw p [(f,-n,()),(t,n,())]:=by
 unfold ig at h ⊢;by_cases j:cz (-n)
 .rw[ah j];exact⟨j,rfl⟩
 .rw[ag j]at h;split at h<;>simp at h
theorem LL{p}{f t}{n}(h:(ig p f t n).2.1=0):ta (ig p f t n).1/\(ig p f t n).1.length<=p.length+2:=by have⟨_,e⟩:=Sg h;rw[e]at h ⊢;exact⟨afc h,Sh _ _⟩
theorem JH:xr=some tU:=rfl
theorem acE:WD=some fU:=rfl
theorem acF(n q:Int):(if q<n then q else n)=min n q:=by split<;>omega
theorem ath{s}{p}{h}{u}{x}{m:Int}(ha:∀a∈gN s,ly a)(hl1:(gN s).length<=1000)(hh:lk h)(hhl:h.length<=380000)(hf:ta p)(hl:p.length<=800000)
 (hx:0<jz x/\cz (jz x)) (hm:0<m) (hI:cz m):WE (fV s p h) u x m=some (BB s (oC (gN s) u x m p h)):=by
 show Ag aj (fV s p h) u x m=_;unfold Ag oC;show aj.ae (JB (gN s) x.1) _=_;rw[ai (LF hl1)];by_cases j:(fk (gN s) x.1).2.1=true
 .rw[az (by rw[j];rfl),ah j];have J:=ù ha j;generalize (fk (gN s) x.1).1=a at J;by_cases C:ck a=0
  .rw[ah C,aT (by show(ck a==0)=true;simp[C])];rfl
  .have Y:0<ck a:=by have:=J.2.1.1;unfold ck at C ⊢;omega
   rw[ag C,az (by show(ck a==0)=false;simp[C]),ai (akb J Y hm hI)];have hb:=arD hm Y;have hq:0<min (Gj m (ck a)) (jz x)/\cz (min (Gj m (ck a)) (jz x)):=by have:=hx.2;unfold cz at *;omega
   show aj.af false _ (aj.ae (Gk a (if jz x<Gj m (ck a)then jz x else Gj m (ck a))) _)=_;rw[az rfl,acF];generalize hqe:min (Gj m (ck a)) (jz x)=q at hq;rw[ai (NV J hq.2)];refine bz λk hk=>?_
   have K:∀e st,e≠0->k (e,st)=some (zS,e,()):=by
    intro e st he;subst hk;refine bz λk6 F=>?_
    have R:k6 (e,st)=some (zS,e,()):=by subst F;show aj.af (e != 0) _ _=_;rw[aT (by simpa using he)];rfl
    clear F;show aj.af (e==0) _ (k6 (e,st))=_;rw[az (by simpa using he),R]
   by_cases V:cz (q*ck a)
   .rw[jy V,ah V];have y:=aoN (l:=h) (f:=u) (t:=tU) (x:=(x.1,x.2.1,q,())) (tag:=0) hh hhl hq.2;generalize hP:uB h u tU (x.1,x.2.1,q,()) 0=P at y;obtain⟨h',e1,⟨⟩⟩:=P
    have X:k (e1,fV s p h')=some (BB s (if e1=0 then(if(ig p tU u (q*ck a)).2.1=0 then((ig p tU u (q*ck a)).1,h',0)else([],[],(ig p tU u (q*ck a)).2.1))else([],[],e1))):=by
     by_cases H:e1=0
     .rw[ah H];subst hk;refine bz λk6 F=>?_
      have hmv:=NO (l:=p) (f:=tU) (t:=u) hf V (by omega);generalize hM:ig p tU u (q*ck a)=M at hmv;obtain⟨p',W,⟨⟩⟩:=M
      have R:k6 (W,fV s p' h')=some (BB s (if W=0 then(p',h',0)else([],[],W))):=by
       subst F;show aj.af (W != 0) (some (zS,W,())) (some (fV s p' h',0,()))=_;unfold BB;by_cases G:W=0
       .rw[az (by simp[G]),ah G];rfl
       .rw[aT (by simpa using G),ag G];rw[ag G]
      clear F;show aj.af (e1==0) _ _=_;rw[aT (by simp[H])];refine jX ?_ ?_<;>
      .rw[ai JH];rw[jy V];show aj.ae (qV p tU u (q*ck a)) _=_;rw[ai hmv];exact R
     .rw[ag H,K _ _ H];unfold BB;rw[ag H]
    clear hk;show aj.af true _ _=_;rw[aT rfl];refine jX ?_ ?_<;>
    .rw[ai JH];show aj.ae (WC h u tU (x.1,x.2.1,(if jz x<Gj m (ck a)then jz x else Gj m (ck a)),()) 0) _=_;rw[acF,hqe,ai y];exact X
   .rw[tt V,ag V];show aj.af false _ (k (7,fV s p h))=_;rw[az rfl,K _ _ (by decide)];rfl
 .have j:(fk (gN s) x.1).2.1=false:=by simpa using j
  rw[aT (by rw[j];rfl),ag (by rw[j];simp)];rfl
theorem afd{as}{u}{x}{m}{p}{h}(hh:lk h)(j:h.length<=380000)(y:ta p)(C:(oC as u x m p h).2.2=0):
 ta (oC as u x m p h).1/\(oC as u x m p h).1.length<=p.length+2/\lk (oC as u x m p h).2.1/\(oC as u x m p h).2.1.length<=h.length+2:=by
 unfold oC at C ⊢;split
 .split
  .exact⟨y,by simp,hh,by simp⟩
  .split
   .split
    .split
     .rename_i hm;have⟨F,a2⟩:=LL hm;have⟨a3,a4⟩:=akh hh j u tU (x.1,x.2.1,min (Gj m (ck (fk as x.1).1)) (jz x),()) 0;exact⟨F,a2,a3,a4⟩
     .exact⟨λ_ h=>(by cases h),by simp,q5,by simp⟩
    .exact⟨λ_ h=>(by cases h),by simp,q5,by simp⟩
   .exact⟨λ_ h=>(by cases h),by simp,q5,by simp⟩
 .exact⟨λ_ h=>(by cases h),by simp,q5,by simp⟩
theorem NY(as)(u)(cash):∀(l:List bu) (p:List aZ) (h:List bp),lk h->h.length+2*l.length<=380000->ta p->(jV as u cash l p h).2.2=0->
 ta (jV as u cash l p h).1/\(jV as u cash l p h).1.length<=p.length+2*l.length/\lk (jV as u cash l p h).2.1/\(jV as u cash l p h).2.1.length<=h.length+2*l.length
 |[],p,h,hh,_,j,_=>⟨j,by simp[jV],hh,by simp[jV]⟩
 |x::l,p,h,hh,hl,j,he=>by
  rw[aJ]at hl;rw[jV]at he ⊢;split
  .rename_i y;rw[ah y]at he;split
   .rename_i C;rw[ah C]at he;by_cases hs:(oC as u x (cash-dr p u) p h).2.2=0
    .rw[ah hs]at he ⊢;have⟨J,a2,a3,a4⟩:=afd hh (by omega) j hs;have⟨b1,H,F,G⟩:=NY as u cash l _ _ a3 (by omega) J he;exact⟨b1,by rw[aJ];omega,F,by rw[aJ];omega⟩
    .rw[ag hs]at he;exact absurd he hs
   .rename_i C;rw[ag C]at he;have⟨b1,H,F,G⟩:=NY as u cash l _ _ hh (by omega) j he;exact⟨b1,by rw[aJ];omega,F,by rw[aJ];omega⟩
  .rename_i y;rw[ag y]at he;simp at he
theorem Ex{h}(hp:Bz h=true)(u):Dq (cE h u):=by
 have hi:=(bA hp:Yo h).1;clear hp;induction h with
 |nil=>exact⟨λx F=>(by cases F),List.Pairwise.nil,by simp[cE]⟩
 |cons y l j=>
  rw[cE];split
  .exact(hi y (by simp)).2
  .exact j λz C=>hi z (by simp[C])
theorem Rk{as}{p}{h}{u}{cash}(hh:lk h)(hl:h.length<=370000)(F:ta p)(j:(gJ as p h u cash).2.2=0):
 ta (gJ as p h u cash).1/\(gJ as p h u cash).1.length<=p.length+32/\lk (gJ as p h u cash).2.1/\(gJ as p h u cash).2.1.length<=h.length+32:=by
 unfold gJ at j ⊢;by_cases y:wy p=true/\Bz h=true
 .rw[ah y]at j ⊢;by_cases C:u=tU
  .rw[ah C]at j;simp at j
  .rw[ag C]at j ⊢;have G:=(Ex y.2 u).2.2;have⟨H,a2,a3,a4⟩:=NY as u cash (cE h u) p h hh (by omega) F j;exact⟨H,by omega,a3,by omega⟩
 .rw[ag y]at j;simp at j
def ati(st:aU)(L:List bu):Int×List bB×List bR×List bu×List aN×List cd×List cU×List dk×List cj×List cj×List aZ×List bp×List bu×Unit:=(st.1,st.2.1,st.2.2.1,st.2.2.2.1,st.2.2.2.2.1,st.2.2.2.2.2.1,st.2.2.2.2.2.2.1,st.2.2.2.2.2.2.2.1,st.2.2.2.2.2.2.2.2.1,st.2.2.2.2.2.2.2.2.2.1,st.2.2.2.2.2.2.2.2.2.2.1,st.2.2.2.2.2.2.2.2.2.2.2.1,L,())
theorem akj{s}{p}{h}{u}{cash:Int}(ha:∀a∈gN s,ly a)(hl1:(gN s).length<=1000)(hh:lk h)(hhl:h.length<=370000)(hf:ta p)(hl:p.length<=700000)(hc:cz cash):
 WG (fV s p h) u cash=some (BB s (gJ (gN s) p h u cash)):=by
 show wD aj (fV s p h) u cash=_;unfold wD gJ;refine bz λk hk=>?_
 have kt:k (true,())=some (zS,3,()):=by subst hk;rfl
 have kf:Bz h=true->k (false,())=some (BB s (if u=tU then([],[],2)else jV (gN s) u cash (cE h u) p h)):=by
  intro hp;subst hk;refine zG rfl ?_;rw[ai JH,ur];by_cases hu:u=tU
  .rw[aT (by simp[hu]),ah hu];rfl
  .rw[az (by simp[hu]),ag hu];show aj.ae (H' h u) _=_;rw[ai (zg hh)];have hinv:=Ex hp u;have X:=p9 hh.1 u;generalize hL:cE h u=L at hinv X;have h16:=hinv.2.2;refine mS (l:=L) (s0:=(p,h)) (by omega) (λi (z:List aZ×List bp)=>((i:Int),ati (fV s z.1 z.2) L)) (λi z=>lk z.2/\z.2.length+2*(L.length-i)<=370032/\ta z.1/\z.1.length+2*(L.length-i)<=700032) (λl' z=>some (BB s (jV (gN s) u cash l' z.1 z.2))) rfl ⟨hh,by dsimp only;omega,hf,by dsimp only;omega⟩ ?_ ?_
   .rintro⟨p1,h1⟩ _ again;refine F8 ?_;rfl
   .rintro i hi ⟨p1,h1⟩ ⟨i1,i2,i3,i4⟩ again Y;simp only at i1 i2 i3 i4;show aj.af (decide ((i:Int)<(L.length:Int))) (aj.aH L (i:Int) λx6=>aj.cr L (Int.toNat (i:Int)) λx7=>aj.ae (nl p1 u) _) _=some (BB s (jV (gN s) u cash (L[i]::L.drop (i+1)) p1 h1));rw[dx hi,bO hi,ij hi,ai (Gl (by omega)),jV];have hg:=BO i3 u;rw[ai (Jv hc hg)];have hqx:0<jz L[i]/\cz (jz L[i]):=⟨(hinv.1 _ (aE hi)).2.2,X.2 _ (aE hi)⟩;generalize dr p1 u=g at hg;refine bz λJ G=>?_
    have H:∀(e:Int) (st:aU),e≠0->J (e,ati st L)=some (zS,e,()):=by intro e st he;subst G;exact tby he rfl
    have R:∀(r:PH),(r.2.2=0->lk r.2.1/\r.2.1.length<=h1.length+2/\ta r.1/\r.1.length<=p1.length+2)->∀st:aU,st=(BB s r).1->
     J ((BB s r).2.1,ati st L)=some (BB s (if r.2.2=0 then jV (gN s) u cash (L.drop (i+1)) r.1 r.2.1 else([],[],r.2.2))):=by
     rintro⟨p2,h2,e⟩ hr st rfl;simp only at hr;by_cases he:e=0
     .subst G;obtain⟨r1,r2,r3,r4⟩:=hr he;have er:BB s (p2,h2,e)=(fV s p2 h2,0,()):=ah he;rw[er,ah he];refine zG rfl ?_;rw[cP i];exact Y (p2,h2) ⟨r1,by dsimp only;omega,r3,by dsimp only;omega⟩
     .have er:BB s (p2,h2,e)=(zS,e,()):=ag he;rw[er,ag he];exact(H e zS he).trans (bS some (ag he:BB s ([],[],e)=_).symm)
    clear G Y;by_cases hI:cz (cash-g)
    .rw[jy hI,ah hI];refine bz λC y=>?_
     have V:0<cash-g->C (true,L,())=some (BB s (if(oC (gN s) u L[i] (cash-g) p1 h1).2.2=0 then jV (gN s) u cash (L.drop (i+1)) (oC (gN s) u L[i] (cash-g) p1 h1).1 (oC (gN s) u L[i] (cash-g) p1 h1).2.1 else([],[],(oC (gN s) u L[i] (cash-g) p1 h1).2.2))):=by intro j;subst y;have K:=ath (s:=s) (p:=p1) (h:=h1) (u:=u) (x:=L[i]) (m:=cash-g) ha hl1 i1 (by omega) i3 (by omega) hqx j hI;show aj.af true (aj.ae (WE (fV s p1 h1) u L[i] (cash-g)) _) _=_;rw[aT rfl,ai K];exact R _ (λhe=>by obtain⟨a1,a2,a3,a4⟩:=afd i1 (by omega) i3 he;exact⟨a3,a4,a1,a2⟩) _ rfl
     have F:C (false,L,())=some (BB s (jV (gN s) u cash (L.drop (i+1)) p1 h1)):=by subst y;have:=R (p1,h1,0) (λ_=>⟨i1,by simp,i3,by simp⟩) (fV s p1 h1) rfl;show aj.af false _ _=_;rw[az rfl];exact this
     clear y R;show aj.af true (C (decide (0<cash-g),L,())) _=_;rw[aT rfl];by_cases j:0<cash-g
     .rw[ap j,ah j];exact V j
     .rw[an j,ag j];exact F
    .rw[tt hI,ag hI];refine bz λC y=>?_
     have F:C (false,L,())=some (BB s ([],[],7)):=by subst y;show aj.af false _ (J (7,_))=_;rw[az rfl];exact H 7 (fV s p1 h1) (by decide)
     clear y;show aj.af false _ (C (false,L,()))=_;rw[az rfl];exact F
 clear hk;show aj.ae (Lv p) _=_;rw[ai (æ (by omega))];by_cases hp:wy p=true
 .rw[hp,az (by rfl)];show aj.ae (Rl h) _=_;rw[ai (JG hh)];by_cases W:Bz h=true
  .rw[W,ah ⟨rfl,rfl⟩];exact kf W
  .have W:Bz h=false:=by simpa using W
   rw[W,ag (by simp)];exact kt
 .have hp:wy p=false:=by simpa using hp
  rw[hp,aT (by rfl),ag (by simp),kt];rfl
def rF(s:aU)(r:NT):aU×List kA×Int×Unit:=if r.2.2.2=0 then(fV s r.1 r.2.1,r.2.2.1,0,())else(zS,[],r.2.2.2,())
theorem akk{s}{p}{h}{b t}{n:Int}(W:∀a∈gN s,ly a)(J:(gN s).length<=1000)(hh:lk h)(F:h.length<=370000)(K:ta p)(hl:p.length<=700000)(R:cz n):
 WH (fV s p h) b t n=some (rF s (jl (gN s) p h b t n)):=by
 show wE aj (fV s p h) b t n=_;unfold wE jl;by_cases G:n=0
 .rw[aT (by simp[G]),ah G];rfl
 .rw[az (by simp[G]),ag G,ai (akj W J hh F K hl R)];have C:=λhe=>Rk (as:=gN s) (u:=b) (cash:=n) hh F K he
  generalize gJ (gN s) p h b n=r at C;have⟨p1,h1,e⟩:=r;simp only at C;refine bz λk hk=>?_
  have y:∀e st,e≠0->k (e,st)=some (zS,[],e,()):=by intro e st he;subst hk;refine tby he ?_;rfl
  have kok:∀st,k (0,st)=some (st,[(b,t,n,())],0,()):=by intro st;subst hk;refine zG rfl ?_;exact jX rfl rfl
  by_cases he:e=0
  .have er:BB s (p1,h1,e)=(fV s p1 h1,0,()):=ah he;have⟨X,a2,a3,a4⟩:=C he;rw[er,ah he];have H:=NO (l:=p1) (f:=b) (t:=t) X R (by omega);show aj.af true (aj.ae (qV p1 b t n) _) _=_;rw[aT rfl,ai H];generalize ig p1 b t n=M;have⟨p2,V,⟨⟩⟩:=M;by_cases j:V=0
   .subst j;rw[kok,ah rfl];rfl
   .rw[y _ _ j,ag j];exact bS some (ag j:rF s ([],[],[],V)=_).symm
  .have er:BB s (p1,h1,e)=(zS,e,()):=ag he;rw[er,ag he];refine tqn he ?_;rw[y _ _ he];exact bS some (ag he:rF s ([],[],[],e)=_).symm
theorem arE(a b):aoO (a::(b::[]))=some (if a=0 then b else a):=by
 by_cases C:a=0
 .rw[ah C];refine uD (N:=if b=0 then 2 else 1) (by split<;>decide) (λi=>(((i:Nat):Int),())) _ rfl ?_ ?_
  .intro j;by_cases hb:b=0
   .rw[ah hb,hb];rfl
   .rw[ag hb];show aj.af true (aj.af (b != 0) (some b) _) _=_;rw[aT rfl,fT hb]
  .intro i hi j y;have:i=0\/(i=1/\b=0):=by split at hi<;>omega
   rcases this with rfl|⟨rfl,hb⟩
   .show aj.af true (aj.af (a != 0) (some a) _) _=_;rw[aT rfl,az (by simp[C])];exact y
   .show aj.af true (aj.af (b != 0) (some b) _) _=_;rw[aT rfl,az (by simp[hb])];exact y
 .rw[ag C];refine ajW _ _ _ λj=>?_
  show aj.af true (aj.af (a != 0) (some a) _) _=_;rw[aT rfl,fT C]
theorem BP{p}(j:ta p)(u):cz (fb p u).1/\0<=(fb p u).1:=by
 have y:=BO j u;unfold fb;split
 .exact⟨by unfold cz;omega,jT _⟩
 .split
  .unfold cz at *;exact⟨by omega,by omega⟩
  .exact⟨by unfold cz;omega,jT _⟩
theorem afe(as)(p)(h)(u):cz (uC as p h u).1/\0<=(uC as p h u).1:=by
 unfold uC;split
 .split
  .rename_i j;unfold cz at *;exact⟨by omega,by omega⟩
  .exact⟨by unfold cz;omega,jT _⟩
 .exact⟨by unfold cz;omega,jT _⟩
theorem atj{s}{p}{h}{b t}(H:∀a∈gN s,ly a)(y:(gN s).length<=1000)(hh:lk h)(G:h.length<=370000)(F:ta p)(hl:p.length<=700000):
 ÿ (fV s p h) b t=some (rF s (Ew (gN s) p h b t)):=by
 show Ds aj (fV s p h) b t=_;unfold Ds Ew;rw[ai (Yj (s:=fV s p h) F (by show p.length<=_;omega)),ai (aka (s:=fV s p h) H y hh F (by show p.length<=_;omega))];show aj.aG _ _=_;have ho:=BP F t;have K:=afe (gN s) p h b;have V:fb (pu (fV s p h)) t=fb p t:=rfl;have R:uC (gN (fV s p h)) (pu (fV s p h)) (Go.Proofs.YthghpahghjppjaaGreat.ho (fV s p h)) b=uC (gN s) p h b:=rfl;rw[V,R];generalize fb p t=o at *;generalize uC (gN s) p h b=r at *;obtain⟨n,e,⟨⟩⟩:=o;obtain⟨m,f,⟨⟩⟩:=r;simp only at ho K;refine bz λk hk=>?_
 have C:k (true,())=some (zS,[],(if e=0 then f else e),()):=by subst hk;refine Vq rfl ?_;rw[ai (arE e f)];rfl
 have J:k (false,())=some (rF s (if b=t then(p,h,[],0)else jl (gN s) p h b t (min n m))):=by
  subst hk;refine zG rfl ?_;rw[ur,acF];by_cases hu:b=t
  .rw[aT (by simp[hu]),ah hu];rfl
  .rw[az (by simp[hu]),ag hu,ai (akk H y hh G F hl (by unfold cz at *;omega))]
 show aj.af (e != 0) (k (true,())) (k (f != 0,()))=some (rF s (if e=0 then(if f=0 then(if b=t then(p,h,[],0)else jl (gN s) p h b t (min n m))else([],[],[],f))else([],[],[],e)));by_cases he:e=0
 .rw[az (by simp[he]),ah he];rw[ah he]at C;by_cases j:f=0
  .rw[ah j,show(f != 0)=false by simp[j],J]
  .rw[ag j,show(f != 0)=true by simpa using j,C];exact bS some (ag j:rF s ([],[],[],f)=_).symm
 .rw[fT he,ag he];rw[ag he]at C;rw[C];exact bS some (ag he:rF s ([],[],[],e)=_).symm
theorem atk{s}{p}{h}{u}(Y:∀a∈gN s,ly a)(R:(gN s).length<=1000)(hh:lk h)(G:h.length<=370000)(J:ta p)(hl:p.length<=700000):
 a_ (fV s p h) u=some (rF s (FX (gN s) p h u)):=by
 show Dt aj (fV s p h) u=_;unfold Dt FX;rw[ai (Yj (s:=fV s p h) J (by show p.length<=_;omega))];have ho:=BP J u;have V:fb (pu (fV s p h)) u=fb p u:=rfl;rw[V];generalize fb p u=o at *;obtain⟨n,e,⟨⟩⟩:=o;simp only at ho;show aj.af (e != 0) (some (zS,[],e,())) (aj.ae (WG (fV s p h) u 0) _)=some (rF s (if e=0 then _ else([],[],[],e)));by_cases he:e=0
 .rw[az (by simp[he]),ah he,ai (akj Y R hh G J hl (by unfold cz;omega))];have C:=λhe=>Rk (as:=gN s) (u:=u) (cash:=0) hh G J he
  generalize gJ (gN s) p h u 0=r at C;obtain⟨p1,h1,F⟩:=r;simp only at C;by_cases j:F=0
  .have er:BB s (p1,h1,F)=(fV s p1 h1,0,()):=ah j;obtain⟨W,a2,a3,a4⟩:=C j;rw[er,ah j];show aj.af false _ (aj.ae (Wx (fV s p1 h1) u) _)=_;rw[az rfl,ai (Yj (s:=fV s p1 h1) W (by show p1.length<=_;omega))];have K:=BP W u;have e3:fb (pu (fV s p1 h1)) u=fb p1 u:=rfl;rw[e3];generalize fb p1 u=X at *;obtain⟨y,f2,⟨⟩⟩:=X;simp only at K;show aj.af (n==y) (some (fV s p1 h1,[],0,())) (aj.gP (some (fV s p1 h1,[(u,u,i64.wrap (n-y),())],0,())) (some (fV s p1 h1,[(u,u,i64.wrap (n-y),())],0,())))=some (rF s (if n=y then(p1,h1,[],0)else(p1,h1,[(u,u,n-y,())],0)));by_cases H:n=y
   .rw[aT (by simp[H]),ah H];rfl
   .have ew:i64.wrap (n-y)=n-y:=bG _ (by unfold cz at *;omega);rw[az (by simpa using H),ag H,ew];exact jX rfl rfl
  .have er:BB s (p1,h1,F)=(zS,F,()):=ag j;rw[er,ag j];show aj.af (F != 0) (some (zS,[],F,())) _=_;rw[aT (by simpa using j)];exact bS some (ag j:rF s ([],[],[],F)=_).symm
 .rw[aT (by simpa using he),ag he];exact bS some (ag he:rF s ([],[],[],e)=_).symm
set_option maxHeartbeats 4000000
set_option maxRecDepth 1000000
def jm(T S:Int):List Int->Int->List CM
 |[],_=>[]
 |w::l,i=>(i,T*w / S,T*w % S,())::jm T S l (i+1)
def bump:List CM->List Int->List Int
 |[],o=>o
 |q::qs,o=>bump qs (o.set q.1.toNat (o.getD q.1.toNat 0+1))
def partsOf(Q:List CM):List Int:=Q.map λq=>q.2.1
def leftOf(Q:List CM):List Int:=Q.map λq=>q.2.2.1
def XS(T:Int)(l:List Int):Nat:=(T-(partsOf (jm T l.sum l 0)).sum).toNat
def CN(T:Int)(l:List Int):List Int:=if T=0 then List.replicate l.length 0 else bump ((tA (jm T l.sum l 0)).take (XS T l)) (partsOf (jm T l.sum l 0))
theorem zj(T S):∀(l:List Int) (i:Int),(jm T S l i).length=l.length
 |[],_=>rfl
 |w::l,i=>by simp[jm,zj T S l]
theorem LR(T S):∀(l:List Int) (i:Int) (k:Nat) (h:k<l.length),(jm T S l i)[k]'(by rw[zj];exact h)=(i+k,T*l[k] / S,T*l[k] % S,())
 |w::l,i,0,h=>by simp[jm]
 |w::l,i,k+1,h=>by have:=LR T S l (i+1) k (by simpa using h);simp only[jm,vN];rw[this];congr 1;omega
theorem Z3{T S}:∀{l:List Int} {i:Int} {q:CM},q∈jm T S l i->∃w∈l,q.2.1=T*w / S/\q.2.2.1=T*w % S/\i<=q.1/\q.1<i+l.length
 |[],_,_,h=>by cases h
 |w::l,i,q,h=>by
  rcases aB.1 h with rfl|h
  .exact⟨w,bU,rfl,rfl,jT _,by simp;omega⟩
  .have⟨v,hv,y,j,F,C⟩:=Z3 h;exact⟨v,bd _ hv,y,j,by omega,by simp only[aJ];omega⟩
theorem Rq(T S):∀(l:List Int) (i:Int),(jm T S l i).Pairwise λa b=>a.1<b.1
 |[],_=>.nil
 |w::l,i=>bw.2 ⟨λq j=>by have⟨_,_,_,_,h,_⟩:=Z3 j;omega,Rq T S l (i+1)⟩
theorem aha{T S}(hS:0<S):∀(l:List Int) (i:Int),(partsOf (jm T S l i)).sum*S+(leftOf (jm T S l i)).sum=T*l.sum
 |[],_=>by simp[jm,partsOf,leftOf]
 |w::l,i=>by have j:=aha (T:=T) hS l (i+1);have e:=mW (T*w) S;simp only[jm,partsOf,leftOf,bI,fG]at j ⊢;rw[n2,nZ,gE (T*w / S)];omega
theorem UP{S}:∀{L:List CM},(∀q∈L,q.2.2.1<S)->(leftOf L).sum<=L.length*(S-1)
 |[],_=>by simp[leftOf]
 |q::L,h=>by
  have j:=UP (L:=L) λx y=>h x (bd _ y)
  have C:=h q bU;simp only[leftOf,bI,fG,aJ]at j ⊢;have e:((L.length+1:Nat):Int)*(S-1)=L.length*(S-1)+(S-1):=by rw[FW,n2];simp
  rw[e];omega
theorem abM:∀{L:List CM},(∀q∈L,q.2.2.1=0)->(leftOf L).sum=0
 |[],_=>by simp[leftOf]
 |q::L,h=>by
  have j:=abM (L:=L) λx y=>h x (bd _ y)
  have C:=h q bU;simp only[leftOf,bI,fG]at j ⊢;omega
theorem ao1{S}{r:Nat}{L:List CM}(hS:0<S)(K:L.Pairwise λa b=>leQ a b=true)(G:∀q∈L,0<=q.2.2.1/\q.2.2.1<S)(hs:(leftOf L).sum=r*S):r<=L.length/\∀q∈L.take r,0<q.2.2.1:=by
 have key:∀k:Nat,k<r->((leftOf (L.drop k)).sum=0->False):=by
  intro k H V;have e:(leftOf L).sum=(leftOf (L.take k)).sum+(leftOf (L.drop k)).sum:=by rw[<-lr];unfold leftOf;rw[<-cw,mX]
  have h1:=UP (S:=S) (L:=L.take k) λq F=>(G q (eJ F)).2
  have Y:((L.take k).length:Int)*(S-1)<=k*(S-1):=gz (by rw[bf];omega) (by omega);have X:((k:Nat):Int)*(S-1)+k=k*S:=by rw[Int.mul_sub];omega
  have W:((k:Nat):Int)*S+S<=r*S:=by have:=gz (show((k+1:Nat):Int)<=r by omega) (show 0<=S by omega);rw[FW,n2]at this;simpa using this
  omega
 have hl:r<=L.length:=by
  rcases dO L.length r with h|h
  .exact(key _ h (by rw[fP];simp[leftOf])).elim
  .exact h
 refine⟨hl,λq F=>?_⟩;obtain⟨k,H,rfl⟩:=gS F;rw[bf]at H;rw[lc];have j:k<L.length:=by omega
 have hb:=G _ (aE j);rcases zD (0<(L[k]).2.2.1)with h|h
 .exact h
 .refine(key k (by omega) (abM λx y=>?_)).elim;have J:=G x (kP y);rw[cu j]at y;rcases aB.1 y with rfl|y
  .omega
  .have R:=cu j;have C:(L.drop k).Pairwise λa b=>leQ a b=true:=K.sublist (Co _ _)
   rw[R]at C;have:=(bw.1 C).1 x y;rw[Ir]at this;omega
theorem UQ:∀(qs:List CM) (o:List Int),(bump qs o).length=o.length
 |[],_=>rfl
 |q::qs,o=>by rw[bump,UQ qs];simp
theorem getD_set_ne{o:List Int}{i j:Nat}{v:Int}(h:i≠j):(o.set i v).getD j 0=o.getD j 0:=by rw[bV,bV,List.getElem?_set_ne h]
theorem ahb{T:Int}:∀(qs:List CM) (o:List Int),(∀x∈o,0<=x/\x<=T)->(∀q∈qs,0<=q.1/\o.getD q.1.toNat 0+1<=T)->(qs.Pairwise λa b=>a.1≠b.1)->∀x∈bump qs o,0<=x/\x<=T
 |[],o,h,_,_=>h
 |q::qs,o,h,F,hp=>by
  have⟨p1,p2⟩:=bw.1 hp
  have g0:0<=o.getD q.1.toNat 0:=by
   rw[bV];cases e:o[q.1.toNat]? with
   |none=>simp
   |some v=>exact(h v (ir e)).1
  have H:=F q bU;refine ahb qs _ (λx y=>?_) (λC j=>?_) p2
  .rcases sq y with y|rfl
   .exact h x y
   .omega
  .have G:=F C (bd _ j);have J:=p1 C j;refine⟨G.1,?_⟩;rw[getD_set_ne (by omega)];exact G.2
structure OkW(T:Int)(l:List Int):Prop where
 t0:0<=T
 ts:T<=l.sum
 nn:∀w∈l,0<=w
 s64:cz l.sum
 len:l.length<=1000
theorem ajm{a b:List Int}(h:a.Perm b):a.sum=b.sum:=by
 induction h with
 |nil=>rfl
 |cons x _ j=>rw[fG,fG,j]
 |swap x y l=>simp only[fG];omega
 |trans _ _ h1 C=>exact h1.trans C
theorem Hr:∀{l:List Int},(∀w∈l,0<=w)->0<=l.sum/\∀w∈l,w<=l.sum
 |[],_=>by simp
 |x::l,h=>by
  have⟨F,y⟩:=Hr (l:=l) λw j=>h w (bd _ j)
  have C:=h x bU;refine⟨by rw[fG];omega,λw j=>?_⟩;rw[fG];rcases aB.1 j with rfl|j
  .omega
  .have:=y w j;omega
theorem OkW.w64{T}{l}(h:OkW T l):∀w∈l,cz w:=λw j=>by have F:=(Hr h.nn).2 w j;have C:=h.nn w j;have y:=h.s64;unfold cz at *;omega
structure OkQ(T S:Int)(l:List Int)(Q:List CM)(r:Nat):Prop where
 len:Q.length=l.length
 q:∀q∈Q,0<=q.1/\q.1<l.length/\0<=q.2.1/\q.2.1<=T/\0<=q.2.2.1/\q.2.2.1<S/\(0<q.2.2.1->q.2.1+1<=T)
 re:(r:Int)=T-(partsOf Q).sum
 rl:r<=l.length
 pos:∀q∈(tA Q).take r,0<q.2.2.1
theorem OkW.quo{T}{l:List Int}(h:OkW T l)(hT:T≠0):OkQ T l.sum l (jm T l.sum l 0) (XS T l):=by
 have hS:0<l.sum:=by have:=h.t0;have:=h.ts;omega
 have G:∀q∈jm T l.sum l 0,0<=q.1/\q.1<l.length/\0<=q.2.1/\q.2.1<=T/\0<=q.2.2.1/\q.2.2.1<l.sum/\(0<q.2.2.1->q.2.1+1<=T):=by
  intro q G;have⟨w,H,V,R,e3,e4⟩:=Z3 G;have W:=h.nn w H;have w1:=(Hr h.nn).2 w H;have a:=jf h.t0 W;have b:=eI w1 h.t0;have c:=iw (T*w) (n3 hS);have d:=gG (T*w) hS;have m:=mW (T*w) l.sum;rw[<-V,<-R]at m;rw[<-R]at c d;have f:0<=q.2.1:=by rw[V];exact fR a (gg hS)
  have g:q.2.1<=T:=by
   rcases zD (q.2.1<=T)with g|g
   .exact g
   .have:=eI (show T+1<=q.2.1 by omega) (gg hS);rw[nZ,gE l.sum T]at this;omega
  refine⟨e3,by omega,f,g,c,d,λhp=>?_⟩;rcases zD (q.2.1+1<=T)with g2|g2
  .exact g2
  .have e5:q.2.1=T:=by omega
   rw[e5,gE l.sum T]at m;omega
 have J:=aha (T:=T) hS l 0;have j:=rG (jm T l.sum l 0);have C:∀L:List CM,(∀q∈L,0<=q.2.2.1)->0<=(leftOf L).sum:=λL hL=>by refine(Hr (l:=leftOf L) λw H=>?_).1;obtain⟨q,G,rfl⟩:=aK.1 H;exact hL q G
 have Y:=C _ λq F=>(G q F).2.2.2.2.1
 have e:(T-(partsOf (jm T l.sum l 0)).sum)*l.sum=(leftOf (jm T l.sum l 0)).sum:=by rw[Int.sub_mul];omega
 have X:0<=T-(partsOf (jm T l.sum l 0)).sum:=by
  rcases zD (0<=T-(partsOf (jm T l.sum l 0)).sum)with g|g
  .exact g
  .have:=gz (show T-(partsOf (jm T l.sum l 0)).sum <= -1 by omega) (gg hS);omega
 have K:((XS T l:Nat):Int)=T-(partsOf (jm T l.sum l 0)).sum:=by unfold XS;omega
 have y:(leftOf (tA (jm T l.sum l 0))).sum=(leftOf (jm T l.sum l 0)).sum:=ajm (j.map _);have hh:=ao1 (r:=XS T l) hS (Tl (jm T l.sum l 0)) (λq F=>by have:=G q (j.mem_iff.1 F);exact⟨this.2.2.2.2.1,this.2.2.2.2.2.1⟩) (by rw[y,K,e]);rw[j.length_eq,zj]at hh;exact⟨zj _ _ _ _,G,K,hh.1,hh.2⟩
theorem Sr{Q}{n:Nat}(C:∀(k:Nat) (h:k<Q.length),(Q[k]).1=(k:Int)){q:CM}(y:q∈Q):(partsOf Q).getD q.1.toNat 0=q.2.1/\(leftOf Q).getD q.1.toNat 0=q.2.2.1:=by obtain⟨k,j,rfl⟩:=gS y;rw[C k j,aX];unfold partsOf leftOf;simp[bV,j]
theorem acJ(T S)(l):∀(k:Nat) (h:k<(jm T S l 0).length),((jm T S l 0)[k]).1=(k:Int):=λk h=>by rw[LR T S l 0 k (by rwa [zj]at h)];exact r' _
theorem Yu{Q}(h:Q.Pairwise λa b=>a.1<b.1):(tA Q).Pairwise λa b=>a.1≠b.1:=(List.Perm.pairwise_iff (λh=>hZ h) (rG Q)).2 (h.imp λh=>by omega)
theorem OkW.split{T}{l:List Int}(h:OkW T l):(CN T l).length=l.length/\∀x∈CN T l,0<=x/\x<=T:=by
 unfold CN;by_cases C:T=0
 .rw[ah C];refine⟨wq,λx y=>?_⟩;have:=List.eq_of_mem_replicate y;subst this;have:=h.t0;omega
 .rw[ag C];have K:=h.quo C;refine⟨by rw[UQ];unfold partsOf;rw[aW,K.len],ahb _ _ (λx y=>?_) (λq j=>?_) ((Yu (Rq _ _ _ _)).sublist (Cw _ _))⟩
  .obtain⟨q,j,rfl⟩:=aK.1 y;have:=K.q q j;exact⟨this.2.2.1,this.2.2.2.1⟩
  .have hm:=(rG _).mem_iff.1 (eJ j);have k:=K.q q hm;refine⟨k.1,?_⟩;rw[(Sr (n:=0) (acJ _ _ _) hm).1];exact k.2.2.2.2.2.2 (K.pos q j)
abbrev Ah:=List aZ->List bp->NT
def fD:List Ah->List aZ->List bp->List kA->NT
 |[],p,h,d=>(p,h,d,0)
 |a::l,p,h,d=>if(a p h).2.2.2=0 then fD l (a p h).1 (a p h).2.1 (d++(a p h).2.2.1)else([],[],[],(a p h).2.2.2)
theorem Pu:∀(j y:List Ah) (p:List aZ) (h:List bp) (d:List kA),
 fD (j++y) p h d=if(fD j p h d).2.2.2=0 then fD y (fD j p h d).1 (fD j p h d).2.1 (fD j p h d).2.2.1 else fD j p h d
 |[],y,p,h,d=>by simp[fD]
 |a::j,y,p,h,d=>by
  rw[kw,fD,fD];by_cases C:(a p h).2.2.2=0
  .rw[ah C,ah C,Pu j y]
  .rw[ag C,ag C,ag C]
theorem P':∀(l:List Ah) (p:List aZ) (h:List bp) (d j:List kA),
 (fD l p h (j++d)).2.2.2=(fD l p h d).2.2.2/\((fD l p h d).2.2.2=0->fD l p h (j++d)=((fD l p h d).1,(fD l p h d).2.1,j++(fD l p h d).2.2.1,0))
 |[],p,h,d,j=>by simp[fD]
 |a::l,p,h,d,j=>by
  rw[fD,fD];by_cases y:(a p h).2.2.2=0
  .rw[ah y,ah y,bn];exact P' l _ _ _ j
  .rw[ag y,ag y];exact⟨rfl,λC=>absurd C y⟩
abbrev UA:=ar×Int
abbrev axy:=ar×ar×Int
def kx:List UA->List UA->List axy
 |[],_=>[]
 |_::_,[]=>[]
 |(u,x)::gs,(v,y)::ts=>(u,v,min x y)::if x<=y then kx gs ((v,y-x)::ts)else kx ((u,x-y)::gs) ts
termination_by gs ts=>gs.length+ts.length
theorem ZX:∀(n:Nat) (gs ts:List UA),gs.length+ts.length<=n->(kx gs ts).length<=gs.length+ts.length
 |_,[],ts,_=>by rw[kx];simp
 |_,(u,x)::gs,[],_=>by rw[kx];simp
 |n,(u,x)::gs,(v,y)::ts,j=>by
  obtain⟨m,rfl⟩:∃m,n=m+1:=⟨n-1,by simp only[aJ]at j;omega⟩;rw[kx];simp only[aJ]at j ⊢;split
  .have:=ZX m gs ((v,y-x)::ts) (by simp only[aJ];omega);simp only[aJ]at this;omega
  .have:=ZX m ((u,x-y)::gs) ts (by simp only[aJ];omega);simp only[aJ]at this;omega
def o4(as:List fI)(x:axy):Ah:=λp h=>jl as p h x.1 x.2.1 x.2.2
structure StR(p:List aZ)(h:List bp)(d:List kA)(n:Nat):Prop where
 f:ta p
 pl:p.length<=94+40*n
 hh:lk h
 hl:h.length<=94+32*n
 dl:d.length<=n
def FO(a:Ah)(k:Nat):Prop:=∀p h d n,StR p h d n->n+k<=10000->(a p h).2.2.2=0->StR (a p h).1 (a p h).2.1 (d++(a p h).2.2.1) (n+k)
theorem ZY(as)(b t)(m):FO (λp h=>jl as p h b t m) 1:=by
 intro p h d n S H j;have hh:=S.hl;have G:=S.pl;have J:=S.dl;dsimp only at j ⊢;unfold jl at j ⊢;by_cases F:m=0
 .rw[ah F];exact⟨S.f,by dsimp only;omega,S.hh,by dsimp only;omega,by rw[bZ];omega⟩
 .rw[ag F]at j ⊢;by_cases C:(gJ as p h b m).2.2=0
  .rw[ah C]at j ⊢;have⟨_,a2,a3,a4⟩:=Rk S.hh (by omega) S.f C;by_cases y:(ig (gJ as p h b m).1 b t m).2.1=0
   .rw[ah y];have:=LL y;refine⟨this.1,?_,a3,?_,?_⟩
    .dsimp only;omega
    .dsimp only;omega
    .rw[aq];show d.length+1<=n+1;omega
   .rw[ag y]at j;exact absurd j y
  .rw[ag C]at j;exact absurd j C
theorem agW(as)(b t):FO (λp h=>Ew as p h b t) 1:=by
 intro p h d n S G j;have hh:=S.hl;have H:=S.pl;have J:=S.dl;dsimp only at j ⊢;unfold Ew at j ⊢;by_cases C:(fb p t).2.1=0
 .rw[ah C]at j ⊢;by_cases y:(uC as p h b).2.1=0
  .rw[ah y]at j ⊢;by_cases F:b=t
   .rw[ah F];exact⟨S.f,by dsimp only;omega,S.hh,by dsimp only;omega,by rw[bZ];omega⟩
   .rw[ag F]at j ⊢;exact ZY as b t _ p h d n S G j
  .rw[ag y]at j;exact absurd j y
 .rw[ag C]at j;exact absurd j C
theorem agX(as)(u):FO (λp h=>FX as p h u) 1:=by
 intro p h d n S J j;have hh:=S.hl;have H:=S.pl;have K:=S.dl;dsimp only at j ⊢;unfold FX at j ⊢;by_cases C:(fb p u).2.1=0
 .rw[ah C]at j ⊢;by_cases y:(gJ as p h u 0).2.2=0
  .rw[ah y]at j ⊢;have⟨G,a2,a3,a4⟩:=Rk S.hh (by omega) S.f y;by_cases F:(fb p u).1=(fb (gJ as p h u 0).1 u).1
   .rw[ah F];exact⟨G,by dsimp only;omega,a3,by dsimp only;omega,by rw[bZ];omega⟩
   .rw[ag F];exact⟨G,by dsimp only;omega,a3,by dsimp only;omega,by rw[aq];show d.length+1<=n+1;omega⟩
  .rw[ag y]at j;exact absurd j y
 .rw[ag C]at j;exact absurd j C
theorem agY{k}:∀(l:List Ah),(∀a∈l,FO a k)->∀p h d n,StR p h d n->n+k*l.length<=10000->(fD l p h d).2.2.2=0->StR (fD l p h d).1 (fD l p h d).2.1 (fD l p h d).2.2.1 (n+k*l.length)
 |[],_,p,h,d,n,S,_,_=>S
 |a::l,hl,p,h,d,n,S,y,he=>by
  rw[aJ,vP]at y ⊢;rw[fD]at he ⊢;by_cases j:(a p h).2.2.2=0
  .rw[ah j]at he ⊢;have:=agY l (λb hb=>hl b (bd _ hb)) _ _ _ _ (hl a bU p h d n S (by omega) j) (by omega) he
   rwa [show n+k+k*l.length=n+(k*l.length+k)by omega]at this
  .rw[ag j]at he;exact absurd he j
def Jx(n:Nat):Nat:=if n=0 then 0 else n.log2+1
theorem aeX{n}(h:0<n):2 ^ Jx n<=2*n/\n+1<=2 ^ Jx n:=by unfold Jx;rw[ag (by omega)];have y:=Nat.log2_self_le (n:=n) (by omega);have j:=Nat.lt_log2_self (n:=n);rw[Nat.pow_succ]at *;omega
def arB(s:ByteArray)(n:Nat):Bool:=match s[n]? with|some b=>b.toNat==Jx n|none=>false
theorem ajQ{β}{s}(hs:(List.range 256).all (arB s)=true){n:Nat}(y:n<256)(K:Int->Option β):aj.Lz s (n:Int) K=K (Jx n:Nat):=by
 have j:=mq.1 hs n (Bs.2 y);dsimp only;unfold ajR;rw[ap (by omega)];unfold arB at j;rw[aX];cases hb:s[n]? with
 |none=>rw[hb]at j;cases j
 |some b=>
  rw[hb]at j;have C:b.toNat=Jx n:=by simpa using j
  show K (b.toNat:Int)=_;rw[C]
theorem arC{x z n b}(H:2 ^ n*z<=x)(F:x<2 ^ n*(z+1))(C:2 ^ b<=2*z)(y:z+1<=2 ^ b)(G:n+b<=64):9223372036854775808<=x*2 ^ (64-(n+b))/\x*2 ^ (64-(n+b))<18446744073709551616:=by
 have e:2 ^ n*2 ^ b*2 ^ (64-(n+b))=18446744073709551616:=by rw[<-ug,<-ug,show n+b+(64-(n+b))=64 by omega]
 have p:=yS (64-(n+b));constructor
 .have j:2 ^ n*2 ^ b<=2*x:=cn (lN _ C) (by rw[Nat.mul_left_comm];omega);have a2:=dE (2 ^ (64-(n+b))) j;rw[e,Dd]at a2;omega
 .have j:=eW F (lN _ y);have a2:=Nat.mul_lt_mul_of_pos_right j p
  rwa [e]at a2
theorem ajS{x z n}(m)(y:2 ^ n*z<=x)(j:x<2 ^ n*(z+1)):2 ^ (n+m)*(z / 2 ^ m)<=x/\x<2 ^ (n+m)*(z / 2 ^ m+1):=by have p:=yS m;have C:2 ^ m*(z / 2 ^ m)<=z:=Nat.mul_div_le z _;have a2:=Nat.lt_mul_div_succ z p;rw[ug,Dd,Dd];exact⟨cn (lN _ C) y,eW j (lN _ a2)⟩
def Gh(x:Nat)(o:Option Int):Prop:=∃n z:Nat,o=some ((n+Jx z:Nat):Int)/\0<z/\z<256/\n<=56/\2 ^ n*z<=x/\x<2 ^ n*(z+1)
theorem ajT(z m:Nat)(hm:m<=64):Int.fdiv (z:Int) (2 ^ (min (Int.toNat (m:Int)) u64.bits))=((z / 2 ^ m:Nat):Int):=by rw[aX,show min m u64.bits=m from jU hm,eH _ (Int.pow_nonneg (by decide))];simp
theorem aoI{x:Nat}(Y:0<x)(hx:x<18446744073709551616):Gh x (QA (x:Int)):=by
 show Gh x (rC aj (x:Int));refine Yc (Q:=Gh x) λC H=>?_
 have W:∀z n:Nat,0<z->z<4294967296->n<=32->2 ^ n*z<=x->x<2 ^ n*(z+1)->Gh x (C ((z:Int),(n:Int),())):=by
  intro z n a b c d e;subst H;refine Yc (Q:=Gh x) λF J=>?_
  have V:∀z n:Nat,0<z->z<65536->n<=48->2 ^ n*z<=x->x<2 ^ n*(z+1)->Gh x (F ((z:Int),(n:Int),())):=by
   intro z n a b c d e;subst J;refine Yc (Q:=Gh x) λG K=>?_
   have R:∀z n:Nat,0<z->z<256->n<=56->2 ^ n*z<=x->x<2 ^ n*(z+1)->Gh x (G ((z:Int),(n:Int),())):=by
    intro z n a b c d e;subst K;refine⟨n,z,?_,a,b,c,d,e⟩;have eu:IntKind.u8.wrap (z:Int)=(z:Int):=IntWalk.u8_in _ (by omega);show aj.Lz _ (IntKind.u8.wrap (z:Int)) _=_;rw[eu,ajQ (by kernel_rfl) b]
    have hb:Jx z<=8:=by
     rcases dO 8 (Jx z)with h|h
     .have X:=yv (show 0<2 by omega) h;have h6:=cn X (aeX a).1;omega
     .exact h
    dsimp only;rw[bG ((Jx z:Nat):Int) (by omega),bG _ (by omega)];rfl
   show Gh x (aj.af (decide ((256:Int)<=(z:Int))) (aj.jb 8 (G (Int.fdiv (z:Int) (2 ^ (min (Int.toNat ((8:Nat):Int)) u64.bits)),i64.wrap ((n:Int)+8),()))) (G ((z:Int),(n:Int),())));by_cases h:256<=z
   .rw[aT (ap (by omega)),uz,ajT _ _ (by omega),bG _ (by omega)];obtain⟨y,j⟩:=ajS 8 d e;exact R (z / 2 ^ 8) (n+8) (by omega) (by omega) (by omega) y j
   .rw[az (an (by omega))];exact R z n a (by omega) (by omega) d e
  show Gh x (aj.af (decide ((65536:Int)<=(z:Int))) (aj.jb 16 (F (Int.fdiv (z:Int) (2 ^ (min (Int.toNat ((16:Nat):Int)) u64.bits)),i64.wrap ((n:Int)+16),()))) (F ((z:Int),(n:Int),())));by_cases h:65536<=z
  .rw[aT (ap (by omega)),uz,ajT _ _ (by omega),bG _ (by omega)];obtain⟨y,j⟩:=ajS 16 d e;exact V (z / 2 ^ 16) (n+16) (by omega) (by omega) (by omega) y j
  .rw[az (an (by omega))];exact V z n a (by omega) (by omega) d e
 show Gh x (aj.af (decide ((4294967296:Int)<=(x:Int))) (aj.jb 32 (C (Int.fdiv (x:Int) (2 ^ (min (Int.toNat ((32:Nat):Int)) u64.bits)),((32:Nat):Int),()))) (C ((x:Int),((0:Nat):Int),())));by_cases h:4294967296<=x
 .rw[aT (ap (by omega)),uz,ajT _ _ (by omega)];obtain⟨y,j⟩:=ajS (x:=x) (z:=x) (n:=0) 32 (by simp) (by simp);exact W (x / 2 ^ 32) 32 (by omega) (by omega) (by omega) (by simpa using y) (by simpa using j)
 .rw[az (an (by omega))];exact W x 0 Y (by omega) (by omega) (by simp) (by simp)
theorem asZ{x:Nat}(R:0<x)(J:x<18446744073709551616):∃s:Nat,CH (x:Int)=some (s:Int)/\s<=63/\9223372036854775808<=x*2 ^ s/\x*2 ^ s<18446744073709551616:=by
 have key:=aoI R J;have⟨n,z,e,H,G,V,F,C⟩:=key;have⟨j,y⟩:=aeX H
 have hb:Jx z<=8:=by
  rcases dO 8 (Jx z)with h|h
  .have:=yv (show 0<2 by omega) h;have:=cn this j;omega
  .exact h
 have K:0<Jx z:=by unfold Jx;rw[ag (by omega)];omega
 refine⟨64-(n+Jx z),?_,by omega,(arC F C j y (by omega)).1,(arC F C j y (by omega)).2⟩;show iJ aj (x:Int)=_;unfold iJ;rw[ai e,bG _ (by omega)];congr 1;omega
structure Dm(yn1 yn0 u v:Int):Prop where
 a:2147483648<=yn1
 b:yn1<4294967296
 c:0<=yn0
 d:yn0<4294967296
 e:0<=v
 f:v<4294967296
 g:0<=u
 h:u<yn1*4294967296+yn0
def digit(j y u v:Int):Int:=(u*4294967296+v) / (j*4294967296+y)
theorem Yd(q j y:Int):q*(j*4294967296+y)=q*j*4294967296+q*y:=by rw[nZ,s7]
theorem Dm.le{j y u v}(H:Dm j y u v){q:Int}(h:q*y<=(u-q*j)*4294967296+v):q<=digit j y u v:=by have:=H.a;have:=H.c;refine(Int.le_ediv_iff_mul_le (by omega)).2 ?_;rw[Yd];omega
theorem Dm.gt{j y u v}(H:Dm j y u v){q:Int}(h:(u-q*j)*4294967296+v<q*y):digit j y u v<q:=by have:=H.a;have:=H.c;refine i6 (by omega) ?_;rw[Yd];omega
theorem Dm.nn{j y u v}(H:Dm j y u v):0<=digit j y u v/\digit j y u v<4294967296:=by
 have R:=H.a;have K:=H.c;have J:=H.g;have G:=H.e;have F:=H.f;have C:=H.h;constructor
 .exact fR (by omega) (by omega)
 .refine i6 (by omega) ?_;rw[gE];omega
theorem Dm.first{j y u v}(H:Dm j y u v):digit j y u v<=u / j/\u / j<=4294967297:=by
 have V:=H.a;have C:=H.c;have R:=H.g;have K:=H.e;have J:=H.f;have G:=H.h;have F:=H.d;constructor
 .refine(Int.le_ediv_iff_mul_le (by omega)).2 ?_;have a:=FT (u*4294967296+v) (show j*4294967296+y≠0 by omega);have b:digit j y u v*(j*4294967296+y)<=u*4294967296+v:=a;rw[Yd]at b;have c:=jf H.nn.1 C;omega
 .have:u / j<4294967298:=by refine i6 (by omega) ?_;rw[gE];omega
  omega
theorem Dm.brk{j y u v}(H:Dm j y u v){q:Int}(K:q<=4294967297)(R:digit j y u v<q)(F:4294967296<=u-(q-1)*j):q-1=digit j y u v:=by
 have g1:=H.a;have G:=H.c;have g3:=H.g;have g4:=H.e;have Y:=H.f;have X:=H.h;have W:=H.d;have V:=H.b;have J:=H.nn.1
 have C:q-1<=4294967295:=by
  rcases zD (4294967295<q-1)with hh|hh
  .have e:q-1=4294967296:=by omega
   rw[e]at F;omega
  .omega
 have a1:(q-1)*y<=4294967295*4294967295:=vA C (by omega) G (by omega);have:=H.le (q:=q-1) (by omega);omega
theorem u64_in(z)(j:0<=z:=by omega)(h:z<18446744073709551616:=by omega):u64.wrap z=z:=R' z ⟨j,h⟩
theorem Dm.look{y j u v}(H:Dm y j u v){q r:Int}(K:digit y j u v<=q)(C:r=u-q*y)(J:0<=r)(G:r<4294967296):
 (4294967296<=q->digit y j u v<q)/\(q<4294967296->(if u64.wrap (u64.wrap (4294967296*r)+v)<u64.wrap (q*j)then digit y j u v<q else digit y j u v=q)):=by
 have W:=H.e;have V:=H.f;have F:=H.c;have R:=H.d;have n:=H.nn;refine⟨λh=>by omega,λh=>?_⟩;have a0:=jf (show 0<=q by omega) F;have X:q*j<=4294967295*4294967295:=vA (by omega) (by omega) F (by omega);rw[u64_in (4294967296*r),u64_in _,u64_in (q*j) a0];split
 .exact H.gt (by rw[<-C];omega)
 .have:=H.le (q:=q) (by rw[<-C];omega);omega
theorem Dm.avw{β}{j y u v q0 K}(H:Dm j y u v)(hq:q0=u / j)(X:K=u-q0*j)(k:Int×Unit->Option β):
 aj.aV (λz C=>aj.aG (λ_=>aj.af (decide (4294967296<=u64.wrap (z.1+j))) (k (u64.wrap (z.2.1-1),())) (C (u64.wrap (z.1+j),u64.wrap (z.2.1-1),()))) λW=>aj.af (decide (4294967296<=z.2.1)) (W ()) (aj.af (decide (u64.wrap (u64.wrap (4294967296*z.1)+v)<u64.wrap (z.2.1*y))) (W ()) (k z.2))) (K,q0,())=k (digit j y u v,()):=by
 have g1:=H.a;have g8:=H.b;have n:=H.nn;have⟨f1,f2⟩:=H.first;have e1:u % j=K:=by rw[X,hq,Fk,gE]
 have e2:=iw u (show j≠0 by omega);have e3:=gG u (show 0<j by omega);refine(iI (λz=>z.2.1.toNat) (λz=>digit j y u v<=z.2.1/\z.2.1<=4294967297/\z.1=u-z.2.1*j/\0<=z.1/\z.1<4294967296) (λ_=>k (digit j y u v,())) ⟨by show _<=q0;omega,by show q0<=_;omega,X,by omega,by omega⟩ (by dsimp only;omega) ?_);rintro⟨r,q,⟨⟩⟩ ⟨h1,h2,V,h4,Y⟩ C ha;dsimp only at h1 h2 V h4 Y;have⟨l1,G⟩:=H.look h1 V h4 Y
 have F:digit j y u v<q->aj.af (decide (4294967296<=u64.wrap (r+j))) (k (u64.wrap (q-1),())) (C (u64.wrap (r+j),u64.wrap (q-1),()))=k (digit j y u v,()):=by
  intro R;have er:u-(q-1)*j=r+j:=by rw[V,Int.sub_mul];omega
  rw[u64_in (r+j),u64_in (q-1)];refine de (λhb=>?_) λhb=>?_
  .rw[H.brk h2 R (by rw[er];exact hb)]
  .exact ha (r+j,q-1,()) ⟨by show _<=q-1;omega,by show q-1<=_;omega,er.symm,by show 0<=r+j;omega,by show r+j<_;omega⟩ (by show(q-1).toNat<q.toNat;omega)
 show aj.af (decide (4294967296<=q)) _ _=_;by_cases hb:4294967296<=q
 .rw[aT (ap hb)];exact F (l1 hb)
 .have G:=G (by omega);rw[az (an hb)];by_cases J:u64.wrap (u64.wrap (4294967296*r)+v)<u64.wrap (q*y)
  .rw[ah J]at G;show aj.af (decide (u64.wrap (u64.wrap (4294967296*r)+v)<u64.wrap (q*y))) _ _=_;rw[aT (ap J)];exact F G
  .rw[ag J]at G;show aj.af (decide (u64.wrap (u64.wrap (4294967296*r)+v)<u64.wrap (q*y))) _ _=_;rw[az (an J),G]
theorem Dm.avx{β}{j y u v q0 J}(H:Dm j y u v)(hq:q0=u / j)(X:J=u-q0*j)(k:Int×Unit->Option β):
 aj.aV (λz C=>aj.aG (λ_=>aj.af (decide (4294967296<=u64.wrap (z.2.1+j))) (k (u64.wrap (z.1-1),())) (C (u64.wrap (z.1-1),u64.wrap (z.2.1+j),()))) λW=>aj.af (decide (4294967296<=z.1)) (W ()) (aj.af (decide (u64.wrap (u64.wrap (4294967296*z.2.1)+v)<u64.wrap (z.1*y))) (W ()) (k (z.1,())))) (q0,J,())=k (digit j y u v,()):=by
 have g1:=H.a;have g8:=H.b;have n:=H.nn;have⟨f1,f2⟩:=H.first;have e1:u % j=J:=by rw[X,hq,Fk,gE]
 have e2:=iw u (show j≠0 by omega);have e3:=gG u (show 0<j by omega);refine(iI (λz=>z.1.toNat) (λz=>digit j y u v<=z.1/\z.1<=4294967297/\z.2.1=u-z.1*j/\0<=z.2.1/\z.2.1<4294967296) (λ_=>k (digit j y u v,())) ⟨by omega,by omega,X,by show 0<=J;omega,by show J<_;omega⟩ (by omega) ?_);rintro⟨q,r,⟨⟩⟩ ⟨h1,h2,V,h4,Y⟩ C ha;dsimp only at h1 h2 V h4 Y;have⟨l1,G⟩:=H.look h1 V h4 Y
 have F:digit j y u v<q->aj.af (decide (4294967296<=u64.wrap (r+j))) (k (u64.wrap (q-1),())) (C (u64.wrap (q-1),u64.wrap (r+j),()))=k (digit j y u v,()):=by
  intro R;have er:u-(q-1)*j=r+j:=by rw[V,Int.sub_mul];omega
  rw[u64_in (r+j),u64_in (q-1)];refine de (λhb=>?_) λhb=>?_
  .rw[H.brk h2 R (by rw[er];exact hb)]
  .exact ha (q-1,r+j,()) ⟨by omega,by omega,er.symm,by show 0<=r+j;omega,by show r+j<_;omega⟩ (by show(q-1).toNat<q.toNat;omega)
 show aj.af (decide (4294967296<=q)) _ _=_;by_cases hb:4294967296<=q
 .rw[aT (ap hb)];exact F (l1 hb)
 .have G:=G (by omega);rw[az (an hb)];by_cases K:u64.wrap (u64.wrap (4294967296*r)+v)<u64.wrap (q*y)
  .rw[ah K]at G;show aj.af (decide (u64.wrap (u64.wrap (4294967296*r)+v)<u64.wrap (q*y))) _ _=_;rw[aT (ap K)];exact F G
  .rw[ag K]at G;show aj.af (decide (u64.wrap (u64.wrap (4294967296*r)+v)<u64.wrap (q*y))) _ _=_;rw[az (an K),G]
theorem ata(a b s:Nat)(_:s<=64)(hb:b<2 ^ s)(h:a*2 ^ s+b<18446744073709551616):bits .or .u64 ((a*2 ^ s:Nat):Int) (b:Int)=((a*2 ^ s+b:Nat):Int):=by
 show u64.wrap (((BitVec.ofInt 64 ((a*2 ^ s:Nat):Int) ||| BitVec.ofInt 64 ((b:Nat):Int)).toNat:Nat):Int)=_;rw[BitVec.toNat_or,mP,mP];have j:((2 ^ 64:Nat):Int)=18446744073709551616:=by decide
 have C:(((a*2 ^ s:Nat):Int) % ((2 ^ 64:Nat):Int)).toNat=a*2 ^ s:=by rw[j];omega
 have y:(((b:Nat):Int) % ((2 ^ 64:Nat):Int)).toNat=b:=by rw[j];omega
 rw[C,y,kH a,<-Nat.two_pow_add_eq_or_of_lt hb,kH (2 ^ s),cg];omega
theorem ó{a b c}(y:0<=a+b-c)(j:a+b-c<18446744073709551616):u64.wrap (u64.wrap (u64.wrap a+b)-u64.wrap c)=a+b-c:=by rw[cg,cg,cg,cg];omega
theorem acA{j y u v1 v0}(H:Dm j y u v1)(W:0<=v0)(V:v0<4294967296){q1 w q0:Int}(e1:q1=digit j y u v1)(X:w=u*4294967296+v1-q1*(j*4294967296+y))(e0:q0=digit j y w v0):
 (0<=w/\w<j*4294967296+y)/\Dm j y w v0/\(0<=w*4294967296+v0-q0*(j*4294967296+y)/\w*4294967296+v0-q0*(j*4294967296+y)<j*4294967296+y)/\u*18446744073709551616+(v1*4294967296+v0)=(q1*4294967296+q0)*(j*4294967296+y)+(w*4294967296+v0-q0*(j*4294967296+y)):=by
 have a:=H.a;have c:=H.c;have p:0<j*4294967296+y:=by omega
 have w1:w=(u*4294967296+v1) % (j*4294967296+y):=by rw[X,e1,digit,Fk,gE ((u*4294967296+v1) / _)]
 have F:=iw (u*4294967296+v1) (show j*4294967296+y≠0 by omega);have C:=gG (u*4294967296+v1) p;rw[<-w1]at F C;have H0:Dm j y w v0:=⟨H.a,H.b,H.c,H.d,W,V,F,C⟩;have K:w*4294967296+v0-q0*(j*4294967296+y)=(w*4294967296+v0) % (j*4294967296+y):=by rw[e0,digit,Fk,gE ((w*4294967296+v0) / _)]
 have J:=iw (w*4294967296+v0) (show j*4294967296+y≠0 by omega);have G:=gG (w*4294967296+v0) p;rw[<-K]at J G;refine⟨⟨F,C⟩,H0,⟨J,G⟩,?_⟩;generalize j*4294967296+y=Y at *;have R:(q1*4294967296+q0)*Y=q1*Y*4294967296+q0*Y:=by rw[n2,Int.mul_right_comm]
 rw[R];omega
theorem ajU{hi lo y:Nat}(h0:0<hi)(h1:hi<y)(hy:y<18446744073709551616)(hl:lo<18446744073709551616):
    p7 (hi:Int) (lo:Int) (y:Int)=some ((((hi*18446744073709551616+lo) / y:Nat):Int),((((hi*18446744073709551616+lo) % y:Nat):Int),())):=by
  have⟨s,es,hs,b1,b2⟩:=asZ (x:=y) (by omega) hy
  show j7 aj (hi:Int) (lo:Int) (y:Int)=_
  unfold j7
  have pP:=yS s
  have pP':=yS (64-s)
  have ePP:2 ^ (64-s)*2 ^ s=18446744073709551616:=by rw[<-ug,show 64-s+s=64 by omega]
  have hhi:hi*2 ^ s+2 ^ s<=y*2 ^ s:=by
    have:=dE (2 ^ s) (show hi+1<=y from h1)
    rwa [iY,Cp]at this
  have hlq:lo / 2 ^ (64-s)<2 ^ s:=by rw[mV pP',kH,ePP];exact hl
  have hlm:lo*2 ^ s=lo / 2 ^ (64-s)*18446744073709551616+lo*2 ^ s % 18446744073709551616:=by
    have e:lo*2 ^ s / 18446744073709551616=lo / 2 ^ (64-s):=by rw[<-ePP,Nat.mul_div_mul_right _ _ pP]
    have:=yT (lo*2 ^ s) 18446744073709551616
    rw[e]at this;omega
  have eS:u64.wrap (s:Int)=(s:Int):=u64_in _
  have eS':u64.wrap (64-(s:Int))=((64-s:Nat):Int):=by rw[u64_in _];omega
  have eP:∀m:Nat,m<=64->(2:Int) ^ (min (Int.toNat (m:Int)) u64.bits)=((2 ^ m:Nat):Int):=λm hm=>by
    rw[aX,show min m u64.bits=m from jU hm];simp
  have ey:u64.wrap ((y:Int)*((2 ^ s:Nat):Int))=((y*2 ^ s:Nat):Int):=by rw[<-nr,u64_in _]
  have eh:u64.wrap ((hi:Int)*((2 ^ s:Nat):Int))=((hi*2 ^ s:Nat):Int):=by rw[<-nr,u64_in _]
  have el:u64.wrap ((lo:Int)*((2 ^ s:Nat):Int))=((lo*2 ^ s % 18446744073709551616:Nat):Int):=by rw[<-nr,cg];omega
  have ef:Int.fdiv (lo:Int) ((2 ^ (64-s):Nat):Int)=((lo / 2 ^ (64-s):Nat):Int):=by rw[eH _ (by omega)];simp
  rw[az (by simp;omega),cV (by omega),az (by simp;omega),ai es]
  simp (config:={proj:=false}) only[eS,eS',eP s (by omega),eP (64-s) (by omega),ey,eh,el,ef,ata hi _ s (by omega) hlq (by omega)]
  rw[Jy ((y*2 ^ s:Nat):Int) (by omega),Jy ((lo*2 ^ s % 18446744073709551616:Nat):Int) (by omega),ô ((y*2 ^ s:Nat):Int) (by omega),ô ((lo*2 ^ s % 18446744073709551616:Nat):Int) (by omega)]
  have hN:((hi*18446744073709551616+lo)*2 ^ s:Nat)=(hi*2 ^ s+lo / 2 ^ (64-s))*18446744073709551616+lo*2 ^ s % 18446744073709551616:=by
    rw[iY,Nat.mul_right_comm,hlm,iY];omega
  obtain⟨N,hNe⟩:∃N,N=hi*18446744073709551616+lo:=⟨_,rfl⟩
  rw[<-hNe]at hN ⊢
  have hu:hi*2 ^ s+lo / 2 ^ (64-s)<y*2 ^ s:=by omega
  have hl2:lo*2 ^ s % 18446744073709551616<18446744073709551616:=Bu _ (by omega)
  generalize hi*2 ^ s+lo / 2 ^ (64-s)=u at*
  generalize lo*2 ^ s % 18446744073709551616=l at*
  have fin:∀qt r:Int,((u:Nat):Int)*18446744073709551616+(l:Int)=qt*((y*2 ^ s:Nat):Int)+r->0<=r->r<((y*2 ^ s:Nat):Int)->0<=qt->qt=((N / y:Nat):Int)/\Int.fdiv r ((2 ^ s:Nat):Int)=((N % y:Nat):Int):=by
    intro qt r e J r1 q0
    obtain⟨F,rfl⟩:=cR q0
    obtain⟨H,rfl⟩:=cR J
    have e2:N*2 ^ s=F*(y*2 ^ s)+H:=by
      rw[hN];rw[<-nr]at e;omega
    have r2:H<y*2 ^ s:=by omega
    have d1:N*2 ^ s / (y*2 ^ s)=N / y:=Nat.mul_div_mul_right _ _ pP
    have d2:N*2 ^ s % (y*2 ^ s)=N % y*2 ^ s:=Nat.mul_mod_mul_right _ _ _
    have d3:(F*(y*2 ^ s)+H) / (y*2 ^ s)=F:=by
      rw[kH F,Nat.mul_add_div (by omega),Nat.div_eq_of_lt r2];rfl
    have d4:(F*(y*2 ^ s)+H) % (y*2 ^ s)=H:=by
      rw[kH F,Nat.mul_add_mod,kr r2]
    rw[e2,d3]at d1
    rw[e2,d4]at d2
    refine⟨by rw[d1],?_⟩
    rw[d2,eH _ (by omega),<-Int.natCast_ediv,Nat.mul_div_cancel _ pP]
  generalize hY:((y*2 ^ s:Nat):Int)=Y at*
  have Y1:9223372036854775808<=Y:=by omega
  have Y2:Y<18446744073709551616:=by omega
  have V:((u:Nat):Int)<Y:=by omega
  have R:(0:Int)<=((u:Nat):Int):=by omega
  have hl0:(0:Int)<=((l:Nat):Int):=by omega
  have hl3:((l:Nat):Int)<18446744073709551616:=by omega
  generalize ((u:Nat):Int)=G at*
  generalize ((l:Nat):Int)=K at*
  have X:Y / 4294967296*4294967296+Y % 4294967296=Y:=by omega
  have H1:Dm (Y / 4294967296) (Y % 4294967296) G (K / 4294967296):=⟨by omega,by omega,by omega,by omega,by omega,by omega,by omega,by omega⟩
  have j:∀w:Int,0<=w->w<Y->u64.wrap (Int.tdiv w (Y / 4294967296))=w / (Y / 4294967296)/\u64.wrap (w-u64.wrap (u64.wrap (Int.tdiv w (Y / 4294967296))*(Y / 4294967296)))=w-u64.wrap (Int.tdiv w (Y / 4294967296))*(Y / 4294967296):=by
    intro w C w1
    have g1:=fR C (show 0<=Y / 4294967296 by omega)
    have g2:w / (Y / 4294967296)<=w:=xj _ C
    have e:u64.wrap (Int.tdiv w (Y / 4294967296))=w / (Y / 4294967296):=by rw[rr C,u64_in _ g1]
    refine⟨e,?_⟩
    rw[e]
    have g3:=FT w (show Y / 4294967296≠0 by omega)
    have g4:=jf g1 (show 0<=Y / 4294967296 by omega)
    rw[u64_in (w / (Y / 4294967296)*(Y / 4294967296)) g4,u64_in _]
  rw[uz,uz,uz,uz,uz,uz,Ye]
  refine bz λk9 hk9=>?_
  refine(H1.avx (j G R V).1 (j G R V).2 k9).trans ?_
  subst hk9
  have pf:∀(a:Int) (b:Unit),((a,b):Int×Unit).1=a:=λ_ _=>rfl
  simp (config:={proj:=false}) only[pf]
  generalize W:digit (Y / 4294967296) (Y % 4294967296) G (K / 4294967296)=q1
  have n1:=H1.nn
  rw[W]at n1
  have⟨⟨C,w1⟩,H0,⟨J,r1⟩,tot⟩:=acA H1 (v0:=K % 4294967296) (by omega) (by omega) W.symm rfl rfl
  rw[X]at C w1 J r1 tot
  have e21:=ó C (by omega)
  rw[X]at H0
  simp (config:={proj:=false}) only[e21]
  generalize G*4294967296+K / 4294967296-q1*Y=w at*
  rw[Ye]
  refine bz λk4 hk4=>?_
  refine(H0.avw (j w C w1).1 (j w C w1).2 k4).trans ?_
  subst hk4
  simp (config:={proj:=false}) only[pf]
  generalize hq0:digit (Y / 4294967296) (Y % 4294967296) w (K % 4294967296)=q0 at*
  have n0:=H0.nn
  rw[hq0]at n0
  rw[uz,u64_in (q1*4294967296),u64_in (q1*4294967296+q0),ó J (by omega)]
  have⟨f1,f2⟩:=fin (q1*4294967296+q0) _ (by rw[<-tot];omega) J r1 (by omega)
  rw[f1,f2]
theorem ajV{m d}(hm:0<=m)(G:0<d)(C:d<18446744073709551616)(R:m / d<18446744073709551616):
 p7 (m / 18446744073709551616) (m % 18446744073709551616) d=some (m / d,m % d,()):=by
 obtain⟨j,rfl⟩:=cR hm;obtain⟨F,rfl⟩:=cR (show 0<=d by omega);have V:j<F*18446744073709551616:=by have:=(mV (x:=j) (y:=18446744073709551616) (show 0<F by omega)).1 (by omega);omega
 by_cases H:(j:Int) / 18446744073709551616=0
 .rw[H,show(j:Int) % 18446744073709551616=(j:Int)by omega];exact aeY (by omega) (by omega) G C
 .have:=ajU (hi:=j / 18446744073709551616) (lo:=j % 18446744073709551616) (y:=F) (by omega) (by omega) (by omega) (by omega);rw[show j / 18446744073709551616*18446744073709551616+j % 18446744073709551616=j by omega]at this;have K:((j:Nat):Int) / 18446744073709551616=((j / 18446744073709551616:Nat):Int):=by omega
  have J:((j:Nat):Int) % 18446744073709551616=((j % 18446744073709551616:Nat):Int):=by omega
  rw[K,J,this,Int.natCast_ediv,Int.natCast_emod]
theorem Yf{m d}(hm:0<=m)(K:ec m)(H:0<d)(V:cz d)(hq:m / d<9223372036854775808):õ (wide m) d=some (wide (m / d),m % d,0,()):=by
 show rD aj (wide m) d=_;unfold rD;unfold cz at V;have h1:=iw m (n3 H);have h2:=gG m H;have F:=fR hm (gg H);have e0:u64.wrap d=d:=R' _ (by omega);have X:Ac (wide m)=some (CI m):=by have:=Jz (wide m) (mT m K);rw[tb]at this;rw[this];unfold kz;rw[ag (by omega)]
 have J:m / 18446744073709551616<d:=by
  have h3:m<18446744073709551616*d:=by have:=Int.lt_mul_of_ediv_lt H hq;omega
  exact i6 (by omega) (by rw[gE];exact h3)
 have j:0<=m / 18446744073709551616:=fR hm (by omega)
 have y:p8 (wide m)=some false:=by
  rw[xq];have:¬(wide m).1<0:=by unfold wide;omega
  rw[an this]
 have G:jk (0,m / d,()) false=some (wide (m / d),true,()):=by
  have hr:=Gi (m / d) false ⟨F,by omega⟩;have hi:ec (m / d):=by unfold ec;omega
  have es:CI (m / d)=(0,m / d,()):=by unfold CI;rw[jI F (by omega),n5 F (by omega)]
  rw[es]at hr;rw[hr];show some (ö (m / d),decide (ec (m / d)),())=_;rw[LA _ hi,ap hi]
 rw[az (by simp;omega),cV (by omega),e0,ai X,Ye (by omega),Ye (by omega)];show aj.ae (p7 (Int.tmod (m / 18446744073709551616) d) (m % 18446744073709551616) d) _=_;rw[ru j,n5 j J,ai (ajV hm H (by omega) (by omega))];have W:u64.wrap (Int.tdiv (m / 18446744073709551616) d)=0:=by rw[rr j,jI j J];rfl
 refine bz λk hk=>?_
 have kk:k (m % d,u64.wrap (Int.tdiv (m / 18446744073709551616) d),m / d,())=some (wide (m / d),m % d,0,()):=by
  subst hk;rw[W];have Y:i64.wrap (m % d)=m % d:=bG _ (by omega);have C:aj.ae (p8 (wide m)) (λv7=>aj.ae (jk (0,m / d,()) v7) λv8=>some (v8.1,i64.wrap (m % d),(0:Int),()))=some (wide (m / d),m % d,0,()):=by rw[ai y,ai G,Y]
  refine jX ?_ C;rw[ai y];exact jX (by rw[ai G,Y]) (by rw[ai G,Y])
 refine bz λk2 R=>?_
 have kf:k2 (false,())=some (wide (m / d),m % d,0,()):=by subst R;refine zG rfl ?_;exact kk
 refine vY y ?_;rw[az rfl,kf]
theorem aoJ{t w s}(G:0<=t)(F:0<=w)(K:t<=s)(j:w<=s)(hs:0<s)(H:cz s):H2 t w s=some (t*w / s,t*w % s,0,()):=by
 show qX aj t w s=_;unfold qX;have y:=H;unfold cz at y;have J:=jf G F;have a2:t*w<=9223372036854775807*9223372036854775807:=vA (by omega) (by omega) F (by omega);have Y:t*w / s<=t:=by have:t*w / s<t+1:=i6 hs (by have:=eI j G;rw[n2];omega);omega
 have R:=fR J (gg hs);have X:=Et (a:=t) (b:=w) (by unfold cz;omega) (by unfold cz;omega);have W:=Yf (m:=t*w) (d:=s) J (by unfold ec;omega) hs H (by omega);rw[ai X,ai W];have C:cz (t*w / s):=by unfold cz;omega
 have V:JA (wide (t*w / s)) 0=some (t*w / s,0,()):=by rw[Dn (uA C),jy C]
 rw[ai V,az (by rfl)]
theorem ar1{T}{l}(G:0<=T)(h:∀w∈l,0<=w)(hl:l.length<=1000000):∃v,Xu T l=some v/\0<=v:=by
 refine oY (λo=>∃v,o=some v/\(0:Int)<=v) (λz=>l.length+1-z.2.1.toNat) (λz=>∃(j:Nat) (a:Int),j<=l.length/\0<=a/\z=(a,(j:Int),())) ⟨0,T,br _,G,rfl⟩ (by omega) ?_;rintro _ ⟨j,a,H,y,rfl⟩ C F;by_cases hh:j<l.length
 .rw[dx hh];show ∃v,aj.aH l (j:Int) _=some v/\0<=v;rw[bO hh];rw[cP j];refine F _ ⟨j+1,_,by omega,?_,rfl⟩ (by dsimp only;omega);have:=h _ (aE hh);split<;>omega
 .have:j=l.length:=by omega
  subst this;rw[dV];exact⟨a,rfl,y⟩
theorem ahc{T}{l}(j:0<=T)(h:∀w∈l,0<=w)(hl:l.length<=1000000):abN T l=some true:=by have⟨v,e,hv⟩:=ar1 j h hl;show rR aj T l=_;unfold rR;rw[ai e,ap hv]
theorem UR{Q:List CM}{k:Nat}(h:k<Q.length):(partsOf (Q.take (k+1)))=partsOf (Q.take k)++[(Q[k]).2.1]:=by unfold partsOf;rw[ax h,cw];rfl
theorem US{Q}(h:∀q∈Q,0<=q.2.1)(k):0<=(partsOf (Q.take k)).sum/\(partsOf (Q.take k)).sum<=(partsOf Q).sum:=by
 have e:(partsOf Q).sum=(partsOf (Q.take k)).sum+(partsOf (Q.drop k)).sum:=by rw[<-lr];unfold partsOf;rw[<-cw,mX]
 have nn:∀L:List CM,(∀q∈L,0<=q.2.1)->0<=(partsOf L).sum:=λL hL=>by refine(Hr (l:=partsOf L) λw y=>?_).1;obtain⟨q,j,rfl⟩:=aK.1 y;exact hL q j
 have F:=nn (Q.take k) λq j=>h q (eJ j)
 have C:=nn (Q.drop k) λq j=>h q (kP j)
 omega
theorem ao2{T:Int}{l:List Int}(h:OkW T l)(X:T≠0):Z4 T l.sum l=some (jm T l.sum l 0,(partsOf (jm T l.sum l 0)).sum,()):=by
 have K:=h.quo X;have hl:=h.len;have F:=h.s64;have t0:=h.t0;have ts:=h.ts;have hS:0<l.sum:=by omega
 show s5 aj T l.sum l=_;unfold s5;rw[uz,da (by simp;omega) (by simp;omega)];have H:∀(i:Nat) (hi:i<l.length),H2 T l[i] l.sum=some (T*l[i] / l.sum,T*l[i] % l.sum,0,()):=λi hi=>aoJ t0 (h.nn _ (aE hi)) ts ((Hr h.nn).2 _ (aE hi)) hS F
 have V:∀(i:Nat) (hi:i<l.length),∃y:i<(jm T l.sum l 0).length,(jm T l.sum l 0)[i]=((i:Int),T*l[i] / l.sum,T*l[i] % l.sum,()):=λi hi=>⟨by rw[zj];exact hi,by have:=LR T l.sum l 0 i hi;rwa [r']at this⟩
 generalize hQ:jm T l.sum l 0=Q at *;have hm:=US (Q:=Q) λq R=>(K.q q R).2.2.1
 have C:=K.len;have J:=K.re;unfold cz at F;refine uD (N:=l.length) (by omega) (λi=>((partsOf (Q.take i)).sum,(i:Int),Q.take i,())) _ (by simp[partsOf]) ?_ ?_
 .intro j;refine F8 ?_;rw[<-C,bs]
 .intro i hi j W;have⟨y,G⟩:=V i hi;refine HX hi ?_;rw[bO hi];refine vY (H i hi) ?_;show aj.bc ((Q.take i).length+1) 24 (j (i64.wrap ((partsOf (Q.take i)).sum+T*l[i] / l.sum),i64.wrap ((i:Int)+1),Q.take i++[((i:Int),T*l[i] / l.sum,T*l[i] % l.sum,())],()))=_;have e1:Q.take i++[((i:Int),T*l[i] / l.sum,T*l[i] % l.sum,())]=Q.take (i+1):=by rw[ax y,G]
  have Y:(partsOf (Q.take i)).sum+T*l[i] / l.sum=(partsOf (Q.take (i+1))).sum:=by rw[UR y,lr,G];simp
  have b:=hm (i+1);rw[da (by rw[bf];omega) (by rw[bf];omega),e1,Y,cP i,bG _ (by omega)];exact W
theorem XT(q):∀(qs:List CM) (o:List Int),bump (qs++[q]) o=(bump qs o).set q.1.toNat ((bump qs o).getD q.1.toNat 0+1)
 |[],o=>rfl
 |x::qs,o=>by rw[kw,bump,XT q qs];rfl
theorem XU{j}:∀(qs:List CM) (o:List Int),(∀q∈qs,q.1.toNat≠j)->(bump qs o).getD j 0=o.getD j 0
 |[],_,_=>rfl
 |q::qs,o,h=>by rw[bump,XU qs _ λx y=>h x (bd _ y),getD_set_ne (h q bU)]
theorem Z5{Q}(h:Q.Pairwise λa b=>a.1<b.1)(hl:Q.length<4611686018427387904):tO Q=some (tA Q):=by unfold tO;have j:Nat.blt Q.length 4611686018427387904=true:=gU hl;rw[j,(Td Q).2 h];rfl
theorem ao3{o:List Int}{k:Nat}(h:k<o.length):o.getD k 0=o[k]:=by rw[bV,aw h];rfl
theorem ar2{S:List CM}(h:S.Pairwise λa b=>a.1≠b.1){k:Nat}(y:k<S.length):∀q∈S.take k,q.1≠(S[k]).1:=by intro q j;obtain⟨i,hi,rfl⟩:=gS j;rw[bf]at hi;rw[lc];exact bN.1 h i k (by omega) y (by omega)
theorem ar3{T:Int}{l:List Int}(h:OkW T l):abO T l=some (CN T l,0,()):=by
 have hl:=h.len;have h64:=h.s64;have t0:=h.t0;have ts:=h.ts;show vl aj T l=_;unfold vl;rw[ai (ahc t0 h.nn (by omega)),az (by rfl),ai (tv h.w64 (by omega)),jy h64,uz,da (by simp;omega) (by simp;omega),Jd (by omega) (by simp),az (by rfl),aX];unfold CN;by_cases hT:T=0
 .rw[aT (by simp[hT]),ah hT]
 .rw[az (by simp[hT]),ag hT];have hS:0<l.sum:=by omega
  refine zG (by simp;omega) ?_;rw[ai (ao2 h hT)];have K:=h.quo hT;have hat:=acJ T l.sum l;have R:=Rq T l.sum l 0;have ay4:=Yu R;have F:=rG (jm T l.sum l 0);have J:∀q,q∈tA (jm T l.sum l 0)->q∈jm T l.sum l 0:=λq Y=>F.mem_iff.1 Y
  generalize jm T l.sum l 0=Q at *;generalize XS T l=r at *;have y:=K.len;have hre:=K.re;have hm:=US (Q:=Q) λq Y=>(K.q q Y).2.2.1
  have hm0:=hm Q.length;rw[bs]at hm0;unfold cz at h64;refine uD (N:=l.length) (by omega) (λi=>((i:Int),partsOf (Q.take i)++List.replicate (l.length-i) 0,Q,())) _ (by simp[partsOf]) ?_ ?_
  .intro j;show aj.af (decide ((l.length:Int)<(Q.length:Int))) _ (aj.ae (tO Q) λv11=>aj.j5 (i64.wrap (T-(partsOf Q).sum)) v11.length _)=_;rw[y,dV,ai (Z5 R (by omega)),bG _ (by omega),<-hre];have V:(tA Q).length=l.length:=by rw[F.length_eq,y]
   rw[Jd (by omega) (by rw[V];have:=K.rl;omega),aX];have hLl:((tA Q).take r).length=r:=by rw[bf,V];have:=K.rl;omega
   have hO:partsOf (Q.take l.length)++List.replicate (l.length-l.length) 0=partsOf Q:=by rw[<-y,bs];simp
   refine uD (N:=r) (by have:=K.rl;omega) (λk=>((k:Int),bump ((tA Q).take k) (partsOf Q),())) _ (by simp only[hO];rfl) ?_ ?_
   .intro j;show aj.af (decide ((r:Int)<(((tA Q).take r).length:Int))) _ (some (bump ((tA Q).take r) (partsOf Q),0,()))=_;rw[hLl,dV]
   .intro k hk j ha;have X:k<((tA Q).take r).length:=by omega
    have W:k<(tA Q).length:=by rw[V];have:=K.rl;omega
    have eg:((tA Q).take r)[k]=(tA Q)[k]:=lc;have hqQ:=J _ (aE W);have kq:=K.q _ hqQ;have atg:=K.pos ((tA Q)[k]) (by rw[<-eg];exact aE X);have hpa:=Sr (n:=0) hat hqQ;have hne:∀q∈(tA Q).take k,q.1.toNat≠((tA Q)[k]).1.toNat:=λq Y=>by have h1:=ar2 ay4 W q Y;have h2:=(K.q q (J q (eJ Y))).1;omega
    have H:=XU ((tA Q).take k) (partsOf Q) hne;have hsn:=XT ((tA Q)[k]) ((tA Q).take k) (partsOf Q);rw[<-ax W,H,hpa.1]at hsn;have R2:(bump ((tA Q).take k) (partsOf Q)).length=l.length:=by rw[UQ];unfold partsOf;rw[aW,y]
    rw[hpa.1]at H;refine HX X ?_;rw[bO X,eg];generalize (tA Q)[k]=q at *;have eq1:q.1=((q.1.toNat:Nat):Int):=by omega
    have C:q.1.toNat<(bump ((tA Q).take k) (partsOf Q)).length:=by omega
    rw[ao3 C]at H;generalize bump ((tA Q).take k) (partsOf Q)=o at *;show aj.aH o q.1 (λx16=>aj.cr o (Int.toNat q.1) λx17=>aj.aH o q.1 λx18=>aj.cr o (Int.toNat q.1) λx19=>j (i64.wrap ((k:Int)+1),List.set o (Int.toNat q.1) (i64.wrap (x17+1)),()))=_;rw[eq1,bO C,ij C,bO C,ij C,aX,H,bG (q.2.1+1) (by have:=kq.2.2.2.2.2.2 atg;omega),cP k (by have:=K.rl;omega),<-hsn];exact ha
  .intro i hi j ha;have G:i<Q.length:=by omega
   refine HX G ?_;rw[bO G,ij G];have eat:=hat i G;have hpl:(partsOf (Q.take i)).length=i:=by unfold partsOf;rw[aW,bf];omega
   have eo:(partsOf (Q.take i)++List.replicate (l.length-i) 0).set i (Q[i]).2.1=partsOf (Q.take (i+1))++List.replicate (l.length-(i+1)) 0:=by rw[List.set_append,ag (by omega),hpl,zE,show l.length-i=(l.length-(i+1))+1 by omega,oV,List.set_cons_zero,UR G,bn];rfl
   have hol:i<(partsOf (Q.take i)++List.replicate (l.length-i) 0).length:=by rw[aq,wq];omega
   generalize Q[i]=q at *;generalize partsOf (Q.take i)++List.replicate (l.length-i) 0=o at *;show aj.aH o q.1 (λx9=>aj.cr o (Int.toNat q.1) λx10=>j (i64.wrap ((i:Int)+1),List.set o (Int.toNat q.1) q.2.1,Q,()))=_;rw[eat,bO hol,ij hol,aX,cP i,eo];exact ha
theorem aoz{T}{l}(h:OkW T l):aez T l=some (CN T l,0,()):=by have hl:=h.len;have ts:=h.ts;show ud aj T l=_;unfold ud;rw[ai (ahc h.t0 h.nn (by omega)),az (by rfl),ai (tv h.w64 (by omega)),jy h.s64,az (by rfl),cV (by omega)];exact vY (ar3 h) rfl
abbrev NE:=Int×Int×Unit
def gV(f:ar->NE):List ar->List Int->List Int×NE
 |[],acc=>(acc,cW acc.sum)
 |u::l,acc=>if(f u).2.1=0 then gV f l (acc++[(f u).1])else([],0,(f u).2)
def l5(as:List fI)(p:List aZ)(h:List bp)(u:ar):NE:=((if dr p u<0 then 0 else(uC as p h u).1),(uC as p h u).2.1,())
theorem LU{f}:∀{l:List ar} {acc:List Int},(gV f l acc).2.2.1=0->(gV f l acc).1=acc++l.map (λu=>(f u).1)/\(gV f l acc).2.1=(acc++l.map λu=>(f u).1).sum/\cz (acc++l.map λu=>(f u).1).sum/\∀u∈l,(f u).2.1=0
 |[],acc,h=>by
  have e:gV f [] acc=(acc,cW acc.sum):=rfl;rw[e]at h ⊢;unfold cW at h ⊢;by_cases y:cz acc.sum
  .rw[ah y];simp[y]
  .rw[ag y]at h;simp at h
 |u::l,acc,h=>by
  rw[gV]at h ⊢;by_cases j:(f u).2.1=0
  .rw[ah j]at h ⊢;have⟨G,F,C,H⟩:=LU h;rw[bn]at G F C;refine⟨G,F,C,λv hv=>?_⟩;rcases aB.1 hv with rfl|hv
   .exact j
   .exact H v hv
  .rw[ag j]at h;exact absurd h j
theorem avp{s}{p}{h}{u}(F:∀a∈gN s,ly a)(j:(gN s).length<=1000)(hh:lk h)(C:ta p)(hl:p.length<=1000000):
 ajh (fV s p h) u=some (l5 (gN s) p h u):=by
 show Bf aj (fV s p h) u=_;unfold Bf;have G:=aka (s:=fV s p h) (u:=u) F j hh C hl;rw[ai G,wA];show aj.ae (nl p u) _=_;rw[ai (Gl hl)];unfold l5;refine de (λy=>?_) λy=>?_
 .rw[ah y];rfl
 .rw[ag y];rfl
theorem arz{s}{p}{h}{l}(K:ta p)(hl:p.length<=1000000)(R:l.length<=1000):
 I5 (fV s p h) l=some (gV (fb p) l [],()):=by
 show nS aj (fV s p h) l=_;refine gQ (l:=l) (by omega) (s0:=(([]:List Int),())) (λi z=>z.1.length=i/\∀x∈z.1,cz x) (λl' z=>some (gV (fb p) l' z.1,())) ⟨rfl,by simp⟩ ?_ ?_
 .rintro⟨acc,⟨⟩⟩ j ⟨G,C⟩;refine F8 ?_;rw[ai (tv C (by omega))];rfl
 .rintro i hi ⟨acc,⟨⟩⟩ ⟨G,C⟩ j H;dsimp only at G C;refine HX hi ?_;rw[bO hi,gV];refine vY (Yj (s:=fV s p h) (u:=l[i]) K hl) ?_;have J:=(BP K l[i]).1;show aj.af ((fb p l[i]).2.1 != 0) (some (([],0,(fb p l[i]).2),())) (aj.bc (acc.length+1) 8 (j (i64.wrap ((i:Int)+1),acc++[(fb p l[i]).1],())))=_;generalize fb p l[i]=r at *;by_cases F:r.2.1=0
  .rw[az (by simp[F]),ah F,da,cP i];refine H (acc++[r.1],()) ⟨by simp[G],λx y=>?_⟩;rcases aQ.1 y with y|y
   .exact C x y
   .simp only[ay]at y;subst y;exact J
  .rw[fT F,ag F]
theorem agZ(as)(p)(h)(u):cz (l5 as p h u).1/\0<=(l5 as p h u).1:=by
 unfold l5;split
 .exact⟨by unfold cz;omega,jT _⟩
 .exact afe as p h u
theorem ar0{s}{p}{h}{l}(V:∀a∈gN s,ly a)(H:(gN s).length<=1000)(hh:lk h)(R:ta p)(hl:p.length<=1000000)(W:l.length<=1000):
 I6 (fV s p h) l=some (gV (l5 (gN s) p h) l [],()):=by
 show nT aj (fV s p h) l=_;refine gQ (l:=l) (by omega) (s0:=(([]:List Int),())) (λi z=>z.1.length=i/\∀x∈z.1,cz x) (λl' z=>some (gV (l5 (gN s) p h) l' z.1,())) ⟨rfl,by simp⟩ ?_ ?_
 .rintro⟨acc,⟨⟩⟩ j ⟨G,C⟩;refine F8 ?_;rw[ai (tv C (by omega))];rfl
 .rintro i hi ⟨acc,⟨⟩⟩ ⟨G,C⟩ j J;dsimp only at G C;refine HX hi ?_;rw[bO hi,gV];refine vY (avp V H hh R hl) ?_;have K:=(agZ (gN s) p h l[i]).1;show aj.af ((l5 (gN s) p h l[i]).2.1 != 0) (some (([],0,(l5 (gN s) p h l[i]).2),())) (aj.bc (acc.length+1) 8 (j (i64.wrap ((i:Int)+1),acc++[(l5 (gN s) p h l[i]).1],())))=_;generalize l5 (gN s) p h l[i]=r at *;by_cases F:r.2.1=0
  .rw[az (by simp[F]),ah F,da,cP i];refine J (acc++[r.1],()) ⟨by simp[G],λx y=>?_⟩;rcases aQ.1 y with y|y
   .exact C x y
   .simp only[ay]at y;subst y;exact K
  .rw[fT F,ag F]
def Yx(as:List fI)(p:List aZ)(h:List bp)(l:List ar):Int:=min (gV (fb p) l []).2.1 (gV (l5 as p h) l []).2.1
def Fv(as:List fI)(p:List aZ)(h:List bp)(l:List ar):List Int:=CN (Yx as p h l) (gV (l5 as p h) l []).1
def Fw(as:List fI)(p:List aZ)(h:List bp)(l:List ar):List Int:=CN (Yx as p h l) (gV (fb p) l []).1
def pE(as:List fI)(l:List ar)(p:List aZ)(h:List bp):NT:=if(gV (fb p) l []).2.2.1=0 then if(gV (l5 as p h) l []).2.2.1=0 then fD ((kx (l.zip (Fv as p h l)) (l.zip (Fw as p h l))).map (o4 as)) p h []else([],[],[],(gV (l5 as p h) l []).2.2.1)else([],[],[],(gV (fb p) l []).2.2.1)
theorem j_{as}{p}{h}{l}(K:ta p)(F:l.length<=1000)(V:(gV (fb p) l []).2.2.1=0)(R:(gV (l5 as p h) l []).2.2.1=0):
 OkW (Yx as p h l) (gV (l5 as p h) l []).1/\OkW (Yx as p h l) (gV (fb p) l []).1/\(gV (l5 as p h) l []).1.length=l.length/\(gV (fb p) l []).1.length=l.length:=by
 have⟨J,a2,a3,_⟩:=LU V;have⟨b1,H,G,_⟩:=LU R;rw[cS]at J a2 a3 b1 H G;have C:∀w∈l.map (λu=>(fb p u).1),0<=w:=λw j=>by obtain⟨u,_,rfl⟩:=aK.1 j;exact(BP K u).2
 have y:∀w∈l.map (λu=>(l5 as p h u).1),0<=w:=λw j=>by obtain⟨u,_,rfl⟩:=aK.1 j;exact(agZ as p h u).2
 have X:=(Hr C).1;have W:=(Hr y).1;unfold Yx;rw[J,a2,b1,H];exact⟨⟨by omega,by omega,y,G,by rw[aW];exact F⟩,⟨by omega,by omega,C,a3,by rw[aW];exact F⟩,aW ..,aW ..⟩
theorem XR(as)(l)(hn:l.length<=20):FO (λp h=>pE as l p h) 40:=by
 intro p h d n S hb j;dsimp only at j ⊢;unfold pE at j ⊢;by_cases F:(gV (fb p) l []).2.2.1=0
 .rw[ah F]at j ⊢;by_cases C:(gV (l5 as p h) l []).2.2.1=0
  .rw[ah C]at j ⊢;have G:((kx (l.zip (Fv as p h l)) (l.zip (Fw as p h l))).map (o4 as)).length<=40:=by rw[aW];refine cn (ZX _ _ _ (au _)) ?_;rw[qj,qj];omega
   have H:∀a∈(kx (l.zip (Fv as p h l)) (l.zip (Fw as p h l))).map (o4 as),FO a 1:=λa J=>by obtain⟨x,_,rfl⟩:=aK.1 J;exact ZY as x.1 x.2.1 x.2.2
   generalize (kx (l.zip (Fv as p h l)) (l.zip (Fw as p h l))).map (o4 as)=L at *;have W:StR p h (d++[]) n:=by rw[bZ];exact S
   have⟨V,K⟩:=P' L p h [] d;have y:(fD L p h (d++[])).2.2.2=0:=by rw[V];exact j
   have R:=agY L H p h (d++[]) n W (by omega) y;rw[K j]at R;have r1:(fD L p h []).1.length<=94+40*(n+1*L.length):=R.pl;have Y:(fD L p h []).2.1.length<=94+32*(n+1*L.length):=R.hl;have X:(d++(fD L p h []).2.2.1).length<=n+1*L.length:=R.dl;exact⟨R.f,by omega,R.hh,by omega,by omega⟩
  .rw[ag C]at j;exact absurd j C
 .rw[ag F]at j;exact absurd j F
set_option maxHeartbeats 1000000
def stT{T:Type}(s:aU)(p:List aZ)(h:List bp)(t:T):Int×List bB×List bR×List bu×List aN×List cd×List cU×List dk×List cj×List cj×List aZ×List bp×T:=(s.1,s.2.1,s.2.2.1,s.2.2.2.1,s.2.2.2.2.1,s.2.2.2.2.2.1,s.2.2.2.2.2.2.1,s.2.2.2.2.2.2.2.1,s.2.2.2.2.2.2.2.2.1,s.2.2.2.2.2.2.2.2.2.1,p,h,t)
theorem UK{l:List ar}{t:List Int}:∀{k:Nat} (y:k<l.length) (j:t.length=l.length),(l.zip t).drop k=(l[k],t[k]'(by omega))::(l.zip t).drop (k+1):=by
 intro k y j;have C:k<(l.zip t).length:=by rw[qj];omega
 rw[cu C,Ei]
theorem RP:∀(l:List ar) (t:List Int) (k:Nat) (v:Int),(l.zip (t.set k v)).drop (k+1)=(l.zip t).drop (k+1)
 |[],t,k,v=>by simp
 |u::l,[],k,v=>by simp
 |u::l,x::t,0,v=>by simp
 |u::l,x::t,k+1,v=>by rw[Bw,By,By,sG,sG];exact RP l t k v
theorem abI{l:List ar}{t:List Int}{k:Nat}(y:k<l.length)(j:t.length=l.length)(v:Int):(l.zip (t.set k v)).drop k=(l[k],v)::(l.zip t).drop (k+1):=by rw[UK (t:=t.set k v) y (by simpa using j),RP];simp
def aji(l:List Int):Prop:=∀x∈l,0<=x/\cz x
theorem RQ{l}(h:aji l){k}{v:Int}(C:0<=v)(y:cz v):aji (l.set k v):=λx j=>by
 rcases sq j with j|rfl
 .exact h x j
 .exact⟨C,y⟩
theorem aoy{s:aU}{p:List aZ}{h:List bp}{l:List ar}{m0:Nat}(ha:∀a∈gN s,ly a)(hl1:(gN s).length<=1000)(hn:l.length<=20)(S:StR p h [] m0)(hm0:m0+40<=10000):
 abJ (fV s p h) l=some (rF s (pE (gN s) l p h)):=by
 have hpl:=S.pl;have hhl:=S.hl;show vk aj (fV s p h) l=_;unfold vk;rw[ai (arz S.f (by omega) (by omega)),ai (ar0 ha hl1 S.hh S.f (by omega) (by omega))];refine bz λk59 axz=>?_
 unfold pE;have err:∀e:Int,e≠0->rF s ([],[],[],e)=(zS,[],e,()):=λe W=>by unfold rF;rw[ag W]
 have V:∀e,e=(if(gV (fb p) l []).2.2.1=0 then(gV (l5 (gN s) p h) l []).2.2.1 else(gV (fb p) l []).2.2.1)->k59 (true,(gV (fb p) l []).1,(gV (l5 (gN s) p h) l []).1,())=some (zS,[],e,()):=by rintro _ rfl;subst axz;refine Vq rfl ?_;rw[ai (arE _ _)];rfl
 show aj.af ((gV (fb p) l []).2.2.1 != 0) (k59 (true,(gV (fb p) l []).1,(gV (l5 (gN s) p h) l []).1,())) (k59 ((gV (l5 (gN s) p h) l []).2.2.1 != 0,(gV (fb p) l []).1,(gV (l5 (gN s) p h) l []).1,()))=_;by_cases e1:(gV (fb p) l []).2.2.1=0
 .rw[az (by simp[e1]),ah e1];by_cases e2:(gV (l5 (gN s) p h) l []).2.2.1=0
  .rw[ah e2,show((gV (l5 (gN s) p h) l []).2.2.1 != 0)=false by simp[e2]];obtain⟨w1,w2,c1,c2⟩:=j_ (as:=gN s) (h:=h) S.f (by omega) e1 e2;have ay3:cz (Yx (gN s) p h l):=by have:=w1.s64;have:=w1.t0;have:=w1.ts;unfold cz at *;omega
   have f1:=aoz w1;have f2:=aoz w2;obtain⟨s1,s2⟩:=w1.split;obtain⟨s3,s4⟩:=w2.split;have g1:aji (Fv (gN s) p h l):=λx hx=>by have:=s2 x hx;unfold cz at *;omega
   have g2:aji (Fw (gN s) p h l):=λx hx=>by have:=s4 x hx;unfold cz at *;omega
   have g3:(Fv (gN s) p h l).length=l.length:=s1.trans c1;have g4:(Fw (gN s) p h l).length=l.length:=s3.trans c2;subst axz;have ax0:(if(gV (l5 (gN s) p h) l []).2.1<(gV (fb p) l []).2.1 then(gV (l5 (gN s) p h) l []).2.1 else(gV (fb p) l []).2.1)=Yx (gN s) p h l:=by unfold Yx;split<;>omega
   refine zG rfl ?_;rw[ax0,ai f1,ai f2];refine bz λX hk8=>?_
   have K8:∀p1 H (out:List kA),X (stT s p1 H (out,()))=some (fV s p1 H,out,0,()):=by intro p1 H out;subst hk8;rfl
   clear hk8;show aj.aV _ ((0:Int),(0:Int),stT s p h (Fv (gN s) p h l,Fw (gN s) p h l,([]:List kA),()))=_;generalize Fv (gN s) p h l=gv0 at *;generalize Fw (gN s) p h l=tk0 at *;generalize Y:some (rF s (fD ((kx (l.zip gv0) (l.zip tk0)).map (o4 (gN s))) p h []))=G
   refine oY (λo=>o=G) (λz=>2*l.length+1-z.1.toNat-z.2.1.toNat)
    (λz=>∃(i k:Nat) (p1:List aZ) (H:List bp) (gv j:List Int) (out:List kA) (m:Nat),z=((i:Int),(k:Int),stT s p1 H (gv,j,out,()))/\i<=l.length/\k<=l.length/\gv.length=l.length/\j.length=l.length/\aji gv/\aji j/\StR p1 H out m/\m+(l.length-i)+(l.length-k)<=10000/\some (rF s (fD ((kx ((l.zip gv).drop i) ((l.zip j).drop k)).map (o4 (gN s))) p1 H out))=G)
    ⟨0,0,p,h,gv0,tk0,[],m0,rfl,br _,br _,g3,g4,g1,g2,S,by omega,by rw[ry,ry];exact Y⟩ (by dsimp only;omega) ?_
   clear Y f1 f2 s1 s2 s3 s4 w1 w2 c1 c2 g1 g2 g3 g4 ax0 ay3;rintro _ ⟨i,k,p1,H,gv,j,out,m,rfl,hi,hk,lg,lt,ng,nt,St,hm,K⟩ R hag;have hp1:=St.pl;have hh1:=St.hl;have hd1:=St.dl
   have J:(i=l.length\/k=l.length)->X (stT s p1 H (out,()))=G:=by
    intro hik;rw[K8,<-K]
    have e:kx ((l.zip gv).drop i) ((l.zip j).drop k)=[]:=by
     have lz1:(l.zip gv).length=l.length:=by rw[qj];omega
     have lz2:(l.zip j).length=l.length:=by rw[qj];omega
     rcases hik with rfl|rfl
     .rw[<-lz1,fP,kx]
     .rw[<-lz2,fP];cases(l.zip gv).drop i with
      |nil=>rw[kx]
      |cons a b=>rw[kx]
    rw[e];rfl
   show aj.af (decide ((i:Int)<(gv.length:Int))) (aj.af (decide ((k:Int)<(j.length:Int))) _ (X (stT s p1 H (out,())))) (X (stT s p1 H (out,())))=G;by_cases hil:i<l.length
   .have C:i<gv.length:=by omega
    rw[dx C];by_cases hkl:k<l.length
    .have F:k<j.length:=by omega
     rw[dx F];rw[UK hil lg,UK hkl lt,kx,bI,fD]at K;have nx:=ng _ (aE C);have ny:=nt _ (aE F);have sg:=RP l gv i;have st:=RP l j k;have sg0:=abI (l:=l) hil lg;have st0:=abI (l:=l) hkl lt;have es1:∀v,(gv.set i v)[i]'(by rw[fO];exact C)=v:=λv=>qE _
     generalize hx:gv[i]=x at *;generalize hy:j[k]=y at *;show aj.aH gv (i:Int) (λ_=>aj.aH j (k:Int) λ_=>aj.cr gv (Int.toNat (i:Int)) λx13=>aj.cr j (Int.toNat (k:Int)) λx14=>aj.aH l (i:Int) λx15=>aj.aH l (k:Int) λx16=>aj.two (aj.ae (WH (fV s p1 H) x15 x16 (if x14<x13 then x14 else x13)) _))=G;rw[bO C,bO F,ij C,ij F,bO hil,bO hkl,jc,hx,hy]
     .obtain⟨n,hnn⟩:∃n,n=(if y<x then y else x):=⟨_,rfl⟩;have hn':n=min x y:=by rw[hnn];split<;>omega
      rw[<-hnn];rw[<-hn']at K;have nI:cz n:=by have:=nx.2;have:=ny.2;unfold cz at *;omega
      have xn:0<=x-n/\cz (x-n):=by have:=nx.2;unfold cz at *;omega
      have yn:0<=y-n/\cz (y-n):=by have:=ny.2;unfold cz at *;omega
      rw[ai (akk ha hl1 St.hh (by omega) St.f (by omega) nI)];have ax1:=ZY (gN s) l[i] l[k] n p1 H out m St (by omega);have er:o4 (gN s) (l[i],l[k],n) p1 H=jl (gN s) p1 H l[i] l[k] n:=rfl;rw[er]at K;dsimp only at ax1;generalize jl (gN s) p1 H l[i] l[k] n=r at *;by_cases W:r.2.2.2=0
      .rw[ah W]at K;have S2:=ax1 W;have erd:rF s r=(fV s r.1 r.2.1,r.2.2.1,0,()):=by unfold rF;rw[ah W]
       have hd2:=S2.dl;rw[aq]at hd2;rw[erd];show aj.af ((0:Int) != 0) _ (aj.bc (out.length+r.2.2.1.length) 40 _)=G;rw[az (by rfl),da (by omega) (by omega)];refine bz λk18 ax2=>?_
       have K18:k18 (gv.set i (x-n),j.set k (y-n),out++r.2.2.1,())=G:=by
        subst ax2;have ax3:i<(gv.set i (x-n)).length:=by rw[fO];exact C
        show aj.aH (gv.set i (x-n)) (i:Int) (λ_=>aj.cr (gv.set i (x-n)) (Int.toNat (i:Int)) λx17=>aj.af (x17==0) (R (i64.wrap ((i:Int)+1),(k:Int),stT s r.1 r.2.1 (gv.set i (x-n),j.set k (y-n),out++r.2.2.1,()))) (R ((i:Int),i64.wrap ((k:Int)+1),stT s r.1 r.2.1 (gv.set i (x-n),j.set k (y-n),out++r.2.2.1,()))))=G;rw[bO ax3,ij ax3,es1];by_cases hc:x<=y
        .have en:n=x:=by omega
         rw[ah hc]at K;rw[aT (by simp;omega),cP i (by omega)];refine hag _ ⟨i+1,k,r.1,r.2.1,gv.set i (x-n),j.set k (y-n),out++r.2.2.1,m+1,rfl,by omega,hk,by rw[fO];exact lg,by rw[fO];exact lt,RQ ng xn.1 xn.2,RQ nt yn.1 yn.2,S2,by omega,?_⟩ (by dsimp only;omega);rw[sg,st0,en];exact K
        .have en:n=y:=by omega
         rw[ag hc]at K;rw[az (by simp;omega),cP k (by omega)];refine hag _ ⟨i,k+1,r.1,r.2.1,gv.set i (x-n),j.set k (y-n),out++r.2.2.1,m+1,rfl,by omega,by omega,by rw[fO];exact lg,by rw[fO];exact lt,RQ ng xn.1 xn.2,RQ nt yn.1 yn.2,S2,by omega,?_⟩ (by dsimp only;omega);rw[sg0,st,en];exact K
       clear ax2;have w1:i64.wrap (x-n)=x-n:=bG _ (by have:=xn.2;unfold cz at this;omega);have w2:i64.wrap (y-n)=y-n:=bG _ (by have:=yn.2;unfold cz at this;omega);show aj.aH gv (i:Int) (λ_=>aj.aH j (k:Int) λ_=>aj.gP (aj.cr gv (Int.toNat (i:Int)) λx21=>aj.cr j (Int.toNat (k:Int)) λx22=>aj.aH gv (i:Int) λ_=>aj.cr gv (Int.toNat (i:Int)) λ_=>aj.aH j (k:Int) λ_=>aj.cr j (Int.toNat (k:Int)) λ_=>k18 (gv.set (Int.toNat (i:Int)) (i64.wrap (x21-n)),j.set (Int.toNat (k:Int)) (i64.wrap (x22-n)),out++r.2.2.1,())) (aj.cr j (Int.toNat (k:Int)) λx27=>aj.cr gv (Int.toNat (i:Int)) λx28=>aj.aH gv (i:Int) λ_=>aj.cr gv (Int.toNat (i:Int)) λ_=>aj.aH j (k:Int) λ_=>aj.cr j (Int.toNat (k:Int)) λ_=>k18 (gv.set (Int.toNat (i:Int)) (i64.wrap (x28-n)),j.set (Int.toNat (k:Int)) (i64.wrap (x27-n)),out++r.2.2.1,())))=G;rw[bO C,bO F];exact jX (by rw[ij C,ij F,bO C,ij C,bO F,ij F,hx,hy,w1,w2,aX,aX,K18]) (by rw[ij F,ij C,bO C,ij C,bO F,ij F,hx,hy,w1,w2,aX,aX,K18])
      .rw[ag W]at K;have erd:rF s r=(zS,[],r.2.2.2,()):=by unfold rF;rw[ag W]
       rw[erd];show aj.af (r.2.2.2 != 0) (some (zS,[],r.2.2.2,())) _=G;rw[aT (by simpa using W),<-K,err _ W]
    .have e:k=j.length:=by omega
     have hkk:k=l.length:=by omega
     rw[show aj.af (decide ((k:Int)<(j.length:Int))) _ (X (stT s p1 H (out,())))=X (stT s p1 H (out,()))from by rw[e,dV]];exact J (.inr hkk)
   .have e:i=gv.length:=by omega
    have hii:i=l.length:=by omega
    rw[show ∀A,aj.af (decide ((i:Int)<(gv.length:Int))) A (X (stT s p1 H (out,())))=X (stT s p1 H (out,()))from λA=>by rw[e,dV]];exact J (.inl hii)
  .rw[ag e2,show((gV (l5 (gN s) p h) l []).2.2.1 != 0)=true by simpa using e2,V _ rfl,ah e1,err _ e2]
 .rw[aT (by simpa using e1),ag e1,V _ rfl,ag e1,err _ e1]
def sm(st:NT)(a:Ah):NT:=if st.2.2.2=0 then if(a st.1 st.2.1).2.2.2=0 then((a st.1 st.2.1).1,(a st.1 st.2.1).2.1,st.2.2.1++(a st.1 st.2.1).2.2.1,0)else(st.1,st.2.1,st.2.2.1,(a st.1 st.2.1).2.2.2)else st
def oH(l:List Ah)(st:NT):NT:=l.foldl sm st
theorem abK:∀(l:List Ah) {st:NT},st.2.2.2≠0->oH l st=st
 |[],_,_=>rfl
 |a::l,st,h=>by
  have e:sm st a=st:=by unfold sm;rw[ag h]
  show oH l (sm st a)=st;rw[e];exact abK l h
theorem acG:∀(l:List Ah) (p:List aZ) (h:List bp) (d:List kA),
 (oH l (p,h,d,0)).2.2.2=(fD l p h d).2.2.2/\((fD l p h d).2.2.2=0->oH l (p,h,d,0)=fD l p h d)/\((fD l p h d).2.2.2≠0->fD l p h d=([],[],[],(fD l p h d).2.2.2))
 |[],p,h,d=>⟨rfl,λ_=>rfl,λy=>absurd rfl y⟩
 |a::l,p,h,d=>by
  rw[fD];by_cases j:(a p h).2.2.2=0
  .have e:sm (p,h,d,0) a=((a p h).1,(a p h).2.1,d++(a p h).2.2.1,0):=by unfold sm;rw[ah rfl,ah j]
   rw[ah j,oH,lu,e];exact acG l _ _ _
  .have e:sm (p,h,d,0) a=(p,h,d,(a p h).2.2.2):=by unfold sm;rw[ah rfl,ag j]
   rw[ag j,oH,lu,e];have:=abK l (st:=(p,h,d,(a p h).2.2.2)) j;rw[oH]at this;rw[this];exact⟨rfl,λy=>absurd y j,λ_=>rfl⟩
theorem q6(y j)(st):oH (y++j) st=oH j (oH y st):=CF
def StO(st:NT)(n:Nat):Prop:=st.2.2.2=0->StR st.1 st.2.1 st.2.2.1 n
theorem RR{a:Ah}{k:Nat}(G:FO a k){st:NT}{n:Nat}(h:StO st n)(F:n+k<=10000):StO (sm st a) (n+k):=by
 intro j;unfold sm at j ⊢;by_cases C:st.2.2.2=0
 .rw[ah C]at j ⊢;by_cases y:(a st.1 st.2.1).2.2.2=0
  .rw[ah y];exact G st.1 st.2.1 st.2.2.1 n (h C) F y
  .rw[ag y]at j;exact absurd j y
 .rw[ag C]at j;exact absurd j C
theorem StO.mono{st}{n m:Nat}(h:StO st n)(hm:n<=m):StO st m:=λj=>by have S:=h j;have a:=S.pl;have b:=S.hl;have c:=S.dl;exact⟨S.f,by omega,S.hh,by omega,by omega⟩
theorem Gq{k:Nat}:∀(l:List Ah),(∀a∈l,FO a k)->∀{st:NT} {n:Nat},StO st n->n+k*l.length<=10000->StO (oH l st) (n+k*l.length)
 |[],_,st,n,h,_=>h
 |a::l,hl,st,n,h,j=>by rw[aJ,vP]at j ⊢;have:=Gq l (λb hb=>hl b (bd _ hb)) (RR (hl a bU) h (by omega)) (by omega);rw[show n+(k*l.length+k)=n+k+k*l.length by omega];exact this
def M1(s:aU)(st:NT):=stT s st.1 st.2.1 (st.2.2.1,st.2.2.2,())
def UL(s:aU)(st:NT):=stT s st.1 st.2.1 (st.2.2.2,st.2.2.1,())
theorem aex{s}{st r:NT}(y:r.2.2.2=0->st.2.2.1.length+r.2.2.1.length<=1000000):
 VN s.1 s.2.1 s.2.2.1 s.2.2.2.1 s.2.2.2.2.1 s.2.2.2.2.2.1 s.2.2.2.2.2.2.1 s.2.2.2.2.2.2.2.1 s.2.2.2.2.2.2.2.2.1 s.2.2.2.2.2.2.2.2.2.1 st.1 st.2.1 st.2.2.1 st.2.2.2 (rF s r).1 (rF s r).2.1 (rF s r).2.2.1=some ((),M1 s (if r.2.2.2=0 then(r.1,r.2.1,st.2.2.1++r.2.2.1,0)else(st.1,st.2.1,st.2.2.1,r.2.2.2))):=by
 by_cases j:r.2.2.2=0
 .have h:=y j;have e:rF s r=(fV s r.1 r.2.1,r.2.2.1,0,()):=by unfold rF;rw[ah j]
  rw[e,ah j];show aj.af ((0:Int)==0) (aj.bc (st.2.2.1.length+r.2.2.1.length) 40 (some ((),M1 s (r.1,r.2.1,st.2.2.1++r.2.2.1,0)))) _=_;rw[aT (by rfl),da]
 .have e:rF s r=(zS,[],r.2.2.2,()):=by unfold rF;rw[ag j]
  rw[e,ag j];exact tqn j rfl
theorem UM{st}(a)(h:st.2.2.2=0):sm st a=(if(a st.1 st.2.1).2.2.2=0 then((a st.1 st.2.1).1,(a st.1 st.2.1).2.1,st.2.2.1++(a st.1 st.2.1).2.2.1,0)else(st.1,st.2.1,st.2.2.1,(a st.1 st.2.1).2.2.2)):=by unfold sm;rw[ah h]
theorem UN{a}{k:Nat}(y:FO a k){st:NT}{n:Nat}(h:StO st n)(j:n+k<=10000)(F:st.2.2.2=0):(a st.1 st.2.1).2.2.2=0->st.2.2.1.length+(a st.1 st.2.1).2.2.1.length<=1000000:=λC=>by have:=(y st.1 st.2.1 st.2.2.1 n (h F) j C).dl;rw[aq]at this;omega
def jA(as:List fI)(us:List ar):List Ah:=us.map λu=>λp h=>FX as p h u
def gn(as:List fI)(l:List aN):List Ah:=(l.filter λa=>a.2.2.1==2).map λa=>pE as (bW a)
def jB(as:List fI)(by' us:List ar):List Ah:=us.flatMap λu=>by'.map λb=>λp h=>Ew as p h b u
theorem ajj{s}{st:NT}{l:List ar}{n:Nat}(W:∀a∈gN s,ly a)(H:(gN s).length<=1000)(S:StO st n)(X:n+l.length<=10000):
 ZZ s.1 s.2.1 s.2.2.1 s.2.2.2.1 s.2.2.2.2.1 s.2.2.2.2.2.1 s.2.2.2.2.2.2.1 s.2.2.2.2.2.2.2.1 s.2.2.2.2.2.2.2.2.1 s.2.2.2.2.2.2.2.2.2.1 st.1 st.2.1 st.2.2.1 st.2.2.2 l=some ((),M1 s (oH (jA (gN s) l) st)):=by
 refine mS (l:=l) (s0:=st) (by omega) (λi (z:NT)=>((i:Int),UL s z)) (λi z=>StO z (n+i)) (λl' z=>some ((),M1 s (oH (jA (gN s) l') z))) rfl S ?_ ?_
 .intro z _ y;refine F8 ?_;rfl
 .intro i hi z G y J;refine HX hi ?_;have j:=agX (gN s) l[i];have F:=RR j G (by omega);refine bz λk V=>?_
  have K:∀R,R=sm z (λp h=>FX (gN s) p h l[i])->k (UL s R)=some ((),M1 s (oH (jA (gN s) (l.drop (i+1))) (sm z λp h=>FX (gN s) p h l[i]))):=by rintro _ rfl;subst V;rw[cP i];exact J _ F
  refine tix hi ?_;by_cases C:z.2.2.2=0
  .have S0:=G C;have pl:=S0.pl;have hl:=S0.hl;show aj.af (z.2.2.2==0) (aj.ae (a_ (fV s z.1 z.2.1) l[i]) _) _=_;rw[aT (by simp[C]),ai (atk W H S0.hh (by omega) S0.f (by omega))];refine vY (aex (UN j G (by omega) C)) ?_;exact K _ (UM (λp h=>FX (gN s) p h l[i]) C).symm
  .refine tqn C ?_;exact K z (by unfold sm;rw[ag C])
theorem Q'(as)(a)(l)(st):oH (gn as (a::l)) st=if a.2.2.1=2 then oH (gn as l) (sm st (pE as (bW a)))else oH (gn as l) st:=by
 unfold gn;rw[bi];by_cases h:a.2.2.1=2
 .rw[ah (by simp[h]),ah h];rfl
 .rw[ag (by simp[h]),ag h]
theorem Du{a}(h:a.2.2.2.1.length<=20):(bW a).length<=20:=by
 unfold bW;split
 .simp
 .rw[aW];exact h
theorem Z0{s}{st:NT}{l:List aN}{n:Nat}(ha:∀a∈gN s,ly a)(X:(gN s).length<=1000)(hA:∀a∈l,a.2.2.2.1.length<=20)(S:StO st n)(hn:n+40*l.length<=10000):
 Ra s.1 s.2.1 s.2.2.1 s.2.2.2.1 s.2.2.2.2.1 s.2.2.2.2.2.1 s.2.2.2.2.2.2.1 s.2.2.2.2.2.2.2.1 s.2.2.2.2.2.2.2.2.1 s.2.2.2.2.2.2.2.2.2.1 st.1 st.2.1 st.2.2.1 st.2.2.2 l=some ((),M1 s (oH (gn (gN s) l) st)):=by
 show rQ aj s.1 s.2.1 s.2.2.1 s.2.2.2.1 s.2.2.2.2.1 s.2.2.2.2.2.1 s.2.2.2.2.2.2.1 s.2.2.2.2.2.2.2.1 s.2.2.2.2.2.2.2.2.1 s.2.2.2.2.2.2.2.2.2.1 st.1 st.2.1 st.2.2.1 st.2.2.2 l=_;refine mS (l:=l) (s0:=st) (by omega) (λi (z:NT)=>((i:Int),UL s z)) (λi z=>StO z (n+40*i)) (λl' z=>some ((),M1 s (oH (gn (gN s) l') z))) rfl S ?_ ?_
 .intro z _ H;refine F8 ?_;rfl
 .intro i hi z V H Y;rw[Q'];refine HX hi ?_;have hu:=Du (hA _ (aE hi));have J:=XR (gN s) (bW l[i]) hu;have j:=J;have W:=RR j V (by omega);refine bz λk hk=>?_
  have K:∀R,StO R (n+40*i+40)->k (UL s R)=some ((),M1 s (oH (gn (gN s) (l.drop (i+1))) R)):=by intro R h';subst hk;rw[cP i];exact Y _ h'
  refine tix hi ?_;refine bz λy F=>?_
  have Kf:y (false,UL s z)=some ((),M1 s (oH (gn (gN s) (l.drop (i+1))) z)):=by subst F;refine zG rfl ?_;exact K z (V.mono (by omega))
  have Kt:z.2.2.2=0->y (true,UL s z)=some ((),M1 s (oH (gn (gN s) (l.drop (i+1))) (sm z (pE (gN s) (bW l[i]))))):=by intro G;have S0:=V G;have pl:=S0.pl;have hl:=S0.hl;subst F;refine Vq rfl ?_;rw[jc];refine vY (show wZ l[i]=some (bW l[i])from xD (a:=l[i]) (by have:=hA _ (aE hi);omega)) ?_;have S1:StR z.1 z.2.1 [] (n+40*i):=⟨S0.f,S0.pl,S0.hh,S0.hl,br _⟩;refine vY (aoy ha X hu S1 (by omega)) ?_;refine vY (aex (UN j V (by omega) G)) ?_;have:=K _ W;rw[UM (pE (gN s) (bW l[i])) G]at this ⊢;exact this
  show aj.af (z.2.2.2==0) (y (l[i].2.2.1==2,UL s z)) (y (false,UL s z))=_;by_cases G:z.2.2.2=0
  .rw[aT (by simp[G])];by_cases C:l[i].2.2.1=2
   .rw[ah C,show(l[i].2.2.1==2)=true by simp[C]];exact Kt G
   .rw[ag C,show(l[i].2.2.1==2)=false by simp[C]];exact Kf
  .rw[qy G,Kf];have e:sm z (pE (gN s) (bW l[i]))=z:=by unfold sm;rw[ag G]
   rw[e];split<;>rfl
theorem Z1(as)(by')(u)(us)(st):oH (jB as by' (u::us)) st=oH (jB as by' us) (oH (by'.map λb=>λp h=>Ew as p h b u) st):=by unfold jB;rw[cF,q6]
theorem M2{s}{st:NT}{l by':List ar}{n:Nat}(ha:∀a∈gN s,ly a)(V:(gN s).length<=1000)(S:StO st n)(hn:n+by'.length*l.length<=10000)(hll:l.length<=10000)(R2:by'.length<=10000):
 Rb s.1 s.2.1 s.2.2.1 s.2.2.2.1 s.2.2.2.2.1 s.2.2.2.2.2.1 s.2.2.2.2.2.2.1 s.2.2.2.2.2.2.2.1 s.2.2.2.2.2.2.2.2.1 s.2.2.2.2.2.2.2.2.2.1 st.1 st.2.1 st.2.2.1 st.2.2.2 l by'=some ((),M1 s (oH (jB (gN s) by' l) st)):=by
 refine mS (l:=l) (s0:=st) (by omega) (λi (z:NT)=>((i:Int),UL s z)) (λi z=>StO z (n+by'.length*i)) (λl' z=>some ((),M1 s (oH (jB (gN s) by' l') z))) rfl S ?_ ?_
 .intro z _ F;refine F8 ?_;rfl
 .intro i hi z hz F X;rw[Z1]
  have Y:by'.length*i+by'.length<=by'.length*l.length:=by
   have:=lN by'.length (show i+1<=l.length from hi)
   rwa [vP]at this
  have C:by'.length*(i+1)=by'.length*i+by'.length:=vP ..;refine HX hi ?_;rw[bO hi];refine mS (l:=by') (s0:=z) (by omega) (λk (w:NT)=>((k:Int),UL s w)) (λk w=>StO w (n+by'.length*i+k)) (λl' w=>some ((),M1 s (oH (jB (gN s) by' (l.drop (i+1))) (oH (l'.map λb=>λp h=>Ew (gN s) p h b l[i]) w)))) rfl hz ?_ ?_
  .intro w H j;refine F8 ?_;rw[cP i];exact X _ (by rw[C];exact H.mono (by omega))
  .intro k hk w H j J;refine HX hk ?_;have y:=agW (gN s) by'[k] l[i];have R:=RR y H (by omega);refine bz λk7 W=>?_
   have K:∀w',w'=sm w (λp h=>Ew (gN s) p h by'[k] l[i])->k7 (UL s w')=some ((),M1 s (oH (jB (gN s) by' (l.drop (i+1))) (oH ((by'.drop (k+1)).map λb=>λp h=>Ew (gN s) p h b l[i]) (sm w λp h=>Ew (gN s) p h by'[k] l[i])))):=by rintro _ rfl;subst W;rw[cP k];exact J _ R
   refine tix hk ?_;by_cases G:w.2.2.2=0
   .have S0:=H G;have pl:=S0.pl;have hl:=S0.hl;show aj.af (w.2.2.2==0) (aj.ae (ÿ (fV s w.1 w.2.1) by'[k] l[i]) _) _=_;rw[aT (by simp[G]),ai (atj ha V S0.hh (by omega) S0.f (by omega))];refine vY (aex (UN y H (by omega) G)) ?_;exact K _ (UM (λp h=>Ew (gN s) p h by'[k] l[i]) G).symm
   .refine tqn G ?_;exact K w (by unfold sm;rw[ag G])
def oo(l:List aN):List ar:=l.flatMap bW
def lm(l:List aN):List ar:=(l.filter λa=>a.2.2.1==1).flatMap bW
def yG(as:List fI)(A:List aN)(us hs:List ar):List Ah:=jA as us++(gn as A++(jB as hs us++jB as [fU] us))
theorem UO{k}:∀{l:List aN},(∀a∈l,(bW a).length<=k)->(l.flatMap bW).length<=k*l.length
 |[],_=>by simp
 |a::l,h=>by
  have y:=h a bU;have j:=UO (l:=l) λb hb=>h b (bd _ hb)
  rw[cF,aq,aJ,vP];omega
theorem ajk{a}(h:a.2.2.1=1):(bW a).length=1:=by unfold bW;rw[ah h];rfl
theorem ajl(l):(lm l).length<=l.length:=by
 unfold lm;have C:=UO (k:=1) (l:=l.filter λa=>a.2.2.1==1) λa j=>by have:=(aI.1 j).2;rw[ajk (by simpa using this)];exact au _
 have y:=cp (λa:aN=>a.2.2.1==1) l;omega
theorem abL(a)(l):lm (a::l)=if a.2.2.1=1 then bW a++lm l else lm l:=by
 unfold lm;rw[bi];by_cases h:a.2.2.1=1
 .rw[ah (by simp[h]),ah h,cF]
 .rw[ag (by simp[h]),ag h]
theorem ao0{l}(J:∀a∈l,a.2.2.2.1.length<=20)(hl:l.length<=1000):aey l=some (oo l,lm l,()):=by
 refine mS (l:=l) (s0:=(([]:List ar),([]:List ar))) (by omega) (λi (z:List ar×List ar)=>((i:Int),z.1,z.2,())) (λi z=>z.1.length<=20*i/\z.2.length<=20*i) (λl' z=>some (z.1++oo l',z.2++lm l',())) rfl ⟨by simp,by simp⟩ ?_ ?_
 .rintro⟨a,b⟩ _ C;show aj.af (decide ((l.length:Int)<(l.length:Int))) _ (some (a,b,()))=some (a++[],b++[],());rw[dV,bZ,bZ]
 .rintro i hi ⟨us,hs⟩ ⟨X,W⟩ C G;dsimp only at X W;have hu:=Du (J _ (aE hi));have R:=xD (a:=l[i]) (by have:=J _ (aE hi);omega);have e1:us++oo (l[i]::l.drop (i+1))=us++bW l[i]++oo (l.drop (i+1)):=by unfold oo;rw[cF,bn]
  rw[dx hi,e1,abL];refine bz λk V=>?_
  have K:∀us' j,us'.length<=20*(i+1)->j.length<=20*(i+1)->k (us',j,())=some (us'++oo (l.drop (i+1)),j++lm (l.drop (i+1)),()):=by intro us' j g1 Y;subst V;rw[cP i];exact G (us',j) ⟨g1,Y⟩
  refine tix hi ?_;show aj.ae (wZ l[i]) (λF=>aj.bc (us.length+F.length) 16 (aj.af (l[i].2.2.1==1) (aj.ae (wZ l[i]) λH=>aj.bc (hs.length+H.length) 16 (k (us++F,hs++H,()))) (k (us++F,hs,()))))=_;rw[ai R,da];by_cases y:l[i].2.2.1=1
  .rw[aT (by simp[y]),ai R,da,ah y,K _ _ (by rw[aq];omega) (by rw[aq];omega),bn hs]
  .rw[az (by simp[y]),ag y,K _ _ (by rw[aq];omega) (by omega)]
theorem b_(as)(us):∀a∈jA as us,FO a 1:=λa j=>by obtain⟨u,_,rfl⟩:=aK.1 j;exact agX as u
theorem Pt{as}{A}(C:∀a∈A,a.2.2.2.1.length<=20):∀a∈gn as A,FO a 40:=λa y=>by obtain⟨x,j,rfl⟩:=aK.1 y;exact XR as (bW x) (Du (C x (aI.1 j).1))
theorem Sj(as)(by' us):∀a∈jB as by' us,FO a 1:=λa y=>by have⟨u,_,j⟩:=bQ.1 y;obtain⟨b,_,rfl⟩:=aK.1 j;exact agW as b u
theorem Ey(as)(by'):∀us,(jB as by' us).length=by'.length*us.length
 |[]=>by simp[jB]
 |u::us=>by have:=Ey as by' us;unfold jB at this ⊢;rw[cF,aq,aW,this,aJ,vP];omega
structure Rm(s:aU)(A:List aN):Prop where
 a:∀a∈gN s,ly a
 aL:(gN s).length<=1000
 c:∀a∈A,a.2.2.2.1.length<=20
 cL:A.length<=20
theorem Rm.lens{s}{A}(O:Rm s A):(oo A).length<=400/\(lm A).length<=20:=by
 have F:=UO (k:=20) (l:=A) λa j=>Du (O.c a j)
 have C:=ajl A;have y:=O.cL;unfold oo;omega
theorem av0{s}{p}{h:List bp}{id:Int}(V:qP s.2.2.2.2.1)(O:Rm s (s.2.2.2.2.1.filter (po id)))(S:StR p h [] 0):
 LM (fV s p h) id=some (rF s (fD (yG (gN s) (s.2.2.2.2.1.filter (po id)) (oo (s.2.2.2.2.1.filter (po id))) (lm (s.2.2.2.2.1.filter (po id)))) p h [])):=by
 have⟨l1,l2⟩:=O.lens;have cL:=O.cL;show IM aj (fV s p h) id=_;show aj.ae (X0 s.2.2.2.2.1 id) _=_;rw[ai (Wn V)];generalize hA:s.2.2.2.2.1.filter (po id)=A at *;have hsl:(gn (gN s) A).length<=20:=by unfold gn;rw[aW];have:=cp (λa:aN=>a.2.2.1==2) A;omega
 rw[ai (ao0 O.c (by omega))];have S0:StO (p,h,[],0) 0:=λ_=>S
 have S1:=Gq (jA (gN s) (oo A)) (b_ _ _) S0 (by unfold jA;rw[aW];omega);have e1:(jA (gN s) (oo A)).length=(oo A).length:=by unfold jA;rw[aW]
 rw[e1]at S1;have c1:=ajj (st:=(p,h,[],0)) (l:=oo A) O.a O.aL S0 (by omega);generalize G:oH (jA (gN s) (oo A)) (p,h,[],0)=st1 at *;have K:=S1.mono (m:=400) (by omega);have c2:=Z0 (st:=st1) (l:=A) O.a O.aL O.c K (by omega);have S2:=Gq (gn (gN s) A) (Pt O.c) K (by omega);generalize F:oH (gn (gN s) A) st1=st2 at *;have J:=S2.mono (m:=1200) (by omega);have hm:=Nat.mul_le_mul l2 l1;have c3:=M2 (st:=st2) (l:=oo A) (by':=lm A) O.a O.aL J (by omega) (by omega) (by omega);have S3:=Gq (jB (gN s) (lm A) (oo A)) (Sj _ _ _) J (by rw[Ey];omega);rw[Ey]at S3;generalize C:oH (jB (gN s) (lm A) (oo A)) st2=y at *;have W:=S3.mono (m:=9200) (by omega);have c4:=M2 (st:=y) (l:=oo A) (by':=[fU]) O.a O.aL W (by simp;omega) (by omega) (by simp);have tot:oH (yG (gN s) A (oo A) (lm A)) (p,h,[],0)=oH (jB (gN s) [fU] (oo A)) y:=by unfold yG;rw[q6,q6,q6,G,F,C]
 generalize Y:oH (jB (gN s) [fU] (oo A)) y=j at *;have⟨R,X,r3⟩:=acG (yG (gN s) A (oo A) (lm A)) p h [];rw[tot]at R X;refine vY c1 ?_;refine vY c2 ?_;refine vY c3 ?_;rw[ai acE];refine vY c4 ?_;show aj.af (j.2.2.2 != 0) (some (zS,[],j.2.2.2,())) (some (fV s j.1 j.2.1,j.2.2.1,0,()))=_;unfold rF;by_cases H:(fD (yG (gN s) A (oo A) (lm A)) p h []).2.2.2=0
 .rw[ah H,<-X H,az (by rw[R,H];rfl)]
 .rw[ag H,aT (by rw[R];simpa using H),R]
theorem OO{α}{n}{l:List α}{k:Nat}{x:α}(j:k<=l.length)(hb:(l.length+1)*n<=140737488355328):JF n l (k:Int) [x]=some (l.take k++x::l.drop k,()):=by
 unfold JF;have e:(decide ((0:Int)<=(k:Int))&&decide ((k:Int)<=(l.length:Int))&&Nat.ble ((l.length+1)*n) 140737488355328)=true:=by rw[ap (by omega),ap (by omega),gU hb];rfl
 rw[e];rfl
theorem auJ{α}{l:List α}{a b:Nat}(h:a<b)(hb:b<=l.length):Vr l (a:Int) (b:Int)=some (l.take a++l.drop b,()):=by
  unfold Vr
  have e:(decide ((0:Int)<=(a:Int))&&decide ((a:Int)<(b:Int))&&decide ((b:Int)<=(l.length:Int)))=true:=by
    rw[ap (by omega),ap (by omega),ap (by omega)];rfl
  rw[e]
  rfl
abbrev oF:=ar
def xM(l:List oF):Prop:=(∀x∈l,(1<=x.1/\x.1<=8)/\x.2.1≠0)/\(l.map (·.1)).Pairwise (· < ·)
instance (l:List oF):Decidable (xM l):=by unfold xM;infer_instance
def En(l:List oF):Bool:=decide (xM l)
theorem ZM{l:List oF}{i:Nat}(hi:i<l.length)(h:¬((1<=l[i].1/\l[i].1<=8)/\l[i].2.1≠0)):En l=false:=an λj=>h (j.1 _ (aE hi))
theorem ano{l:List oF}{i:Nat}(hi:i<l.length)(y:0<i)(h:¬(l[i-1]'(by omega)).1<l[i].1):En l=false:=an λj=>h (by have:=bN.1 j.2 (i-1) i (by simp;omega) (by simpa using hi) (by omega);simpa using this)
theorem anp{l:List oF}{i:Nat}(hi:i<l.length)(inv:xM (l.take i))(V:(1<=l[i].1/\l[i].1<=8)/\l[i].2.1≠0)(R:∀W:0<i,(l[i-1]'(by omega)).1<l[i].1):xM (l.take (i+1)):=by
 rw[ax hi];refine⟨λx j=>?_,?_⟩
 .rcases aQ.1 j with j|j
  .exact inv.1 x j
  .simp only[ay]at j;rw[j];exact V
 .rw[cw];refine dF.2 ⟨inv.2,by simp,λa K b hb=>?_⟩;simp only[bI,pW,ay]at hb;subst hb;have⟨k,F,y⟩:=dC.1 K;have J:k<i:=by simp at F;omega
  have H:=R (by omega);by_cases C:k=i-1
  .subst C;rw[<-y];simpa using H
  .have G:=bN.1 inv.2 k (i-1) (by simpa using F) (by simp;omega) (by omega);rw[y]at G;refine Fo G ?_;simpa using H
theorem aqB{l:List oF}(h:xM (l.take l.length)):En l=true:=by rw[bs]at h;exact ap h
def PZ(l:List oF)(i:Nat):Int:=if h:0<i/\i<=l.length then(l[i-1]'(by omega)).1 else 0
theorem aqC{l:List oF}{i:Nat}(h:i<l.length):PZ l (i+1)=l[i].1:=by unfold PZ;rw[zF ⟨by omega,by omega⟩];rfl
theorem agv{l:List oF}(hl:l.length<=1000000):auM l=some (En l):=by
 refine aqA (N:=l.length) (by omega) (λi=>(PZ l i,(i:Int),())) (λi=>xM (l.take i)) (some (En l)) (by unfold PZ;simp) (by simp[xM]) ?_ ?_
 .intro h j;refine F8 ?_;rw[aqB h]
 .intro i hi inv j R;refine HX hi ?_;rw[bO hi];refine bz λk J=>?_
  have H:k (true,())=some false:=by subst J;rfl
  have K:k (false,())=j (PZ l (i+1),((i+1:Nat):Int),()):=by rw[<-cP i,aqC hi];subst J;rfl
  refine de (λy=>?_) λy=>?_
  .rw[H];unfold PZ at y;by_cases C:0<i
   .rw[zF ⟨C,by omega⟩]at y;rw[ano hi C (by omega)]
   .rw[dif_neg (by omega)]at y;rw[ZM hi (by omega)]
  .refine de (λV=>?_) λV=>?_
   .rw[H,ZM hi (by omega)]
   .by_cases G:l[i].2.1=0
    .rw[show(l[i].2.1==0)=true by simpa using G,H,ZM hi (by simp[G])]
    .rw[show(l[i].2.1==0)=false by simpa using G,K]
     have F:1<=l[i].1:=by
      unfold PZ at y;by_cases C:0<i
      .rw[zF ⟨C,by omega⟩]at y;have:=(inv.1 (l[i-1]'(by omega)) (dC.2 ⟨i-1,by simp;omega,by simp⟩)).1.1;omega
      .rw[dif_neg (by omega)]at y;omega
     refine R (anp hi inv ⟨⟨F,by omega⟩,G⟩ λC=>?_);unfold PZ at y;rw[zF ⟨C,by omega⟩]at y;omega
def VG(i:bR)(q:Int):Int:=(i.2.2.2.1-i.2.2.1)*i.2.1*q
theorem ME{a b A B}(C : -A<=a/\a<=A)(hb : -B<=b/\b<=B) : -(A*B)<=a*b/\a*b<=A*B:=by
 have y:a.natAbs<=A.toNat:=by omega
 have j:b.natAbs<=B.toNat:=by omega
 have G:(a*b).natAbs<=A.toNat*B.toNat:=by rw[Int.natAbs_mul];exact Nat.mul_le_mul y j
 have F:((A.toNat*B.toNat:Nat):Int)=A*B:=by rw[nr,sD (by omega),sD (by omega)]
 omega
theorem ag4{i}(h:okI i) : -140737488355328<=(i.2.2.2.1-i.2.2.1)*i.2.1/\(i.2.2.2.1-i.2.2.1)*i.2.1<=140737488355328:=by have⟨C,y,j,_⟩:=h;exact ME (A:=2147483648) (B:=65536) (by omega) (by omega)
theorem aqD{i}(h:okI i){q:Int}(j:cz q) : -1298074214633706907132624082305024<=VG i q/\VG i q<=1298074214633706907132624082305024:=by unfold cz at j;exact ME (A:=140737488355328) (B:=9223372036854775808) (ag4 h) (by omega)
theorem Xs{t}{id}{i}(h:nv t id=some i):i∈t:=cf h
theorem Vt.len{t}(h:Vt t):t.length<=1000000:=by have:=h.2;omega
def AN(t:List bR):List oF->Option Int
 |[]=>some 0
 |x::l=>match nv t x.1 with
  |none=>none
  |some i=>match AN t l with
   |none=>none
   |some z=>some (VG i x.2.1+z)
def tM(t:List bR)(l:List oF):Int×Int×Unit:=if En l=true then(match AN t l with|none=>(0,11,())|some z=>cW z)else(0,3,())
def Vm(l:List oF):Prop:=∀x∈l,cz x.2.1
theorem awX{t}(j:Vt t){x:oF}(y:cz x.2.1):anq t x=some (match nv t x.1 with|some i=>(wide (VG i x.2.1),0,())|none=>((0,0,()),11,())):=by
 show DW aj t x=_;unfold DW;rw[ai (X7 j.len λi hi=>by have:=(j.1 i hi).2.2.2;omega)];cases h:nv t x.1 with
 |none=>exact aT rfl _ _
 |some i=>have hi:=j.1 i (Xs h);have hb:=ag4 hi;show aj.af (!true) _ (aj.ae (Dp (i64.wrap (i.2.2.2.1-i.2.2.1)) i.2.1) _)=_;have⟨G,F,C,_⟩:=hi;rw[az (by decide),bG _ (by omega),ai (Et (by unfold cz;omega) (by unfold cz;omega)),ai (aaN (by unfold cz;omega) y)];rfl
theorem auN{t}(V:Vt t){l:List oF}(W:Vm l)(hl:l.length<=1000):aiC t l=some (tM t l):=by
 show AO aj t l=_;unfold AO tM;rw[ai (agv (by omega))];by_cases hv:En l=true
 .rw[hv,az (by decide),ah rfl];have e0:(match AN t l with|none=>(0,11,())|some z=>cW z)=(match AN t l with|none=>(0,11,())|some z=>cW (0+z)):=by cases AN t l<;>simp
  rw[e0];refine gQ (l:=l) (by omega) (λi (s:List bF×Unit)=>s.1.length=i/\(∀w∈s.1,EW w) /\ -(1298074214633706907132624082305024*(i:Int))<=rE s.1/\rE s.1<=1298074214633706907132624082305024*(i:Int)) (s0:=(([]:List bF),())) (λl' (s:List bF×Unit)=>some (match AN t l' with|none=>(0,11,())|some z=>cW (rE s.1+z))) ⟨rfl,by simp,by simp[rE],by simp[rE]⟩ ?_ ?_
  .rintro⟨j,⟨⟩⟩ y ⟨J,H,R,K⟩;simp only at J H R K;have G:ec (rE j):=by unfold ec;omega
   have ea:xK j=some (wide (rE j),0,()):=by rw[NW j H (by omega)];unfold fit;rw[ah G]
   rw[dV];show aj.ae (xK j) _=some (cW (rE j+0));rw[ai ea,n9];show aj.af ((0:Int) != 0) _ (aj.ae (MF (wide (rE j))) _)=_;rw[az (by decide),ai (JD G)]
  .rintro i hi ⟨j,⟨⟩⟩ ⟨J,H,R,K⟩ y Y;simp only at J H R K;have F:=W _ (aE hi);rw[dx hi,bO hi,ai (awX V F)];show _=some (match AN t (l[i]::l.drop (i+1))with|none=>(0,11,())|some z=>cW (rE j+z));rw[AN];cases X:nv t l[i].1 with
   |none=>show aj.af ((11:Int) != 0) _ _=_;rw[aT (by decide)]
   |some x=>
    have hb:=aqD (V.1 x (Xs X)) F;have hI:ec (VG x l[i].2.1):=by unfold ec;omega
    show aj.af ((0:Int) != 0) _ (aj.bc (j.length+1) 16 (y (i64.wrap ((i:Int)+1),j++[wide (VG x l[i].2.1)],())))=_;have hs:rE (j++[wide (VG x l[i].2.1)])=rE j+VG x l[i].2.1:=by rw[aaT,aaU,tb]
    rw[az (by decide),da,cP i,Y (j++[wide (VG x l[i].2.1)],()) ⟨by simp[J],λw C=>?_,by simp only[hs];omega,by simp only[hs];omega⟩]
    .dsimp only;rw[hs];cases AN t (l.drop (i+1))with
     |none=>rfl
     |some z=>dsimp only;rw[Int.add_assoc]
    .rcases aQ.1 C with C|C
     .exact H w C
     .simp only[ay]at C;exact C▸mT _ hI
 .have hv:En l=false:=by simpa using hv
  rw[hv,aT (by decide),ag (by simp)]
end Go.Proofs.YthghpahghjppjaaGreat