import Derived.Test.YthghpahghjppjaaGreatB6
namespace Go.Proofs.YthghpahghjppjaaGreat
open Go Go.Vc Go.RowKit
set_option synthInstance.maxSize 100000
open Go.IntKind (i64 u64)
def si{α:Type}(f:α->Int)(l:List α)(x:α):List α:=l.takeWhile (λy=>decide (f y<f x))++x::l.dropWhile (λy=>decide (f y<f x))
def oo{α:Type}(f:α->Int)(l:List α):Prop:=(l.map f).Pairwise (· < ·)
theorem arf{α}(f){l:List α}{x:α}{j:Nat}(R:∀y∈l.take j,f y<f x)(K:∀y∈l.drop j,¬f y<f x):l.take j++x::l.drop j=si f l x:=by
 unfold si
 have key:∀(a b:List α),(∀y∈a,f y<f x)->(∀y∈b,¬f y<f x)->(a++b).takeWhile (λy=>decide (f y<f x))=a/\(a++b).dropWhile (λy=>decide (f y<f x))=b:=by
  intro a;induction a with
  |nil=>
   intro b _ hb;cases b with
   |nil=>exact⟨rfl,rfl⟩
   |cons y b=>have:=hb y (by simp);rw[da,oD,yT,an this];exact⟨rfl,rfl⟩
  |cons y a H=>intro b G hb;have:=G y (by simp);rw[jk,oD,yT,ap this];have⟨F,C⟩:=H b (λz J=>G z (by simp[J])) hb;exact⟨by rw[ah rfl,F],by rw[ah rfl,C]⟩
 have⟨F,C⟩:=key (l.take j) (l.drop j) R K;rw[jU]at F C;rw[F,C]
theorem xB{α}{f}{l:List α}{x y:α}:y∈si f l x↔y=x\/y∈l:=by
 unfold si;rw[aX,aG];constructor
 .rintro(h|h|h)
  .exact .inr (vr _ |>.subset h)
  .exact .inl h
  .exact .inr (List.dropWhile_sublist _ |>.subset h)
 .rintro(h|h)
  .exact .inr (.inl h)
  .rw[<-gV (p:=λy=>decide (f y<f x)) (l:=l),aX]at h;rcases h with h|h
   .exact .inl h
   .exact .inr (.inr h)
theorem u_{α}(f)(l:List α)(x:α):(si f l x).length=l.length+1:=by unfold si;have:=bQ List.length (gV (p:=λy=>decide (f y<f x)) (l:=l));rw[aq]at this;rw[aq,aJ];omega
theorem avg{α}{f}{l:List α}(h:oo f l){j:Nat}(G:j<l.length):(∀y∈l.take j,f y<f l[j])/\∀y∈l.drop j,¬f y<f l[j]:=by
 unfold oo at h;rw[nO,bP]at h;constructor
 .intro y C;obtain⟨k,F,rfl⟩:=dr.1 C;rw[aY]at F;rw[jC];exact h k j (by omega) G (by omega)
 .intro y C;obtain⟨k,F,rfl⟩:=dr.1 C;rw[dP]at F;rw[Ca];rcases fb k with rfl|H
  .simp
  .have:=h j (j+k) G (by omega) (by omega);omega
theorem anL{α}{p}:∀{l:List α} {y:α},y∈l.takeWhile p->p y=true
 |[],_,h=>by cases h
 |a::l,y,h=>by
  rw[oD]at h;by_cases e:p a=true
  .rw[ah e]at h;rcases aG.1 h with rfl|h
   .exact e
   .exact anL h
  .rw[ag e]at h;cases h
theorem Le{α}{f}{l:List α}{x:α}(h:oo f l)(J:∀y∈l,f y≠f x):oo f (si f l x):=by
 unfold si oo;have e:=gV (p:=λy=>decide (f y<f x)) (l:=l);have K:∀y∈l.takeWhile (λy=>decide (f y<f x)),f y<f x:=λy j=>by simpa using anL j
 unfold oo at h;rw[<-e,cC]at h;have⟨Y,F,X⟩:=dv.1 h
 have W:∀y∈l.dropWhile (λy=>decide (f y<f x)),f x<f y:=by
  intro y j;have G:=List.dropWhile_sublist _ |>.subset j;have R:=J y G;cases C:l.dropWhile (λy=>decide (f y<f x))with
  |nil=>rw[C]at j;cases j
  |cons z zs=>
   have hz:¬f z<f x:=by have:=List.head?_dropWhile_not (λy=>decide (f y<f x)) l;rw[C]at this;simpa using this
   rw[C]at j F;rcases aG.1 j with rfl|j
   .omega
   .rw[bK,bz]at F;have:=F.1 (f y) (db j);omega
 rw[cC,bK];refine dv.2 ⟨Y,bz.2 ⟨?_,F⟩,?_⟩
 .intro k V;obtain⟨y,j,rfl⟩:=aN.1 V;exact W y j
 .intro a H b hb;obtain⟨y,j,rfl⟩:=aN.1 H;rcases aG.1 hb with rfl|hb
  .exact K y j
  .exact X _ H _ hb
theorem rc{α}{f:α->Int}{l:List α}{id:Int}(h:l.find? (λy=>f y==id)=none):∀y∈l,f y≠id:=λy j=>by have:=jf.1 h y j;simpa using this
theorem aby{s}(h:s.length<=1000000):tS s=some s:=by
 show dY aj s=_;unfold dY;rw[CA];refine xj ?_ λj=>?_
 .refine zp (by decide) ?_;rw[c9];rfl
 .have:s=[]:=by simpa using j
  subst this;rfl
theorem agM{t}{id}(hl:t.length<=1000000):Vr t id=some (yU (λm=>m.1==id) t):=by
 have j:ik id t=some (yU (λm=>m.1==id) t,id,()):=by show cW aj id t=_;exact tX hl (λm=>m.1==id) (λm (c:Int×Unit)=>OG c.1 m) (id,()) λx _=>rfl
 show pk aj t id=_;unfold pk;rw[ai j]
theorem Me(m):qD m=some (if m.2.2.1=0 then 0 else 15):=by
 show jH aj m=_;unfold jH;by_cases h:m.2.2.1=0
 .rw[aB (by simp[h]),ah h]
 .rw[aQ (by simp[h]),ag h]
def Ga(l:List aW)(m:aW):List aW×Int×Unit:=if yp m then(if gX l m.1=none then(si (·.1) l m,0,())else([],12,()))else([],2,())
theorem anM{l:List aW}{m:aW}(hl:l.length<=1000)(hs:oo (·.1) l):TB l m=some (Ga l m):=by
 show xV aj l m=_;unfold xV Ga;rw[ai (JA m)];by_cases hm:yp m
 .rw[ah hm,ah hm,aB (by rfl),ai (agM (by omega))];unfold gX;rcases kT (λa:aW=>a.1==m.1) l with⟨h1,J⟩|⟨k,hk,h1,J,_⟩
  .rw[h1,ah J,aB (by decide),iW,ai (aby (by omega)),c9 (by simp;omega) (by simp;omega)];have K:=rc (f:=λy:aW=>y.1) J;refine bB λk5 R=>?_
   have H:∀j,j<=l.length->(∀y∈l.take j,y.1<m.1)->(∀y∈l.drop j,m.1<y.1)->k5 (l.take j++m::l.drop j,())=some (si (·.1) l m,0,()):=by intro j hj a b;subst R;rw[arf (λy:aW=>y.1) a (λy C=>by have:=b y C;omega)]
   have z0:(i64.wrap (((l++(m::[])).length:Int)-1),l++(m::[]),())=((l.length:Int),l.take l.length++m::l.drop l.length,()):=by rw[aq,mE,ZT (l.length+1),bq,fu];rfl
   rw[z0];refine fR (X:=Int×List aW×Unit) (β:=List aW×Int×Unit) (λz=>z.1.toNat) (λz=>∃j:Nat,j<=l.length/\z=((j:Int),l.take j++m::l.drop j,())/\∀y∈l.drop j,m.1<y.1) (λ_=>some (si (·.1) l m,0,())) ⟨l.length,au _,rfl,by simp⟩ (by dsimp only;omega) ?_;rintro _ ⟨j,hj,rfl,V⟩ W ha;show aj.af (decide ((0:Int)<(j:Int))) (aj.aI (l.take j++m::l.drop j) (i64.wrap ((j:Int)-1)) λx8=>aj.ct (l.take j++m::l.drop j) (Int.toNat (i64.wrap ((j:Int)-1))) _) (k5 (l.take j++m::l.drop j,()))=_;cases j with
   |zero=>rw[aB (by rfl)];exact H 0 (by omega) (by simp) V
   |succ j=>
    have F:j<l.length:=by omega
    have lt:(l.take (j+1)).length=j+1:=by rw[aY];omega
    have ll:(l.take (j+1)++m::l.drop (j+1)).length=l.length+1:=by rw[aq,aJ,dP,lt];omega
    have g0:∀h,(l.take (j+1)++m::l.drop (j+1))[j]'h=l[j]:=by intro h;rw[sE (by omega),jC]
    have g1:∀h,(l.take (j+1)++m::l.drop (j+1))[j+1]'h=m:=by intro h;rw[mR (by omega)];simp[lt]
    rw[eA (by omega),ZT (j+1)];have e1:(j+1-1:Nat)=j:=rfl;rw[e1,bN,iI,g0];refine dh (λhv=>?_) λhv=>?_
    .show aj.aI (l.take (j+1)++m::l.drop (j+1)) ((j+1:Nat):Int) _=_;rw[bN];show aj.aI (l.take (j+1)++m::l.drop (j+1)) (j:Int) _=_;rw[bN];show aj.ct (l.take (j+1)++m::l.drop (j+1)) (Int.toNat ((j+1:Nat):Int)) _=_;rw[iI,g1];show aj.ct (l.take (j+1)++m::l.drop (j+1)) (Int.toNat (j:Int)) _=_;rw[iI,g0];show aj.aI (l.take (j+1)++m::l.drop (j+1)) (j:Int) _=_;rw[bN];show aj.ct (l.take (j+1)++m::l.drop (j+1)) (Int.toNat (j:Int)) _=_;rw[iI];have sl:((l.take (j+1)++m::l.drop (j+1)).set (Int.toNat (j:Int)) m).length=l.length+1:=by rw[ft,ll]
     show aj.aI ((l.take (j+1)++m::l.drop (j+1)).set (Int.toNat (j:Int)) m) ((j+1:Nat):Int) _=_;rw[bN];show aj.ct ((l.take (j+1)++m::l.drop (j+1)).set (Int.toNat (j:Int)) m) (Int.toNat ((j+1:Nat):Int)) _=_;rw[iI]
     have er:((l.take (j+1)++m::l.drop (j+1)).set (Int.toNat (j:Int)) m).set (Int.toNat ((j+1:Nat):Int)) l[j]=l.take j++m::l.drop j:=by
      rw[aP,aP,aw F,cn F,bn];have Y:(l.take j).length=j:=by rw[aY];omega
      have q1:(l.take j++([l[j]]++m::l.drop (j+1))).set j m=l.take j++([m]++m::l.drop (j+1)):=by rw[ql _ _ (by omega),Y,zn];rfl
      rw[q1,ql _ _ (by omega),Y,show j+1-j=1 by omega];rfl
     dsimp only;rw[er];refine ha _ ⟨j,by omega,rfl,?_⟩ (by dsimp only;omega);intro y C;rw[cn F]at C;rcases aG.1 C with rfl|C
     .exact hv
     .exact V y C
    .refine H (j+1) hj ?_ V;intro y C;have hn:=K l[j] (aF F);have G:l[j].1<m.1:=by omega
     rw[aw F,aX]at C;rcases C with C|C
     .have:=(avg hs F).1 y C;exact E6 this G
     .simp only[ax]at C;subst C;exact G
  .rw[h1,ag (by rw[J];simp),eA (by omega)]
 .rw[ag hm,ag hm,aQ (by rfl)]
def FE{α:Type}(f:α->Int)(l:List α)(x:α):List α:=l.map λy=>if f y=f x then x else y
theorem agN{α}(f){l}{x:α}(hs:oo f l){k:Nat}(y:k<l.length)(h:f l[k]=f x):l.set k x=FE f l x:=by
 unfold FE;refine D6 (by simp) λi j C=>?_
 rw[ft]at j;rw[oZ,D7];by_cases e:k=i
 .subst e;rw[ah rfl,ah h]
 .rw[ag e];unfold oo at hs;rw[nO,bP]at hs;rw[ag];intro F;rcases s7 e with g|g
  .have:=hs k i y j g;omega
  .have:=hs i k j y g;omega
def yr(l:List aW)(m:aW):List aW×Int×Unit:=if yp m then(if gX l m.1=none then([],11,())else(FE (·.1) l m,0,()))else([],2,())
theorem abz{l}{m:aW}(hl:l.length<=1000)(hs:oo (·.1) l):TC l m=some (yr l m):=by
 show tw aj l m=_;unfold tw yr;rw[ai (JA m)];by_cases hm:yp m
 .rw[ah hm,ah hm,aB (by rfl),ai (agM (by omega))];unfold gX;rcases kT (λa:aW=>a.1==m.1) l with⟨h1,j⟩|⟨k,hk,h1,j,C⟩
  .rw[h1,ah j,aQ (by decide)]
  .rw[h1,ag (by rw[j];simp),cQ (by omega),ai (aby (by omega)),bN hk,iI hk,aP,agN (λy:aW=>y.1) hs hk (by simpa using C)]
 .rw[ag hm,ag hm,aQ (by rfl)]
open sH uj uk ul um uo
def jR{α:Type}(f:α->Int)(l:List α)(k:Int):Nat:=(l.takeWhile λy=>decide (f y<k)).length
theorem BM{α}(f)(l:List α)(k:Int):jR f l k<=l.length:=(vr _).length_le
theorem WG{α}(f)(k):∀l:List α,l.take (jR f l k)=l.takeWhile (λy=>decide (f y<k))/\l.drop (jR f l k)=l.dropWhile (λy=>decide (f y<k))
 |[]=>⟨rfl,rfl⟩
 |a::l=>by
  unfold jR;rw[oD,yT];have⟨C,j⟩:=WG f k l;by_cases h:f a<k
  .rw[ap h,ah rfl,ah rfl,aJ,oB,rZ];exact⟨bQ _ C,j⟩
  .rw[an h];exact⟨rfl,rfl⟩
theorem Mf{α}(f)(l:List α)(x:α):l.take (jR f l (f x))++x::l.drop (jR f l (f x))=si f l x:=by have⟨y,j⟩:=WG f (f x) l;rw[y,j];rfl
theorem uR{α}{f}(k):∀{l:List α} (_:oo f l) {j:Nat} (C:j<l.length),f l[j]<k↔j<jR f l k
 |[],_,j,C=>by cases C
 |a::l,hs,j,C=>by
  unfold oo at hs;rw[bK,bz]at hs;unfold jR;rw[oD];cases j with
  |zero=>
   by_cases h:f a<k
   .rw[ap h,ah rfl];simp[h]
   .rw[an h];simp[h]
  |succ j=>
   have y:j<l.length:=by simpa using C
   have F:=uR (f:=f) k (l:=l) hs.2 y;by_cases h:f a<k
   .rw[ap h,ah rfl,aJ,vA];unfold jR at F;omega
   .rw[an h,vA];have:=hs.1 (f l[j]) (db (aF y));simp;omega
theorem Mg{α}{f}{l:List α}(hs:oo f l)(k:Int):
 (∃h:jR f l k<l.length,f l[jR f l k]=k/\l.find? (λy=>f y==k)=some l[jR f l k])\/(l.find? (λy=>f y==k)=none/\∀h:jR f l k<l.length,k<f l[jR f l k]):=by
 by_cases h:jR f l k<l.length
 .have R:=mt (uR k hs h).1 (by omega);by_cases e:f l[jR f l k]=k
  .refine .inl ⟨h,e,?_⟩;rw[w9];refine⟨by simpa using e,_,h,rfl,λj F=>?_⟩;have:=(uR k hs (show j<l.length by omega)).2 F;simp;omega
  .refine .inr ⟨?_,λ_=>by omega⟩;rw[jf];intro y G;obtain⟨j,F,rfl⟩:=dr.1 G;simp only[fW];intro H;have J:=mt (uR k hs F).2 (by omega);have C:=hs;unfold oo at C;rw[nO,bP]at C;rcases dI (jR f l k) j with g|g
   .have:=C _ _ h F g;omega
   .have:j=jR f l k:=by omega
    subst this;exact e H
 .refine .inr ⟨?_,λK=>absurd K h⟩;rw[jf];intro y G;obtain⟨j,F,rfl⟩:=dr.1 G;simp only[fW];intro H;have J:=mt (uR k hs F).2 (by omega);omega
theorem avh(x y):Pg x y=some (C1 x y):=YF x y
theorem avi{l}{k:Int}(hs:oo (·.1) l)(hl:l.length<=1000):∃b,ko l k=some (((((jR (·.1) l k):Nat):Int),b,()),()):=by
 show ∃b,c8 aj l k=_;have J:=BM (λy:bh=>y.1) l k;have H:∀x:bh,JI x k=some (C1 x.1 k):=λx=>by show tx aj x k=_;unfold tx;rw[ai (avh _ _)]
 refine nW (X:=Int×Int×Unit) (β:=(Int×Bool×Unit)×Unit) (λo=>∃b,o=some (((((jR (·.1) l k):Nat):Int),b,()),())) (λz=>(z.2.1-z.1).toNat) (λz=>∃i j:Nat,z=((i:Int),(j:Int),())/\i<=jR (·.1) l k/\jR (·.1) l k<=j/\j<=l.length) ⟨0,l.length,rfl,bE _,J,au _⟩ (by dsimp only;omega) ?_;rintro _ ⟨i,j,rfl,h1,h2,h3⟩ C R
 show ∃b,aj.af (decide ((i:Int)<(j:Int))) (aj.iV 1 (aj.aI l (i64.wrap (Int.fdiv (u64.wrap (i64.wrap ((i:Int)+(j:Int)))) (2 ^ (min (Int.toNat 1) u64.bits)))) λW=>aj.ae (JI W k) λv4=>
  aj.af (decide (v4<0)) (C (i64.wrap (i64.wrap (Int.fdiv (u64.wrap (i64.wrap ((i:Int)+(j:Int)))) (2 ^ (min (Int.toNat 1) u64.bits)))+1),(j:Int),())) (C ((i:Int),i64.wrap (Int.fdiv (u64.wrap (i64.wrap ((i:Int)+(j:Int)))) (2 ^ (min (Int.toNat 1) u64.bits))),()))))
  (aj.af (decide ((i:Int)<(l.length:Int))) (aj.aI l (i:Int) λV=>aj.ae (JI V k) λY=>some (((i:Int),Y==0,()),())) (some (((i:Int),false,()),())))=_
 rw[atn i j (by omega)];by_cases hij:i<j
 .have hh:(i+j) / 2<l.length:=by omega
  rw[eA (by omega),ud (by decide),bN hh,ai (H _)];have G:=uR k hs hh;by_cases F:l[(i+j) / 2].1<k
  .have K:C1 l[(i+j) / 2].1 k<0:=by unfold C1;rw[ah F];decide
   rw[eA K,cJ _];have:=G.1 F;exact R _ ⟨(i+j) / 2+1,j,rfl,by omega,h2,h3⟩ (by dsimp only;omega)
  .have K:¬C1 l[(i+j) / 2].1 k<0:=by unfold C1;rw[ag F];split<;>decide
   rw[cQ K];have:¬(i+j) / 2<jR (·.1) l k:=λh=>F (G.2 h)
   exact R _ ⟨i,(i+j) / 2,rfl,h1,by omega,by omega⟩ (by dsimp only;omega)
 .have hi:i=jR (·.1) l k:=by omega
  subst hi;rw[cQ (by omega)];by_cases hi:jR (·.1) l k<l.length
  .rw[eA (by omega),bN hi,ai (H _)];exact⟨_,rfl⟩
  .rw[cQ (by omega)];exact⟨_,rfl⟩
theorem WH{s}(h:s.length<=1000000):vH s=some s:=by
 show eH aj s=_;unfold eH;rw[CA];refine xj ?_ λj=>?_
 .refine zp (by decide) ?_;rw[c9];rfl
 .have:s=[]:=by simpa using j
  subst this;rfl
def RH(l:List bh)(k:Int):Option bh:=l.find? λy=>y.1==k
def RF(l:List bh)(a:bh):List bh×Int×Unit:=if pn a then(if RH l a.1=none then(si (·.1) l a,0,())else([],12,()))else([],2,())
theorem WI(l)(k):l.any (λy=>y.1==k)=!decide (RH l k=none):=by
 unfold RH;cases h:l.find? λy=>y.1==k with
 |none=>rw[ap rfl];exact kH.2 λy j=>by have:=jf.1 h y j;simpa using this
 |some y=>rw[an (by simp)];exact j9.2 ⟨y,bV h,by simpa using jM h⟩
theorem arh{l}{a:bh}(hl:l.length<=1000)(hs:oo (·.1) l):WJ l a=some (RF l a):=by
 show AI aj l a=_;unfold AI RF;rw[ai (ad8 a)];by_cases C:pn a
 .rw[ah C,ah C,aB (by rfl)];have⟨x,G⟩:=Wm (l:=l) (id:=a.1) (by omega);rw[ai G,WI];by_cases j:RH l a.1=none
  .rw[ah j,ap j,aB (by rfl)];have⟨b,hb⟩:=avi (k:=a.1) hs hl;have F:=BM (λy:bh=>y.1) l a.1;have hi:Gq l ((jR (·.1) l a.1:Nat):Int) [a]=some (si (·.1) l a,()):=by refine(N5 F (by omega)).trans ?_;rw[Mf (λy:bh=>y.1) l a]
   rw[ai hb,iW,ai (WH (by omega)),ai hi]
  .rw[ag j,an j,aQ (by rfl)]
 .rw[ag C,ag C,aQ (by rfl)]
theorem WK{t}{id:Int}(hl:t.length<=1000000)(hs:oo (·.1) t):I0 t id=some ((((jR (·.1) t id):Nat):Int),!decide (fj t id=none),()):=by
 have V:=BM (λy:az=>y.1) t id;have F:=Mg hs id;refine fR (X:=Int×Unit) (β:=Int×Bool×Unit) (λz=>t.length+1-z.1.toNat) (λz=>∃j:Nat,j<=jR (·.1) t id/\z=((j:Int),())) (λ_=>some ((((jR (·.1) t id):Nat):Int),!decide (fj t id=none),())) ⟨0,bE _,rfl⟩ (by dsimp only;omega) ?_;rintro _ ⟨j,Y,rfl⟩ K W;by_cases h:j<t.length
 .rw[dk h,bN h];have C:=uR id hs h;by_cases R:id<=t[j].1
  .have e:j=jR (·.1) t id:=by have:=mt C.2 (by omega);omega
   subst e;rw[eA R];dsimp only;rcases F with⟨_,H,G⟩|⟨H,G⟩
   .have:fj t id=some t[jR (·.1) t id]:=G;rw[this,an (by simp),show(t[jR (·.1) t id].1==id)=true by simpa using H];rfl
   .have J:fj t id=none:=H;have:=G h;rw[J,ap rfl,show(t[jR (·.1) t id].1==id)=false by simp;omega];rfl
  .rw[cQ R];dsimp only;rw[cJ j];have:=C.1 (by omega);exact W _ ⟨j+1,by omega,rfl⟩ (by dsimp only;omega)
 .have e:j=t.length:=by omega
  have G:jR (·.1) t id=t.length:=by omega
  subst e;rw[dT,G];rcases F with⟨h',_⟩|⟨H,_⟩
  .omega
  .have J:fj t id=none:=H;rw[J,ap rfl];rfl
theorem agO{a}(h:a.2.2.2.1.length<=1000000):KL a=some a:=by show mS aj a=_;unfold mS;rw[ai (KM h)]
def ON(l:List az)(a:az):List az×Int×Unit:=if r_ a=true then(if fj l a.1=none then(si (·.1) l a,0,())else([],12,()))else([],2,())
def OO(l:List az)(a:az):List az×Int×Unit:=if r_ a=true then(if fj l a.1=none then([],11,())else(FE (·.1) l a,0,()))else([],2,())
theorem ari{l}{a:az}(hl:qC l)(hs:oo (·.1) l)(F:a.2.2.2.1.length<=1000):anN l a=some (ON l a):=by
 show DE aj l a=_;unfold DE ON;have G:=hl.2;rw[ai (N3 (by omega))];by_cases h:r_ a=true
 .rw[ah h,ah h,aB (by rfl),ai (WK (by omega) hs)];by_cases j:fj l a.1=none
  .rw[ah j,ap j,aB (by rfl),ai (M0 hl),ai (agO (by omega))];have C:=BM (λy:az=>y.1) l a.1;have hi:Cp l ((jR (·.1) l a.1:Nat):Int) [a]=some (si (·.1) l a,()):=by refine(N5 C (by omega)).trans ?_;rw[Mf (λy:az=>y.1) l a]
   rw[ai hi]
  .rw[ag j,an j,aQ (by rfl)]
 .rw[ag h,ag h,aQ (by rfl)]
theorem arj{l}{a:az}(hl:qC l)(hs:oo (·.1) l)(F:a.2.2.2.1.length<=1000):anO l a=some (OO l a):=by
 show DF aj l a=_;unfold DF OO;have G:=hl.2;rw[ai (N3 (by omega))];by_cases h:r_ a=true
 .rw[ah h,ah h,aB (by rfl),ai (WK (by omega) hs)];by_cases j:fj l a.1=none
  .rw[ah j,ap j,aQ (by rfl)]
  .rw[ag j,an j,aB (by rfl),ai (M0 hl),ai (agO (by omega))];rcases Mg hs a.1 with⟨hi,C,_⟩|⟨C,_⟩
   .rw[bN hi,iI hi,aP,agN (λy:az=>y.1) hs hi C]
   .exact absurd C j
 .rw[ag h,ag h,aQ (by rfl)]
def sT(l:List az)(u:ar):Int:=match l.find? λa=>zE a u with|some a=>a.2.1|none=>0
theorem QS{l}{u}(h:qC l):aej l u=some (sT l u):=by
 have hl:=h.2;refine gB (l:=l) (by omega) (λi _=>∀a∈l.take i,True) (λt _=>some (sT t u)) (s0:=()) (λ_ _=>trivial) ?_ ?_
 .intro s j _;refine FQ ?_;rfl
 .intro i hi s _ j y;refine Ii hi ?_;rw[bN hi,ai (Q' (h.1 _ (aF hi)))];unfold sT;rw[kP];by_cases hv:zE l[i] u=true
  .rw[hv,aQ (by rfl)]
  .have hv:zE l[i] u=false:=by simpa using hv
   rw[hv,aB (by rfl)];dsimp only;rw[cJ i,y () λ_ _=>trivial];rfl
def Up(l:List bH):Prop:=(∀i∈l,i.2.2.2.2.1.length<=1000)/\l.length<=1000
theorem Oh{l}(h:Up l):Ph l=some l:=by
 have hl:=h.2;refine qp (X:=Int×List bH×Unit) (N:=l.length) (by omega) (λi=>((i:Int),l.take i,())) _ rfl ?_ ?_
 .intro j;refine FQ ?_;rw[bq]
 .intro i hi j y;have hm:=h.1 _ (aF hi);rw[dk hi,bN hi,ai (N9 (by omega))];show aj.bg ((l.take i).length+1) 56 (j (i64.wrap ((i:Int)+1),l.take i++[l[i]],()))=_;rw[c9 (by rw[aY];omega) (by rw[aY];omega),cJ i,<-aw hi];exact y
theorem avj{α}{f}{l:List α}{k:Int}(hs:oo f l)(C:∀y∈l,f y≠k):(yU (λy=>decide (k<f y)) l = -1/\jR f l k=l.length)\/(jR f l k<l.length/\yU (λy=>decide (k<f y)) l=(jR f l k:Int)):=by
 have H:=BM f l k;by_cases h:jR f l k<l.length
 .refine .inr ⟨h,?_⟩;unfold yU
  have:l.findIdx? (λy=>decide (k<f y))=some (jR f l k):=by
   rw[ez];refine⟨h,?_,λj F=>?_⟩
   .have K:=mt (uR k hs h).1 (by omega);have J:=C _ (aF h);simp;omega
   .have:=(uR k hs (show j<l.length by omega)).2 F;simp;omega
  rw[this]
 .refine .inl ⟨?_,by omega⟩;unfold yU;have:l.findIdx? (λy=>decide (k<f y))=none:=by rw[gg];intro y G;obtain⟨j,F,rfl⟩:=dr.1 G;have:=(uR k hs F).2 (by omega);simp;omega
  rw[this]
def Jh(l:List bH)(i:bH):List bH×Int×Unit:=if Ql i then(if oE l i.1=none then(si (·.1) l i,0,())else([],12,()))else([],2,())
theorem anP{l}{i:bH}(hl:Up l)(hs:oo (·.1) l)(hi:i.2.2.2.2.1.length<=1000):ab0 l i=some (Jh l i):=by
 show DG aj l i=_;unfold DG Jh;have j:=hl.2;rw[ai (QP (by omega))];by_cases ho:Ql i
 .rw[ah ho,ah ho,aB (by rfl),ai (Tn (by omega))];unfold oE;rcases kT (λa:bH=>a.1==i.1) l with⟨h1,j⟩|⟨k,hk,h1,j,_⟩
  .rw[h1,ah j,aB (by decide)];have H:=rc (f:=λy:bH=>y.1) j;have G:oS i.1 i.2.1 i.2.2.1 i.2.2.2.1 i.2.2.2.2.1 l=some (yU (λy=>decide (i.1<y.1)) l,i):=by show eG aj i.1 i.2.1 i.2.2.1 i.2.2.2.1 i.2.2.2.2.1 l=_;exact tX (s:=l) (C:=bH) (by omega) (λy=>decide (i.1<y.1)) (λ(y c:bH)=>aek c.1 c.2.1 c.2.2.1 c.2.2.2.1 c.2.2.2.2.1 y) i λx _=>rfl
   rw[ai G];refine bB λk8 K=>?_
   have F:k8 ((jR (·.1) l i.1:Nat),())=some (si (·.1) l i,0,()):=by
    subst K;have J:=BM (λy:bH=>y.1) l i.1;have R:Ez l ((jR (·.1) l i.1:Nat):Int) [i]=some (si (·.1) l i,()):=by refine(N5 J (by omega)).trans ?_;rw[Mf (λy:bH=>y.1) l i]
    show aj.ae (Ph l) (λY=>aj.ae (aaP i) λX=>aj.ae (Ez Y ((jR (·.1) l i.1:Nat):Int) (X::[])) λW=>some (W.1,0,()))=_;rw[ai (Oh hl),ai (N9 (by omega)),ai R]
   rcases avj hs H with⟨G,V⟩|⟨G,V⟩
   .rw[G,aQ (by rfl),<-V];exact F
   .rw[V,cQ (by dsimp only;omega)];exact F
  .rw[h1,ag (by rw[j];simp),eA (by omega)]
 .rw[ag ho,ag ho,aQ (by rfl)]
theorem QU{α}(f:α->Int)(g:α->α){l:List α}(hs:oo f l){k:Nat}(C:k<l.length){id:Int}(h:f l[k]=id):l.set k (g l[k])=l.map λy=>if f y=id then g y else y:=by
 refine D6 (by simp) λi j F=>?_
 rw[ft]at j;rw[oZ,D7];by_cases e:k=i
 .subst e;rw[ah rfl,ah h]
 .rw[ag e];unfold oo at hs;rw[nO,bP]at hs;rw[ag];intro G;rcases s7 e with g|g
  .have:=hs k i C j g;omega
  .have:=hs i k j C g;omega
def ak8(p:Int)(i:bH):bH:=(i.1,i.2.1,i.2.2.1,p,i.2.2.2.2)
def Em(l:List bH)(id p:Int):List bH×Int×Unit:=if oE l id=none then([],11,())else if 0<=p/\p<=2147483647 then(l.map λy=>if y.1=id then ak8 p y else y,0,())else([],2,())
theorem ahM{l:List bH}{id p:Int}(hl:Up l)(hs:oo (·.1) l):aiQ l id p=some (Em l id p):=by
 show AJ aj l id p=_;unfold AJ Em;have C:=hl.2;rw[ai (Tn (by omega))];unfold oE;rcases kT (λa:bH=>a.1==id) l with⟨h1,C⟩|⟨k,hk,h1,C,F⟩
 .rw[h1,ah C,aQ (by decide)]
 .rw[h1,ag (by rw[C];simp),cQ (by omega),ai (GC p)];by_cases j:0<=p/\p<=2147483647
  .rw[ap j,ah j,aB (by rfl),ai (Oh hl),bN hk,iI hk,aP];rw[<-QU (λy:bH=>y.1) (ak8 p) hs hk (id:=id) (by simpa using F)];rfl
  .rw[an j,ag j,aQ (by rfl)]
def zY(i:bH):bH:=(i.1,i.2.1,i.2.2.2.1,i.2.2.2)
theorem ab1{l}(hl:Up l):Pj l=some (l.map zY):=by
 show uS aj l=_;unfold uS;have J:=hl.2;rw[ai (Oh hl)];refine qp (X:=Int×List bH×Unit) (N:=l.length) (by omega) (λi=>((i:Int),(l.take i).map zY++l.drop i,())) _ rfl ?_ ?_
 .intro j;refine FQ ?_;rw[bq,fu,cz]
 .intro i hi j H;have C:((l.take i).map zY).length=i:=by rw[bp,aY];omega
  have ll:((l.take i).map zY++l.drop i).length=l.length:=by rw[aq,C,dP];omega
  have G:∀h,((l.take i).map zY++l.drop i)[i]'h=l[i]:=by intro h;rw[mR (by omega),Ca];congr 1;omega
  show aj.af (decide ((i:Int)<(l.length:Int))) (aj.aI ((l.take i).map zY++l.drop i) (i:Int) λ_=>aj.ct ((l.take i).map zY++l.drop i) (Int.toNat (i:Int)) λF=>aj.aI ((l.take i).map zY++l.drop i) (i:Int) λ_=>aj.ct ((l.take i).map zY++l.drop i) (Int.toNat (i:Int)) λy=>j (i64.wrap ((i:Int)+1),((l.take i).map zY++l.drop i).set (Int.toNat (i:Int)) (y.1,y.2.1,F.2.2.2.1,y.2.2.2),())) _=_;rw[dk hi,bN,iI,bN,iI,G,cJ i,aP];have e:((l.take i).map zY++l.drop i).set i (l[i].1,l[i].2.1,l[i].2.2.2.1,l[i].2.2.2)=(l.take (i+1)).map zY++l.drop (i+1):=by rw[ql _ _ (by omega),C,zn,cn hi,aw hi,cC,bn];rfl
  rw[e];exact H
def af0(p:Int)(a:bh):bh:=(a.1,p,a.2.2)
def zW(l:List bh)(id p:Int):List bh×Int×Unit:=if RH l id=none then([],11,())else if 0<=p/\p<=2147483647 then(l.map λy=>if y.1=id then af0 p y else y,0,())else([],2,())
theorem ab2(p):K0 p=some (decide (0<=p/\p<=2147483647)):=by
 refine dh (λh=>?_) λh=>?_
 .congr 1;exact dM.2 (by omega)
 .rw[an (by omega)]
theorem I_{l:List bh}{id p:Int}(hl:l.length<=1000)(hs:oo (·.1) l):YG l id p=some (zW l id p):=by
 show sy aj l id p=_;unfold sy zW;have⟨x,V⟩:=Wm (l:=l) (id:=id) (by omega);rw[ai V,WI];by_cases C:RH l id=none
 .rw[ah C,ap C,aQ (by rfl)]
 .rw[ag C,an C,aB (by rfl),ai (ab2 p)];by_cases F:0<=p/\p<=2147483647
  .rw[ap F,ah F,aB (by rfl),ai (WH (by omega))];refine bB λR H=>?_
   have G:∀t,R (t,())=some (t,0,()):=λt=>by subst H;rfl
   rcases Mg hs id with⟨hi,J,_⟩|⟨J,_⟩
   .refine fR (X:=Int×List bh×Unit) (β:=List bh×Int×Unit) (λz=>l.length+1-z.1.toNat) (λz=>∃j:Nat,j<=jR (·.1) l id/\z=((j:Int),l,())) (λ_=>some (l.map λy=>if y.1=id then af0 p y else y,0,())) ⟨0,bE _,rfl⟩ (by dsimp only;omega) ?_;rintro _ ⟨j,Y,rfl⟩ K W;have h:j<l.length:=by omega
    refine Ii h ?_;rw[bN h,iI h];refine dE (λe=>?_) λe=>?_
    .refine tix h ?_;rw[iI h,<-QU (λy:bh=>y.1) (af0 p) hs h (id:=id) e];exact G _
    .dsimp only;rw[cJ j];have:j≠jR (·.1) l id:=λq=>e (by subst q;exact J)
     exact W _ ⟨j+1,by omega,rfl⟩ (by dsimp only;omega)
   .exact absurd J C
  .rw[an F,ag F,aQ (by rfl)]
def zR(l:List cj)(id:Int):Option cj:=l.find? λy=>y.1==id
def anQ:cj:=(0,(0,0,()),(0,0,()),(0,0,()),0,0,0,0,())
theorem anR{t}{id}(hl:t.length<=1000000):ark t id=some (yU (λm=>m.1==id) t):=by
 have j:o7 id t=some (yU (λm=>m.1==id) t,id,()):=by show eI aj id t=_;exact tX hl (λm=>m.1==id) (λm (c:Int×Unit)=>aiR c.1 m) (id,()) λx _=>rfl
 show DH aj t id=_;unfold DH;rw[ai j]
theorem TE{t}{id}(hl:t.length<=1000000):WL t id=some (match zR t id with|some i=>(i,true,())|none=>(anQ,false,())):=by
 show s5 aj t id=_;unfold s5;rw[ai (anR hl)];unfold zR;rcases kT (λm:cj=>m.1==id) t with⟨h1,j⟩|⟨k,hk,h1,j,_⟩
 .rw[h1,j,aQ (by decide)];rfl
 .rw[h1,j,cQ (by omega),bN hk]
theorem anS{s}(h:s.length<=1000000):xW s=some s:=by
 show fS aj s=_;unfold fS;rw[CA];refine xj ?_ λj=>?_
 .refine zp (by decide) ?_;rw[c9];rfl
 .have:s=[]:=by simpa using j
  subst this;rfl
def C8(l:List cj):Int:=match l.getLast? with|some g=>g.1|none=>0
def ak5(id:Int)(g:cj)(day:Int):cj:=(id,U5 g.2 (day+8,1,()))
def Lh(l:List cj)(g:cj)(day:Int):List cj×Int×Int×Unit:=if g.2.1=g.2.2.1 then([],0,24,())else if g.2.2.2.1.2.1=0\/day<0\/1048576<day then([],0,2,())else if 64<=l.length then([],0,25,())else(l++[ak5 (1+C8 l) g day],1+C8 l,0,())
theorem arl{l}{g}{day}(hl:l.length<=1000)(hi:∀x∈l,0<=x.1/\x.1<=1048576):anT l g day=some (Lh l g day):=by
 show DI aj l g day=_;unfold DI Lh;rw[tW];by_cases J:g.2.1=g.2.2.1
 .rw[ah J,eA J]
 .rw[ag J,cQ J];refine bB λV F=>?_
  have j:V (true,())=some ([],0,2,()):=by subst F;rfl
  have K:(0<=day/\day<=1048576)->V (false,())=some (if 64<=l.length then([],0,25,())else(l++[ak5 (1+C8 l) g day],1+C8 l,0,())):=by
   intro hd;subst F;refine zp (by rfl) ?_;by_cases W:64<=l.length
   .rw[eA (by omega),ah W]
   .rw[cQ (by omega),ag W];have w8:i64.wrap (day+8)=day+8:=bF _ (by omega);have H:∀id:Int,aj.af (((l.length:Int)==(l.length:Int))&&((l.length:Int)==(l.length:Int))) (aj.bg (l.length+((id,U5 g.2 (i64.wrap (day+8),(1:Int),()))::[]).length) 88 (some (l++((id,U5 g.2 (i64.wrap (day+8),(1:Int),()))::[]),id,(0:Int),()))) none=some (l++[ak5 id g day],id,(0:Int),()):=by intro id;rw[aQ (by simp),c9 (by simp;omega) (by simp;omega),w8];rfl
    refine bB λk3 G=>?_
    by_cases h0:0<l.length
    .have e:=ZT l.length;have C:l.length-1<l.length:=by omega
     have y:C8 l=l[l.length-1].1:=by unfold C8;rw[List.getLast?_eq_getElem?,ay C]
     have hb:=hi _ (aF C);rw[eA (by omega),e,bN C,bF (1+l[l.length-1].1) (by omega),<-y];subst G;exact H (1+C8 l)
    .have:l=[]:=ff (by omega);subst this;rw[aB (by rfl)];subst G;have e:(1:Int)+C8 []=1:=rfl;rw[e];exact H 1
  refine dE (λY=>?_) λY=>?_
  .rw[j,ah (.inl Y)]
  .refine dh (λX=>?_) λX=>?_
   .rw[j,ah (.inr (.inl X))]
   .by_cases R:1048576<day
    .rw[ap R,j,ah (.inr (.inr R))]
    .rw[an R,K (by omega),ag (show ¬(g.2.2.2.1.2.1=0\/day<0\/1048576<day)by omega)]
def RM(st:Int)(g:cj):cj:=U7 g (st,())
def eL(l:List cj)(id st:Int):List cj×Int×Unit:=
 match zR l id with
 |none=>([],11,())
 |some g=>if st<2\/5<st then([],2,())else if g.2.2.2.2.2.2.2.1=1 then(l.map λy=>if y.1=id then RM st y else y,0,())else([],13,())
theorem ab3{l}{id st:Int}(hl:l.length<=1000)(hs:oo (·.1) l):aiS l id st=some (eL l id st):=by
 show wM aj l id st=_;unfold wM eL zR;rw[ai (anR (by omega))];rcases kT (λm:cj=>m.1==id) l with⟨h1,H⟩|⟨k,hk,h1,H,R⟩
 .rw[h1,H,aQ (by decide)]
 .rw[h1,H,cQ (by omega)];refine bB λJ C=>?_
  have j:J (true,())=some ([],2,()):=by subst C;rfl
  have F:J (false,())=some (if l[k].2.2.2.2.2.2.2.1=1 then(l.map λy=>if y.1=id then RM st y else y,0,())else([],13,())):=by
   subst C;refine zp (by rfl) ?_;rw[bN hk];by_cases h:l[k].2.2.2.2.2.2.2.1=1
   .rw[ah h,gY h,ai (anS (by omega)),bN hk,iI hk,aP,<-QU (λy:cj=>y.1) (RM st) hs hk (id:=id) (by simpa using R)];rfl
   .rw[ag h,fz h]
  dsimp only;refine dh (λK=>?_) λK=>?_
  .rw[j,ah (.inl K)]
  .by_cases G:5<st
   .rw[ap G,j,ah (.inr G)]
   .rw[an G,F,ag (show ¬(st<2\/5<st)by omega)]
def xE(l:List cj)(p:cj->Bool):List Int:=(l.filter λg=>(g.2.2.2.2.2.2.2.1==1)&&p g).map (·.1)
theorem TF(l)(p)(g):xE (l++[g]) p=if((g.2.2.2.2.2.2.2.1==1)&&p g)=true then xE l p++[g.1]else xE l p:=by
 unfold xE;rw[e8,bw,p8];split
 .rw[cC];rfl
 .rw[cz]
theorem Da(l)(p):(xE l p).length<=l.length:=by unfold xE;rw[bp];exact cR _ _
theorem anU{l}{day}(hl:l.length<=1000):WM l day=some (xE l λg=>decide (g.2.2.2.2.2.2.1<day)):=by
 show AK aj l day=_;unfold AK
 have e:GN day l=some (xE l λg=>decide (g.2.2.2.2.2.2.1<day),day,()):=by
  show mB aj day l=_;refine qp (X:=Int×Int×List Int×Unit) (N:=l.length) (by omega) (λi=>((i:Int),day,xE (l.take i) λg=>decide (g.2.2.2.2.2.2.1<day),())) _ rfl ?_ ?_
  .intro j;refine FQ ?_;rw[bq]
  .intro i hi j C;refine Ii hi ?_;rw[aw hi,TF]at C;have W:=Da (l.take i) (λg=>decide (g.2.2.2.2.2.2.1<day));rw[aY]at W;generalize xE (l.take i) (λg=>decide (g.2.2.2.2.2.2.1<day))=P at *;refine bB λV H=>?_
   have G:∀Q,V (day,Q,())=j (((i+1:Nat):Int),day,Q,()):=λQ=>by subst H;dsimp only;rw[cJ i]
   clear H;refine tix hi ?_;refine bB λR y=>?_
   have K:R (true,day,P,())=j (((i+1:Nat):Int),day,P++[l[i].1],()):=by subst y;show aj.af true (aj.bg (P.length+1) 8 (V (day,P++[l[i].1],()))) _=_;rw[aQ rfl,c9,G]
   have F:R (false,day,P,())=j (((i+1:Nat):Int),day,P,()):=by subst y;show aj.af false _ (V (day,P,()))=_;rw[aB rfl,G]
   clear y;refine dE (λh=>?_) λh=>?_
   .show R (decide (l[i].2.2.2.2.2.2.1<day),day,P,())=_;by_cases J:l[i].2.2.2.2.2.2.1<day
    .rw[ap J,K];rw[ah (by simp[h,J])]at C;exact C
    .rw[an J,F];rw[ag (by simp[J])]at C;exact C
   .dsimp only;rw[F];rw[ag (by simp[h])]at C;exact C
 rw[ai e]
theorem atv{l}{u}(hl:l.length<=1000):afw l u=some (xE l λg=>decide (g.2.1=u)||decide (g.2.2.1=u)):=by
 show GO aj l u=_;unfold GO
 have R:∀g:cj,aiT u.1 u.2.1 g=some ((decide (g.2.1=u)||decide (g.2.2.1=u)),u):=by
  intro g;show AL aj u.1 u.2.1 g=_;unfold AL;rw[tW g.2.1 u,tW g.2.2.1 u];by_cases h:g.2.1=u
  .rw[ap h,aQ rfl];rfl
  .rw[an h,aB rfl];rfl
 have e:JJ u.1 u.2.1 l=some (xE l λg=>decide (g.2.1=u)||decide (g.2.2.1=u),u):=by
  show oA aj u.1 u.2.1 l=_;refine qp (X:=Int×Int×Int×List Int×Unit) (N:=l.length) (by omega) (λi=>((i:Int),u.1,u.2.1,xE (l.take i) λg=>decide (g.2.1=u)||decide (g.2.2.1=u),())) _ rfl ?_ ?_
  .intro j;refine FQ ?_;rw[bq]
  .intro i hi j C;refine Ii hi ?_;rw[aw hi,TF]at C;have K:=Da (l.take i) (λg=>decide (g.2.1=u)||decide (g.2.2.1=u));rw[aY]at K;generalize xE (l.take i) (λg=>decide (g.2.1=u)||decide (g.2.2.1=u))=P at *;refine bB λW H=>?_
   have G:∀Q,W (u.1,u.2.1,Q,())=j (((i+1:Nat):Int),u.1,u.2.1,Q,()):=λQ=>by subst H;dsimp only;rw[cJ i]
   clear H;refine tix hi ?_;refine bB λV y=>?_
   have J:V (true,u.1,u.2.1,P,())=j (((i+1:Nat):Int),u.1,u.2.1,P++[l[i].1],()):=by subst y;show aj.af true (aj.bg (P.length+1) 8 (W (u.1,u.2.1,P++[l[i].1],()))) _=_;rw[aQ rfl,c9,G]
   have F:V (false,u.1,u.2.1,P,())=j (((i+1:Nat):Int),u.1,u.2.1,P,()):=by subst y;refine zp rfl ?_;rw[G]
   clear y;refine dE (λh=>?_) λh=>?_
   .refine vC (R _) ?_;dsimp only;cases Y:(decide (l[i].2.1=u)||decide (l[i].2.2.1=u))with
    |true=>rw[J];rw[Y,ah (by simp[h])]at C;exact C
    |false=>rw[F];rw[Y,ag (by simp)]at C;exact C
   .dsimp only;rw[F];rw[ag (by simp[h])]at C;exact C
 rw[ai e]
def zT(l:List bR)(id:Int):Option bR:=l.find? λy=>y.1==id
def asL:bR:=(0,(0,0,()),0,0,0,())
theorem ael{t}{id}(hl:t.length<=1000000):anV t id=some (yU (λm=>m.1==id) t):=by
 have j:n2 id t=some (yU (λm=>m.1==id) t,id,()):=by show dV aj id t=_;exact tX hl (λm=>m.1==id) (λm (c:Int×Unit)=>aem c.1 m) (id,()) λx _=>rfl
 show wN aj t id=_;unfold wN;rw[ai j]
theorem ab4{t}{id}(hl:t.length<=1000000):aen t id=some (match zT t id with|some i=>(i,true,())|none=>(asL,false,())):=by
 show tz aj t id=_;unfold tz;rw[ai (ael hl)];unfold zT;rcases kT (λm:bR=>m.1==id) t with⟨h1,j⟩|⟨k,hk,h1,j,_⟩
 .rw[h1,j,aQ (by decide)];rfl
 .rw[h1,j,cQ (by omega),bN hk]
theorem ab5{s}(h:s.length<=1000000):og s=some s:=by
 show eJ aj s=_;unfold eJ;rw[CA];refine xj ?_ λj=>?_
 .refine zp (by decide) ?_;rw[c9];rfl
 .have:s=[]:=by simpa using j
  subst this;rfl
def lH(q:Int):Prop := -1099511627776<=q/\q<=1099511627776
instance (q:Int):Decidable (lH q):=by unfold lH;infer_instance
theorem TG(q):YH q=some (decide (lH q)):=by
 show n3 aj q=_;unfold n3;by_cases h : -1099511627776<=q
 .rw[eA h];congr 1;exact dM.2 ⟨λj=>⟨h,j⟩,λh=>h.2⟩
 .rw[cQ h,an λq=>h q.1]
def kD(q:Int)(g:bR):bR:=U4 g (q,())
theorem ab6{l}{k}{q id:Int}(hl:l.length<=1000)(hs:oo (·.1) l)(j:k<l.length)(h:l[k].1=id):aeo l (k:Int) q=some (l.map λy=>if y.1=id then kD q y else y):=by show tA aj l (k:Int) q=_;unfold tA;rw[ai (ab5 (by omega)),bN j,iI j,aP,<-QU (λy:bR=>y.1) (kD q) hs j h];rfl
def yA(l:List bR)(id q:Int):List bR×Int×Unit:=
 match zT l id with
 |none=>([],11,())
 |some g=>if cy (g.2.2.2.2.1+q)/\lH (g.2.2.2.2.1+q)then(l.map λy=>if y.1=id then kD (g.2.2.2.2.1+q) y else y,0,())else([],7,())
theorem anW{l}{id q}(hl:l.length<=1000)(hs:oo (·.1) l)(X:∀g∈l,cy g.2.2.2.2.1)(V:cy q):aep l id q=some (yA l id q):=by
 show xX aj l id q=_;unfold xX yA zT;rw[ai (ael (by omega))];rcases kT (λm:bR=>m.1==id) l with⟨h1,J⟩|⟨k,hk,h1,J,Y⟩
 .rw[h1,J,aQ (by decide)]
 .have W:=X _ (aF hk);rw[h1,J,cQ (by omega),bN hk,ai (sR (l:=[l[k].2.2.2.2.1,q]) (λx R=>by simp at R;rcases R with rfl|rfl;exact W;exact V) (by simp))];have es:([l[k].2.2.2.2.1,q]:List Int).sum=l[k].2.2.2.2.1+q:=by simp
  rw[es];refine bB λK F=>?_
  have C:K (true,())=some ([],7,()):=by subst F;rfl
  have H:(cP (l[k].2.2.2.2.1+q)).1=l[k].2.2.2.2.1+q->K (false,())=some (l.map λy=>if y.1=id then kD (l[k].2.2.2.2.1+q) y else y,0,()):=by intro e;subst F;refine zp rfl ?_;rw[e,ai (ab6 hl hs hk (by simpa using Y))]
  show _=some (if cy (l[k].2.2.2.2.1+q)/\lH (l[k].2.2.2.2.1+q)then(l.map λy=>if y.1=id then kD (l[k].2.2.2.2.1+q) y else y,0,())else([],7,()));by_cases h:cy (l[k].2.2.2.2.1+q)
  .have j:cP (l[k].2.2.2.2.1+q)=(l[k].2.2.2.2.1+q,0,()):=by unfold cP;rw[ah h]
   rw[aB (by rw[j];rfl),ai (TG _)];by_cases G:lH (l[k].2.2.2.2.1+q)
   .have:lH (cP (l[k].2.2.2.2.1+q)).1:=by rw[j];exact G
    rw[ap this,ah ⟨h,G⟩];exact H (by rw[j])
   .have:¬lH (cP (l[k].2.2.2.2.1+q)).1:=by rw[j];exact G
    rw[an this,ag λq=>G q.2];exact C
  .have j:(cP (l[k].2.2.2.2.1+q)).2.1≠0:=by unfold cP;rw[ag h];decide
   rw[fz j,C,ag λq=>h q.1]
def kh(l:List bR)(id q:Int):List bR×Int×Unit:=
 match zT l id with
 |none=>([],11,())
 |some g=>if q=0\/(g.2.2.2.2.1≠0/\decide (q<0)≠decide (g.2.2.2.2.1<0))then([],2,())else if(0<q/\g.2.2.2.2.1<q)\/(q<0/\q<g.2.2.2.2.1)then([],23,())else(l.map λy=>if y.1=id then kD (g.2.2.2.2.1-q) y else y,0,())
theorem aiU{l}{id q}(hl:l.length<=1000)(hs:oo (·.1) l)(hI:∀g∈l,cy g.2.2.2.2.1)(hq:cy q):Pk l id q=some (kh l id q):=by
 show uT aj l id q=_;unfold uT kh zT;rw[ai (ael (by omega))];rcases kT (λm:bR=>m.1==id) l with⟨h1,W⟩|⟨k,hk,h1,W,h3⟩
 .rw[h1,W,aQ (by decide)]
 .have hg:=hI _ (aF hk);rw[h1,W,cQ (by omega),bN hk];refine bB λX K=>?_
  have F:X (true,())=some ([],2,()):=by subst K;rfl
  have G:(q≠0/\(l[k].2.2.2.2.1=0\/decide (q<0)=decide (l[k].2.2.2.2.1<0)))->X (false,())=some (if(0<q/\l[k].2.2.2.2.1<q)\/(q<0/\q<l[k].2.2.2.2.1)then([],23,())else(l.map λy=>if y.1=id then kD (l[k].2.2.2.2.1-q) y else y,0,())):=by
   intro hz;subst K;refine zp rfl ?_;refine bB λY R=>?_
   have H:Y (true,())=some ([],23,()):=by subst R;rfl
   have J:(¬((0<q/\l[k].2.2.2.2.1<q)\/(q<0/\q<l[k].2.2.2.2.1)))->Y (false,())=some (l.map λy=>if y.1=id then kD (l[k].2.2.2.2.1-q) y else y,0,()):=by
    intro hn
    have hw:i64.wrap (l[k].2.2.2.2.1-q)=l[k].2.2.2.2.1-q:=bF _ (by
     unfold cy at hg hq;rcases hz.2 with h|h
     .omega
     .rw[dM]at h;omega)
    subst R;refine zp rfl ?_;rw[hw,ai (ab6 hl hs hk (by simpa using h3))]
   refine dh (λC=>?_) λC=>?_
   .refine dh (λj=>?_) λj=>?_
    .rw[H,ah (.inl ⟨C,j⟩)]
    .rw[cQ (by omega),J (by omega),ag (by omega)]
   .rw[eA (by omega)];by_cases j:q<l[k].2.2.2.2.1
    .rw[ap j,H,ah (.inr ⟨by omega,j⟩)]
    .rw[an j,J (by omega),ag (by omega)]
  dsimp only;refine dE (λC=>?_) λC=>?_
  .rw[F,ah (.inl C)]
  .refine iS (λj=>?_) λj=>?_
   .rw[G ⟨C,.inl j⟩,ag (show ¬(q=0\/(l[k].2.2.2.2.1≠0/\decide (q<0)≠decide (l[k].2.2.2.2.1<0)))from λh=>h.elim C λh=>h.1 j)]
   .have en:cY true (decide (q<0)==decide (l[k].2.2.2.2.1<0))=decide (decide (q<0)≠decide (l[k].2.2.2.2.1<0)):=by cases decide (q<0)<;>cases decide (l[k].2.2.2.2.1<0)<;>rfl
    rw[en];by_cases V:decide (q<0)=decide (l[k].2.2.2.2.1<0)
    .rw[an (not_not_intro V),G ⟨C,.inr V⟩,ag (show ¬(q=0\/(l[k].2.2.2.2.1≠0/\decide (q<0)≠decide (l[k].2.2.2.2.1<0)))from λh=>h.elim C λh=>h.2 V)]
    .rw[ap V,F,ah (.inr ⟨j,V⟩)]
def Gc(l:List bR):Int:=match l.getLast? with|some g=>g.1|none=>0
def Gd(l:List bR)(g:bR):List bR×Int×Int×Unit:=if g.2.2.2.2.1=0\/¬lH g.2.2.2.2.1 then([],0,2,())else if 64<=l.length then([],0,25,())else(l++[(Gc l+1,g.2)],Gc l+1,0,())
theorem anX{l}{g}(hl:l.length<=1000)(hi:∀x∈l,0<=x.1/\x.1<=1048576):TH l g=some (Gd l g):=by
 show xY aj l g=_;unfold xY Gd;refine bB λV F=>?_
 have C:V (true,())=some ([],0,2,()):=by subst F;rfl
 have J:V (false,())=some (if 64<=l.length then([],0,25,())else(l++[(Gc l+1,g.2)],Gc l+1,0,())):=by
  subst F;refine zp (by rfl) ?_;by_cases W:64<=l.length
  .rw[eA (by omega),ah W]
  .rw[cQ (by omega),ag W];refine bB λX K=>?_
   have G:∀id:Int,X (id,g.2.1.1,g.2.1.2.1,g.2.2)=some (l++[(id,g.2)],id,0,()):=by intro id;subst K;show aj.two (aj.ae (og l) λv3=>aj.bg (v3.length+1) 48 (some (v3++[(id,g.2)],id,0,())))=_;rw[iW,ai (ab5 (by omega)),c9]
   by_cases Y:0<l.length
   .have e:=ZT l.length;have y:l.length-1<l.length:=by omega
    have j:Gc l=l[l.length-1].1:=by unfold Gc;rw[List.getLast?_eq_getElem?,ay y]
    have hb:=hi _ (aF y);rw[eA (by omega),e,bN y,bF (l[l.length-1].1+1) (by omega),<-j];exact G _
   .have:l=[]:=ff (by omega);subst this;rw[aB (by rfl)];exact G 1
 refine dE (λR=>?_) λR=>?_
 .rw[C,ah (.inl R)]
 .rw[ai (TG _)];by_cases H:lH g.2.2.2.2.1
  .rw[ap H,ag (show ¬(g.2.2.2.2.1=0\/¬lH g.2.2.2.2.1)from λh=>h.elim R λh=>h H)];exact J
  .rw[an H,ah (.inr H)];exact C
def rK(m:aW)(day fr:Int):aW×Int×Unit:=if ¬yp m\/day<0\/1048576<day then(Br,2,())else if m.2.2.1=fr then((m.1,m.2.1,m.2.2.1+1,m.2.2.2),0,())else(Br,13,())
theorem TJ(m)(day fr):aeq m day fr=some (rK m day fr):=by
 show qS aj m day fr=_;unfold qS rK;refine bB λH y=>?_
 have j:H (true,())=some (Br,2,()):=by subst y;rfl
 have F:yp m->H (false,())=some (if m.2.2.1=fr then((m.1,m.2.1,m.2.2.1+1,m.2.2.2),0,())else(Br,13,())):=by
  intro hm;subst y;refine zp rfl ?_;by_cases h:m.2.2.1=fr
  .have K:i64.wrap (m.2.2.1+1)=m.2.2.1+1:=bF _ (by unfold yp at hm;omega);rw[gY h,ah h,K]
  .rw[fz h,ag h];rfl
 rw[ai (JA m)];by_cases C:yp m
 .rw[ah C,aB (by rfl)];refine dh (λJ=>?_) λJ=>?_
  .rw[j,ah (.inr (.inl J))]
  .by_cases G:1048576<day
   .rw[ap G,j,ah (.inr (.inr G))]
   .rw[an G,F C,ag (show ¬(¬yp m\/day<0\/1048576<day)from λh=>h.elim (λh=>h C) (by omega))]
 .rw[ag C,aQ (by rfl),j,ah (.inl C)]
def afx(m:aW)(day n:Int):aW×Int×Unit:=if n<0\/16<n then(Br,2,())else if(rK m day 0).2.1=0 then(U3 (rK m day 0).1 (day+n,()),(rK m day 0).2)else rK m day 0
theorem ak7(m)(day n):RS m day n=some (afx m day n):=by
 show xZ aj m day n=_;unfold xZ afx;refine bB λH y=>?_
 have j:H (true,())=some (Br,2,()):=by subst y;rfl
 have F:(0<=n/\n<=16)->H (false,())=some (if(rK m day 0).2.1=0 then(U3 (rK m day 0).1 (day+n,()),(rK m day 0).2)else rK m day 0):=by
  intro R;subst y;refine zp rfl ?_;rw[ai (TJ m day 0)];refine bB λK C=>?_
  by_cases h:(rK m day 0).2.1=0
  .have V:0<=day/\day<=1048576:=by
    unfold rK at h;by_cases c:¬yp m\/day<0\/1048576<day
    .rw[ah c]at h;exact absurd h (by decide)
    .have:¬(day<0\/1048576<day):=λq=>c (.inr q)
     omega
   rw[oJ h,ah h,show i64.wrap (day+n)=day+n from bF _ (by omega)];subst C;rfl
  .rw[pq h,ag h];subst C;rfl
 refine dh (λJ=>?_) λJ=>?_
 .rw[j,ah (.inl J)]
 .by_cases G:16<n
  .rw[ap G,j,ah (.inr G)]
  .rw[an G,F (by omega),ag (show ¬(n<0\/16<n)by omega)]
def N_(m:aW)(day:Int):aW×Int×Unit:=if(rK m day 1).2.1=0 then(if day<=m.2.2.2.1 then(Br,18,())else((rK m day 1).1,0,()))else(Br,(rK m day 1).2)
theorem anY(m)(day):TK m day=some (N_ m day):=by
 show ya aj m day=_;unfold ya N_;rw[ai (TJ m day 1)];refine iS (λh=>?_) λh=>?_
 .rw[ah h];refine dh (λj=>?_) λj=>?_
  .rw[ah j];rfl
  .rw[ag j]
 .rw[ag h];rfl
theorem ahF(m)(day):OR m day=some (rK m day 2):=by show uU aj m day=_;unfold uU;rw[ai (TJ m day 2)]
def ahI(n:Nat)(v:Int):Nat:=if v<0 then n else v.toNat
def Li(d:List bA)(f t:ar):List bA:=d.take (ahI d.length (yU (λc=>decide (nV f c.1)) d))++(f,t,false,())::d.drop (ahI d.length (yU (λc=>decide (nV f c.1)) d))
def Ep(l:List bA)(f t:ar):List bA×Int×Unit:=if Cz l (chP l)=true then(if f=t then([],24,())else(Li (Fi l f) f t,0,()))else([],3,())
theorem aiV{l}{f t}(hl:l.length<=1000):ab7 l f t=some (Ep l f t):=by
 show uW aj l f t=_;unfold uW Ep;rw[ai (agt (by omega))];by_cases h:Cz l (chP l)=true
 .rw[ah h,h,aB (by rfl),tW];by_cases j:f=t
  .rw[ap j,aQ rfl,ah j]
  .rw[an j,aB rfl,ag j,ai (agA (by omega))];have J:(Fi l f).length<=1000:=bU (cR _ _) hl;unfold Li;generalize Fi l f=d at*
   have R:lS f.1 f.2.1 d=some (yU (λc=>decide (nV f c.1)) d,f):=by
    show dz aj f.1 f.2.1 d=_;refine tX (s:=d) (C:=ar) (by omega) (λc=>decide (nV f c.1)) (λc (u:ar)=>UF u.1 u.2.1 c) f λx _=>?_
    exact vC (BJ _ _) rfl
   rw[ai R];refine bB λG y=>?_
   have F:∀p:Nat,p<=d.length->G ((p:Int),d,())=some (d.take p++(f,t,false,())::d.drop p,0,()):=by
    intro p H;subst y;have hi:EA d (p:Int) [(f,t,false,())]=some (d.take p++(f,t,false,())::d.drop p,()):=by exact(N5 H (by omega)).trans rfl
    exact vC hi rfl
   clear y;rcases kT (λc:bA=>decide (nV f c.1)) d with⟨h1,K⟩|⟨k,hk,h1,K,_⟩
   .rw[h1,aQ (by rfl)];show G ((d.length:Int),d,())=_;rw[F _ (au _)];rfl
   .rw[h1,aB (an (by dsimp only;omega))];dsimp only;have e:ahI d.length (k:Int)=k:=by unfold ahI;rw[ag (by omega)];omega
    rw[F _ (by omega),e]
 .have h:Cz l (chP l)=false:=by simpa using h
  rw[h,aQ (by rfl),ag (by decide)]
theorem avk{l}{u}(hl:l.length<=1000000):aaW l u=some (yU (λc=>decide (c.1=u)) l):=by
 have j:iG u.1 u.2.1 l=some (yU (λc=>decide (c.1=u)) l,u):=by
  show cZ aj u.1 u.2.1 l=_;refine tX hl (λc=>decide (c.1=u)) (λm (c:ar)=>To c.1 c.2.1 m) u λx _=>?_
  show some (cY false ((x.1.1==u.1)&&(x.1.2.1==u.2.1)),u)=_;rw[tW]
 show tq aj l u=_;unfold tq;rw[ai j]
def aph(c:bA):bA:=(c.1,c.2.1,true,())
def Er(l:List bA)(f t:ar):List bA×Int×Unit:=if Cz l (chP l)=true then(if yU (λc=>decide (c.1=f)) l<0 then([],19,())else if(l.getD (yU (λc=>decide (c.1=f)) l).toNat H_).2.1=t then(l.set (yU (λc=>decide (c.1=f)) l).toNat (aph (l.getD (yU (λc=>decide (c.1=f)) l).toNat H_)),0,())else([],11,()))else([],3,())
theorem aiW{l}{f t}(hl:l.length<=1000):ab8 l f t=some (Er l f t):=by
 show uX aj l f t=_;unfold uX Er;rw[ai (avk (by omega)),ai (agt (by omega))];by_cases h:Cz l (chP l)=true
 .rw[ah h,h,aB (by rfl)];rcases kT (λc:bA=>decide (c.1=f)) l with⟨h1,y⟩|⟨k,hk,h1,y,F⟩
  .rw[h1,aQ (by rfl)];rfl
  .rw[h1,cQ (by omega),bN hk,ag (by omega)];conv=>rhs;rw[aP,show l.getD k H_=l[k]from by rw[eF,ay hk];rfl]
   have C:cY true ((l[k].2.1.1==t.1)&&(l[k].2.1.2.1==t.2.1))=!decide (l[k].2.1=t):=by rw[<-tW];cases((l[k].2.1.1==t.1)&&(l[k].2.1.2.1==t.2.1))<;>rfl
   rw[C];by_cases j:l[k].2.1=t
   .rw[ap j,aB (show(!true)=false from rfl),ah j,ai (abb (by omega)),bN hk,iI hk,aP];rfl
   .rw[an j,aQ (show(!false)=true from rfl),ag j]
 .have h:Cz l (chP l)=false:=by simpa using h
  rw[h,aQ (by rfl),ag (by decide)]
theorem arm(x y):ab9 x y=some (decide (x<y)):=by show DL aj x y=_;unfold DL;rw[ai (show WE x=some (x != x)from rfl),aB (by simp)]
theorem axr{l}{k}(hs:oo (λx:Int=>x) l)(hl:l.length<=1000):AM l k=some (((jR (λx:Int=>x) l k:Nat):Int),decide (k∈l),()):=by
 show jn aj l k=_;have J:=BM (λy:Int=>y) l k;refine fR (X:=Int×Int×Unit) (β:=Int×Bool×Unit) (λz=>(z.2.1-z.1).toNat) (λz=>∃i j:Nat,z=((i:Int),(j:Int),())/\i<=jR (λx:Int=>x) l k/\jR (λx:Int=>x) l k<=j/\j<=l.length) (λ_=>some (((jR (λx:Int=>x) l k:Nat):Int),decide (k∈l),())) ⟨0,l.length,rfl,bE _,J,au _⟩ (by dsimp only;omega) ?_;rintro _ ⟨i,j,rfl,h1,h2,h3⟩ C K
 show aj.af (decide ((i:Int)<(j:Int))) (aj.iV 1 (aj.aI l (i64.wrap (Int.fdiv (u64.wrap (i64.wrap ((i:Int)+(j:Int)))) (2 ^ (min (Int.toNat 1) u64.bits)))) λW=>aj.ae (ab9 W k) λv4=>
  aj.af v4 (C (i64.wrap (i64.wrap (Int.fdiv (u64.wrap (i64.wrap ((i:Int)+(j:Int)))) (2 ^ (min (Int.toNat 1) u64.bits)))+1),(j:Int),())) (C ((i:Int),i64.wrap (Int.fdiv (u64.wrap (i64.wrap ((i:Int)+(j:Int)))) (2 ^ (min (Int.toNat 1) u64.bits))),()))))
  (aj.af (decide ((i:Int)<(l.length:Int))) (aj.aI l (i:Int) λV=>aj.af (V==k) (some ((i:Int),true,())) (aj.aI l (i:Int) λR=>aj.ae (Mh R) λY=>aj.af Y _ (some ((i:Int),false,())))) (some ((i:Int),false,())))=_
 rw[atn i j (by omega)];by_cases hij:i<j
 .have hh:(i+j) / 2<l.length:=by omega
  rw[eA (by omega),ud (by decide),bN hh,ai (arm _ _)];have G:=uR k hs hh;refine dh (λF=>?_) λF=>?_
  .rw[cJ _];have:=G.1 F;exact K _ ⟨(i+j) / 2+1,j,rfl,by omega,h2,h3⟩ (by dsimp only;omega)
  .have:¬(i+j) / 2<jR (λx:Int=>x) l k:=λh=>F (G.2 h)
   exact K _ ⟨i,(i+j) / 2,rfl,h1,by omega,by omega⟩ (by dsimp only;omega)
 .have hi:i=jR (λx:Int=>x) l k:=by omega
  subst hi;rw[cQ (by omega)];rcases Mg hs k with⟨hi,H,_⟩|⟨H,e2⟩
  .have:k∈l:=by have:=aF hi;rw[H]at this;exact this
   rw[eA (by omega),bN hi,oJ H,ap this]
  .have hn:¬k∈l:=λh=>by have:=jf.1 H k h;simp at this
   rw[an hn];by_cases hi:jR (λx:Int=>x) l k<l.length
   .have:=e2 hi;rw[eA (by omega),bN hi,aB (by simp;omega),bN hi,ai (show Mh l[jR (λx:Int=>x) l k]=some (l[jR (λx:Int=>x) l k] != l[jR (λx:Int=>x) l k])from rfl),aB (by simp)]
   .rw[cQ (by omega)]
def anZ(k:Int):Int:=if k=1 then 0 else if k=4 then 1 else 16
def oH(a:az)(c:Int):az×Int×Unit:=if r_ a=true then(if a.2.2.1=1 then(vN,17,())else if c<1\/16<c then(vN,2,())else if c∈a.2.2.2.1 then(vN,12,())else if anZ a.2.2.1<=a.2.2.2.1.length then(vN,10,())else((a.1,a.2.1,a.2.2.1,si (λx:Int=>x) a.2.2.2.1 c,()),0,()))else(vN,2,())
theorem aoa{a}{c}(hl:a.2.2.2.1.length<=1000)(hs:oo (λx:Int=>x) a.2.2.2.1):WN a c=some (oH a c):=by
 show AN aj a c=_;unfold AN oH;rw[ai (N3 (by omega))];by_cases ho:r_ a=true
 .rw[ah ho,ah ho,aB (by rfl),ai (axr hs hl)];by_cases F:a.2.2.1=1
  .rw[ah F,oJ F];rfl
  .rw[ag F,pq F];refine bB λR C=>?_
   have j:R (true,())=some (vN,2,()):=by subst C;rfl
   have H:R (false,())=some (if c∈a.2.2.2.1 then(vN,12,())else if anZ a.2.2.1<=a.2.2.2.1.length then(vN,10,())else((a.1,a.2.1,a.2.2.1,si (λx:Int=>x) a.2.2.2.1 c,()),0,())):=by
    subst C;refine zp rfl ?_;by_cases G:c∈a.2.2.2.1
    .rw[ap G,aQ rfl,ah G];rfl
    .rw[an G,aB rfl,ag G,ai (show Wl a.2.2.1=some (anZ a.2.2.1)from ags _)];refine dh (λhm=>?_) λhm=>?_
     .rw[ah hm];rfl
     .rw[ag hm,ai (KM (by omega))];have J:=BM (λy:Int=>y) a.2.2.2.1 c;have hi:ND a.2.2.2.1 ((jR (λx:Int=>x) a.2.2.2.1 c:Nat):Int) [c]=some (si (λx:Int=>x) a.2.2.2.1 c,()):=by refine(N5 J (by omega)).trans ?_;have:=Mf (λy:Int=>y) a.2.2.2.1 c;rw[this]
      rw[ai hi]
   refine dh (λV=>?_) λV=>?_
   .rw[j,ah (.inl V)]
   .by_cases K:16<c
    .rw[ap K,j,ah (.inr K)]
    .rw[an K,H,ag (show ¬(c<1\/16<c)by omega)]
 .rw[ag ho,ag ho,aQ (by rfl)];rfl
def JK:List Int->List ar
 |a::b::l=>(a,b,())::JK l
 |_=>[]
def yB(l:List Int):List ar:=if l.length % 2=0 then JK l else[]
theorem TL:∀l:List Int,(JK l).length<=l.length
 |[]=>au _
 |[_]=>bE _
 |a::b::l=>by have:=TL l;show(JK l).length+1<=l.length+1+1;omega
theorem arn{l}(hl:l.length<=1000):abA l=some (yB l):=by
 show ze aj l=_;refine fR (X:=Int×List ar×Unit) (β:=List ar) (λz=>l.length+1-z.1.toNat) (λz=>∃(k:Nat) (acc:List ar),2*k<=l.length/\acc.length=k/\acc++JK (l.drop (2*k))=JK l/\z=(((2*k:Nat):Int),acc,())) (λ_=>some (yB l)) ⟨0,[],by omega,rfl,rfl,rfl⟩ (by dsimp only;omega) ?_;rintro _ ⟨k,acc,R,V,y,rfl⟩ j C;show aj.af (decide ((i64.wrap (((2*k:Nat):Int)+1))<(l.length:Int))) (aj.aI l ((2*k:Nat):Int) λJ=>aj.aI l (i64.wrap (((2*k:Nat):Int)+1)) λH=>aj.bg (acc.length+1) 16 (j (i64.wrap (((2*k:Nat):Int)+2),acc++[(J,H,())],()))) (aj.pV 2 (aj.af ((Int.tmod (l.length:Int) 2) != 0) (some []) (some acc)))=_;rw[cJ (2*k)];by_cases h:2*k+1<l.length
 .have G:2*k<l.length:=by omega
  rw[dk h,bN G,bN h,c9,show i64.wrap (((2*k:Nat):Int)+2)=((2*(k+1):Nat):Int)by rw[bF _ (by omega)];omega];refine C _ ⟨k+1,_,by omega,by rw[aq];simp;omega,?_,rfl⟩ (by dsimp only;omega);rw[<-y,cn G,cn h,bn,show 2*(k+1)=2*k+1+1 by omega];rfl
 .rw[cQ (by omega),Xl (by decide)]
  have K:JK (l.drop (2*k))=[]:=by
   have F:(l.drop (2*k)).length<=1:=by rw[dP];omega
   match hh:l.drop (2*k)with
   |[]=>rfl
   |[_]=>rfl
   |a::b::m=>rw[hh]at F;simp at F
  rw[K,cz]at y;unfold yB;rw[mv (by omega)];by_cases hm:l.length % 2=0
  .rw[ah hm,aB (by simp;omega),y]
  .rw[ag hm,aQ (by simp;omega)]
def qi(f:ar):Bool:=decide (f.2.1<0)||(decide (2147483647<f.2.1)||(decide (f.1=0)||!decide (lH f.1)))
theorem aro(f):abB f=some (qi f):=by
 show uY aj f=_;unfold uY qi;refine dh (λC=>?_) λC=>?_
 .rw[ap C];rfl
 .rw[an C];refine dh (λy=>?_) λy=>?_
  .rw[ap y];rfl
  .rw[an y];refine dE (λj=>?_) λj=>?_
   .rw[ap j];rfl
   .rw[an j,ai (TG _)];rfl
theorem aer{s}(hs:s.length<=1000000):mP s=some (s.any qi,()):=by
 have key:∃i:Int,ou s=some (i,())/\decide (0<=i)=s.any qi:=by
  show ∃i,ek aj s=_/\_;refine nW (X:=Int×Unit) (β:=Int×Unit) (λo=>∃i:Int,o=some (i,())/\decide (0<=i)=s.any qi) (λz=>s.length+1-z.1.toNat) (λz=>∃j:Nat,j<=s.length/\z=((j:Int),())/\(s.take j).any qi=false) ⟨0,bE _,rfl,by simp⟩ (by dsimp only;omega) ?_;rintro _ ⟨j,G,rfl,y⟩ C F;show ∃i,aj.af (decide ((j:Int)<(s.length:Int))) (aj.aI s (j:Int) _) _=_/\_;by_cases h:j<s.length
  .rw[dk h,bN h,ai (aro _)];cases hv:qi s[j]with
   |false=>rw[aB rfl];dsimp only;rw[cJ j];refine F _ ⟨j+1,by omega,rfl,?_⟩ (by dsimp only;omega);rw[aw h,List.any_append,y];simp[hv]
   |true=>rw[aQ rfl];refine⟨(j:Int),rfl,?_⟩;have:=j9.2 ⟨s[j],aF h,hv⟩;rw[this,ap (by omega)]
  .have:j=s.length:=by omega
   subst this;rw[dT];rw[bq]at y;exact⟨-1,rfl,by rw[y];rfl⟩
 have⟨i,e,h⟩:=key;show c7 aj s=_;unfold c7;rw[ai e];dsimp only;rw[h]
def zf(a:Int):Int:=if a<0 then -a else a
def vU(l:List ar):Int:=(l.map λf=>zf f.1).sum
def Mi(l:List ar):Int:=(l.map λf=>zf f.1*f.2.1).sum
def Pl(l:List ar):Bool:=l.any λf=>decide (f.1<0) != decide ((l.headD (0,0,())).1<0)
def aiX(l:List ar):Prop:=l=[]\/16<l.length\/l.any qi=true\/Pl l=true
instance (l:List ar):Decidable (aiX l):=by unfold aiX;infer_instance
def kF(l:List ar):Int×Int×Int:=if aiX l then(0,0,2)else if 1099511627776<vU l then(0,0,25)else(vU l,Mi l,0)
theorem abC{f}(h:qi f=false):(0<=f.2.1/\f.2.1<=2147483647)/\f.1≠0/\lH f.1:=by unfold qi at h;simp only[nK,oY,Bool.not_eq_false',bc]at h;have⟨F,C,y,j⟩:=h;exact⟨by omega,y,j⟩
theorem YI{f}(h:qi f=false):(1<=zf f.1/\zf f.1<=1099511627776)/\0<=zf f.1*f.2.1/\zf f.1*f.2.1<=zf f.1*2147483647:=by
 have⟨j,F,C⟩:=abC h;unfold lH at C;have y:1<=zf f.1/\zf f.1<=1099511627776:=by unfold zf;split<;>omega
 exact⟨y,iY (by omega) j.1,gd j.2 (by omega)⟩
theorem QV:∀{l:List ar},l.any qi=false->((l.length:Int)<=vU l/\vU l<=1099511627776*l.length)/\0<=Mi l/\Mi l<=vU l*2147483647
 |[],_=>by unfold vU Mi;simp
 |f::l,h=>by rw[List.any_cons,nK]at h;have⟨⟨F,a2⟩,a3,a4⟩:=YI h.1;have⟨⟨b1,C⟩,y,j⟩:=QV h.2;unfold vU Mi at *;rw[bK,gG,bK,gG,aJ];rw[nM];omega
def YJ(l:List ar):List bW:=l.map λf=>wide (zf f.1*f.2.1)
theorem arp(l):YJ l=(l.map λf=>zf f.1*f.2.1).map wide:=by rw[gQ];rfl
theorem avl{a}(h:lH a):K2 a=some (zf a,0,()):=by
 unfold lH at h;rw[acE (by unfold cy;omega)];unfold zf;by_cases j:a<0
 .rw[ah j,ah j];unfold cP;rw[ah (by unfold cy;omega)]
 .rw[ag j,ag j]
theorem arq{l}(hl:l.length<=1000):aes l=some ((kF l).1,wide (kF l).2.1,(kF l).2.2,()):=by
 refine bB λk9 J=>?_
 have G:k9 (true,())=some (0,wide 0,2,()):=by subst J;rfl
 have k9f:l≠[]->l.length<=16->l.any qi=false->k9 (false,())=some (if Pl l=true then(0,wide 0,2,())else if 1099511627776<vU l then(0,wide 0,25,())else(vU l,wide (Mi l),0,())):=by
  intro F K C;subst J;refine zp rfl ?_;have Y:0<l.length:=fQ.2 F
  have hhd:l.headD (0,0,())=l[0]:=by
   cases l with
   |nil=>exact absurd rfl F
   |cons a t=>rfl
  have wr:∀f∈l,qi f=false:=λf j=>by
   cases e:qi f with
   |false=>rfl
   |true=>have:=j9.2 ⟨f,j,e⟩;rw[C]at this;exact absurd this (by decide)
  refine fR (X:=Int×Int×List bW×Unit) (β:=Int×bW×Int×Unit) (λz=>l.length+1-z.2.1.toNat) (λz=>∃k:Nat,k<=l.length/\z=(vU (l.take k),(k:Int),YJ (l.take k),())/\∀f∈l.take k,decide (f.1<0)=decide (l[0].1<0)) (λ_=>some (if Pl l=true then(0,wide 0,2,())else if 1099511627776<vU l then(0,wide 0,25,())else(vU l,wide (Mi l),0,()))) ⟨0,bE _,rfl,by simp⟩ (by dsimp only;omega) ?_;rintro _ ⟨k,hk,rfl,H⟩ R ha;by_cases h:k<l.length
  .rw[dk h];show aj.aI l (k:Int) (λx4=>aj.aI l ((0:Nat):Int) _)=_;rw[bN h,bN Y];have V:=wr _ (aF h);obtain⟨p1,p2,p3⟩:=abC V;obtain⟨⟨a1,a2⟩,a3,a4⟩:=YI V;have en:cY true (decide (l[k].1<0)==decide (l[0].1<0))=(decide (l[k].1<0) != decide (l[0].1<0)):=by cases decide (l[k].1<0)<;>cases decide (l[0].1<0)<;>rfl
   rw[en];by_cases hs:decide (l[k].1<0)=decide (l[0].1<0)
   .rw[aB (by rw[hs];simp),ai (avl p3),ai (Ee (a:=zf l[k].1) (b:=l[k].2.1) (by unfold cy;omega) (by unfold cy;omega))];have bt:=QV (l:=l.take k) (kH.2 λf j=>by rw[wr f (dw j)];decide);rw[aY]at bt;have em:vU (l.take (k+1))=vU (l.take k)+zf l[k].1:=by unfold vU;rw[aw h,cC,mV];simp
    have ew:YJ (l.take (k+1))=YJ (l.take k)++[wide (zf l[k].1*l[k].2.1)]:=by unfold YJ;rw[aw h,cC];rfl
    have lw:(YJ (l.take k)).length=k:=by unfold YJ;rw[bp,aY];omega
    show aj.bg ((YJ (l.take k)).length+1) 16 (R (i64.wrap (vU (l.take k)+zf l[k].1),i64.wrap ((k:Int)+1),YJ (l.take k)++[wide (zf l[k].1*l[k].2.1)],()))=_;rw[c9 (by omega) (by omega),cJ k (by omega),bF _ (by omega),<-em,<-ew];refine ha _ ⟨k+1,by omega,rfl,?_⟩ (by dsimp only;omega);intro f j;rw[aw h,aX]at j;rcases j with j|j
    .exact H f j
    .simp only[ax]at j;subst j;exact hs
   .rw[aQ (by simpa using hs)];have:Pl l=true:=by unfold Pl;rw[hhd];exact j9.2 ⟨l[k],aF h,by simpa using hs⟩
    rw[ah this];rfl
  .have e:k=l.length:=by omega
   subst e;rw[dT];rw[bq]at H ⊢;have hns:¬Pl l=true:=by intro hc;unfold Pl at hc;rw[hhd]at hc;obtain⟨f,j,W⟩:=j9.1 hc;rw[H f j]at W;simp at W
   rw[ag hns];refine dh (λhm=>?_) λhm=>?_
   .rw[ah hm];rfl
   .rw[ag hm,arp];have ba:∀x∈(l.map λf=>zf f.1*f.2.1),0<=x/\x<=1099511627776*2147483647:=by intro x hx;obtain⟨f,j,rfl⟩:=aN.1 hx;obtain⟨⟨a1,a2⟩,a3,a4⟩:=YI (wr f j);exact⟨a3,by omega⟩
    have e:zN ((l.map λf=>zf f.1*f.2.1).map wide)=some (wide (Mi l),0,()):=by have hlm:(l.map λf=>zf f.1*f.2.1).length=l.length:=bp _;rw[Rr _ (λw C=>by obtain⟨x,hx,rfl⟩:=aN.1 C;have:=ba x hx;exact mX _ (by unfold eB;omega)) (by rw[bp];omega),Wx];have bt:=QV C;unfold fit;rw[ah (show eB (l.map λf=>zf f.1*f.2.1).sum from by have h1:Mi l=(l.map λf=>zf f.1*f.2.1).sum:=rfl;rw[<-h1];unfold eB;omega)];rfl
    rw[ai e]
 clear J;have y:aiX l->kF l=(0,0,2):=λh=>ah h
 by_cases F:l=[]
 .rw[y (.inl F)];subst F;rw[aQ (by rfl),G]
 .have Y:0<l.length:=fQ.2 F;rw[aB (an (by omega))];by_cases K:16<l.length
  .rw[aQ (ap (by omega)),G,y (.inr (.inl K))]
  .rw[aB (an (by omega)),ai (aer (by omega))];cases C:l.any qi with
   |true=>rw[y (.inr (.inr (.inl C))),G]
   |false=>
    rw[k9f F (by omega) C];cases hs:Pl l with
    |true=>rw[y (.inr (.inr (.inr hs))),ah rfl]
    |false=>
     have hnb:¬aiX l:=by
      intro h;rcases h with h|h|h|h
      .exact F h
      .exact K h
      .rw[C]at h;exact absurd h (by decide)
      .rw[hs]at h;exact absurd h (by decide)
     rw[ag (by decide)];unfold kF;rw[ag hnb];by_cases hm:1099511627776<vU l
     .rw[ah hm,ah hm]
     .rw[ag hm,ag hm]
def JM(l:List ar):Int×Int×Int×Int:=if(kF l).2.2=0 then((if(l.headD (0,0,())).1<0 then -(kF l).1 else(kF l).1),(kF l).2.1 / (kF l).1,(kF l).2.1 % (kF l).1,0)else(0,0,0,(kF l).2.2)
theorem WO{l}(h:(kF l).2.2=0):l≠[]/\(1<=(kF l).1/\(kF l).1<=1099511627776)/\0<=(kF l).2.1/\(kF l).2.1<=(kF l).1*2147483647:=by
 unfold kF at h ⊢;by_cases hb:aiX l
 .rw[ah hb]at h;exact absurd h (by decide)
 .rw[ag hb]at h ⊢;by_cases hm:1099511627776<vU l
  .rw[ah hm]at h;exact absurd h (by decide)
  .rw[ag hm];have j:l≠[]:=λe=>hb (.inl e)
   have y:l.any qi=false:=by
    cases e:l.any qi with
    |false=>rfl
    |true=>exact absurd (.inr (.inr (.inl e))) hb
   have C:=fQ.2 j;have⟨⟨F,a2⟩,a3,a4⟩:=QV y;exact⟨j,⟨by omega,by omega⟩,a3,a4⟩
theorem arH{l}(h:(JM l).2.2.2=0):(kF l).2.2=0/\(-1099511627776<=(JM l).1/\(JM l).1<=1099511627776)/\(0<=(JM l).2.1/\(JM l).2.1<=2147483647)/\0<=(JM l).2.2.1/\(JM l).2.2.1<1099511627776:=by
 unfold JM at h ⊢;by_cases j:(kF l).2.2=0
 .rw[ah j];have⟨_,⟨y,a2⟩,a3,a4⟩:=WO j;generalize (kF l).1=m at *;generalize (kF l).2.1=c at *;refine⟨j,?_,⟨fx a3 (by omega),?_⟩,i7 _ (by omega),?_⟩
  .have q:∀(b:Prop) [Decidable b],-1099511627776<=(if b then -m else m)/\(if b then -m else m)<=1099511627776:=by intro b _;split<;>omega
   exact q _
  .exact Int.ediv_le_of_le_mul (by omega) (by rw[iv];exact a4)
  .have:=gn c (show 0<m by omega);dsimp only;omega
 .rw[ag j]at h;exact absurd h j
theorem WQ{l}(hl:l.length<=1000):UG l=some ((JM l).1,(JM l).2.1,(JM l).2.2.1,(JM l).2.2.2,()):=by
 show oT aj l=_;unfold oT;rw[ai (arq hl)];by_cases h:(kF l).2.2=0
 .have e:JM l=((if(l.headD (0,0,())).1<0 then -(kF l).1 else(kF l).1),(kF l).2.1 / (kF l).1,(kF l).2.1 % (kF l).1,0):=ah h;have⟨H,⟨V,a2⟩,a3,a4⟩:=WO h;rw[e];have C:=fQ.2 H
  have F:l.headD (0,0,())=l[0]:=by
   cases l with
   |nil=>exact absurd rfl H
   |cons a t=>rfl
  rw[F,gY h];generalize (kF l).1=m at *;generalize (kF l).2.1=c at *;have q1:0<=c / m:=fx a3 (by omega);have K:c / m<=2147483647:=Int.ediv_le_of_le_mul (by omega) (by rw[iv];exact a4);have G:cy (c / m):=by unfold cy;omega
  rw[ai (Xm a3 (by unfold eB;omega) (by omega) (by unfold cy;omega) (by omega)),ai (I9 (ue G))];have J:cP (c / m)=(c / m,0,()):=by unfold cP;rw[ah G]
  rw[J];refine bB λR j=>?_
  refine tix C ?_;refine dh (λy=>?_) λy=>?_
  .rw[ah y,show i64.wrap (0-m) = -m by rw[bF _ (by omega)];omega];subst j;rfl
  .rw[ag y];subst j;rfl
 .have e:JM l=(0,0,0,(kF l).2.2):=ag h;rw[e,fz h]
def agP(j:Int)(l:List ar):Int×Int×Unit:=if(JM l).2.2.2=0 then(if j<1\/65536<j then(0,2,())else cP ((if(JM l).1<0 then -(JM l).2.2.1 else(JM l).2.2.1)*j))else(0,(JM l).2.2.2,())
theorem arr{mult}{l}(hl:l.length<=1000):aet mult l=some (agP mult l):=by
 show yb aj mult l=_;unfold yb agP;rw[ai (WQ hl)];refine bB λV G=>?_
 by_cases h:(JM l).2.2.2=0
 .have⟨_,_,_,Y,X⟩:=arH h;rw[ah h,gY h];refine bB λK y=>?_
  have j:K (true,())=some (0,2,()):=by subst y;rfl
  have C:(1<=mult/\mult<=65536)->K (false,())=some (cP ((if(JM l).1<0 then -(JM l).2.2.1 else(JM l).2.2.1)*mult)):=by
   intro hm;have J:∀r,cy r->V (r,())=some (cP (r*mult)):=by intro r W;subst G;exact vC (Rp W (by unfold cy;omega)) rfl
   subst y;refine zp rfl ?_;refine dh (λF=>?_) λF=>?_
   .rw[ah F];dsimp only;rw[show i64.wrap (0-(JM l).2.2.1) = -(JM l).2.2.1 by rw[bF _ (by omega)];omega];exact J _ (by unfold cy;omega)
   .rw[ag F];dsimp only;exact J _ (by unfold cy;omega)
  refine dh (λR=>?_) λR=>?_
  .rw[j,ah (.inl R)]
  .by_cases H:65536<mult
   .rw[ap H,j,ah (.inr H)]
   .rw[an H,C (by omega),ag (show ¬(mult<1\/65536<mult)by omega)]
 .rw[ag h,fz h]
theorem avm{w}(h:EI w):∃v e,aob w=some (v,e)/\EI v:=by
 show ∃v e,DM aj w=_/\_;unfold DM;have hv:=an6 w h;have y:0<=jb (wv w)/\jb (wv w)<340282366920938463463374607431768211456:=by unfold eB at hv;unfold jb;split<;>omega
 rw[ai (I5 w h),ai (xd w),ai (F3 _ _ y),ai (Tm _ _)];by_cases j:eB (if(!decide (w.1<0))=true then -jb (wv w)else jb (wv w))
 .rw[ah (ap j)];exact⟨_,_,rfl,by dsimp only;rw[KY _ j];exact mX _ j⟩
 .rw[ag (by simpa using j)];exact⟨_,_,rfl,by unfold EI;decide⟩
theorem avn(z):EI (fit z).1:=by
 unfold fit;by_cases h:eB z
 .rw[ah h];exact mX _ h
 .rw[ag h];unfold EI;decide
theorem Oi(z):cy (cP z).1:=by
 unfold cP;by_cases h:cy z
 .rw[ah h];exact h
 .rw[ag h];decide
theorem abD{t}{k}{i}(h:oE t k=some i):i∈t:=bV h
theorem aoc{i}{q k:Int}(hi:i.2.2.2.2.1.length<=1000)(hm:∀x∈i.2.2.2.2.1,cy x)(y:cy q):∃v,TM i q k=some v/\EI v:=by
 show ∃v,BN aj i q k=_/\_;show ∃v,aj.aH _ _=_/\_;rw[ub];have z:EI ((0,0,()):bW):=by unfold EI;decide
 rw[ai (QP (by omega))];by_cases ho:Ql i
 .rw[ah ho,aB (by rfl)];by_cases G:k<0
  .rw[aQ (ap G)];exact⟨_,rfl,z⟩
  .rw[aB (an G)];by_cases F:(i.2.2.2.2.1.length:Int)<=k
   .rw[ap F];exact⟨_,rfl,z⟩
   .rw[an F];obtain⟨n,rfl⟩:=cm (show 0<=k by omega);have C:n<i.2.2.2.2.1.length:=by omega
    show ∃v,aj.af false _ (aj.aI i.2.2.2.2.1 (n:Int) _)=_/\_;have j:cy i.2.1:=by have:=ho.2.1;unfold cy;omega
    rw[aB rfl,bN C,ai (Rp (hm _ (aF C)) j),ai (Ee (Oi _) y)];exact⟨_,rfl,mX _ (Xo (Oi _) y)⟩
 .rw[ag ho,aQ (by rfl)];exact⟨_,rfl,z⟩
structure OkT(t:List bH):Prop where
 l:t.length<=1000
 m:∀i∈t,i.2.2.2.2.1.length<=1000/\∀x∈i.2.2.2.2.1,cy x
theorem ars{t}{y:List nU}{k:Int}(T:OkT t)(hl:y.length<=1000)(ho:Rw y):∃v e,WR t y k=some (v,e)/\EI v:=by
 show ∃v e,AO aj t y k=_/\_;unfold AO;have z:EI ((0,0,()):bW):=by unfold EI;decide
 rw[ai (agu (by omega))];by_cases hv:D9 y=true
 .rw[hv,aB (by rfl)];refine nW (X:=Int×List bW×Unit) (β:=bW×Int×Unit) (λo=>∃v e,o=some (v,e)/\EI v) (λz=>y.length+1-z.1.toNat) (λz=>∃(j:Nat) (acc:List bW),j<=y.length/\acc.length=j/\(∀w∈acc,EI w)/\z=((j:Int),acc,())) ⟨0,[],bE _,rfl,by simp,rfl⟩ (by dsimp only;omega) ?_;rintro _ ⟨j,acc,hj,H,G,rfl⟩ C V;show ∃v e,aj.af (decide ((j:Int)<(y.length:Int))) (aj.aI y (j:Int) _) (aj.ae (zN acc) _)=_/\_;by_cases h:j<y.length
  .rw[dk h,bN h,ai (Xd (by have:=T.l;omega) λi hi=>by have:=(T.m i hi).1;omega)];cases R:oE t y[j].1 with
   |none=>exact⟨_,_,rfl,z⟩
   |some i=>
    have⟨K,J⟩:=T.m i (abD R);have⟨v,e1,e2⟩:=aoc (i:=i) (q:=y[j].2.1) (k:=k) K J (ho _ (aF h));show ∃v e,aj.af false _ (aj.ae (TM i y[j].2.1 k) _)=_/\_;rw[aB rfl,ai e1];show ∃v' e,aj.bg (acc.length+1) 16 (C (i64.wrap ((j:Int)+1),acc++[v],()))=_/\_;rw[c9,cJ j];refine V _ ⟨j+1,acc++[v],by omega,by rw[aq,H];rfl,λw F=>?_,rfl⟩ (by dsimp only;omega);rcases aX.1 F with F|F
    .exact G w F
    .simp only[ax]at F;subst F;exact e2
  .rw[cQ (by omega),ai (Rr acc G (by omega))];have⟨v,e,Y,W⟩:=avm (avn (q' acc));rw[ai Y];exact⟨_,_,rfl,W⟩
 .have hv:D9 y=false:=by simpa using hv
  rw[hv,aQ (by rfl)];exact⟨_,_,rfl,z⟩
theorem aiY{t}{y}(T:OkT t)(hl:y.length<=1000)(ho:Rw y):∃v e,abE t y=some (v,e)/\(∀w∈v,EI w)/\v.length<=8:=by
 show ∃v e,zg aj t y=_/\_;refine nW (X:=Int×List bW×Unit) (β:=List bW×Int×Unit) (λo=>∃v e,o=some (v,e)/\(∀w∈v,EI w)/\v.length<=8) (λz=>8+1-z.1.toNat) (λz=>∃(j:Nat) (acc:List bW),j<=8/\acc.length=j/\(∀w∈acc,EI w)/\z=((j:Int),acc,())) ⟨0,[],bE _,rfl,by simp,rfl⟩ (by dsimp only;omega) ?_;rintro _ ⟨j,acc,Y,H,G,rfl⟩ C K;show ∃v e,aj.af (decide ((j:Int)<8)) (aj.ae (WR t y (j:Int)) _) (some (acc,0,()))=_/\_;by_cases h:j<8
 .have⟨v,e,V,R⟩:=ars (k:=(j:Int)) T hl ho;rw[eA (by omega),ai V];show ∃W e',aj.af (e.1 != 0) _ (aj.bg (acc.length+1) 16 (C (i64.wrap ((j:Int)+1),acc++[v],())))=_/\_;by_cases J:e.1=0
  .rw[aB (by simpa using J),c9,cJ j];refine K _ ⟨j+1,acc++[v],by omega,by rw[aq,H];rfl,λw F=>?_,rfl⟩ (by dsimp only;omega);rcases aX.1 F with F|F
   .exact G w F
   .simp only[ax]at F;subst F;exact R
  .rw[aQ (by simpa using J)];exact⟨_,_,rfl,by simp,by simp⟩
 .rw[cQ (by omega)];exact⟨_,_,rfl,G,by omega⟩
theorem art(a b):∃n,abF a b=some n:=by
 show ∃n,DN aj a b=_;unfold DN
 have c2:∀x y:Int,∃n,YK x y=some n:=λx y=>by
  show ∃n,sz aj x y=_;unfold sz;rw[ai (show TN x=some (x != x)from rfl),ai (show TN y=some (y != y)from rfl),aB (by simp),aB (by simp)];by_cases h:x<y
  .rw[aQ (ap h)];exact⟨_,rfl⟩
  .rw[aB (an h)];by_cases j:y<x
   .rw[aQ (ap j)];exact⟨_,rfl⟩
   .rw[aB (an j)];exact⟨_,rfl⟩
 have G:∀x y:Int,∃n,YL x y=some n:=λx y=>by
  show ∃n,sA aj x y=_;unfold sA;rw[ai (show TO x=some (x != x)from rfl),ai (show TO y=some (y != y)from rfl),aB (by simp),aB (by simp)];by_cases h:x<y
  .rw[aQ (ap h)];exact⟨_,rfl⟩
  .rw[aB (an h)];by_cases j:y<x
   .rw[aQ (ap j)];exact⟨_,rfl⟩
   .rw[aB (an j)];exact⟨_,rfl⟩
 obtain⟨n,F⟩:=c2 a.1 b.1;obtain⟨m,j⟩:=G a.2.1 b.2.1;obtain⟨r,C⟩:=axo [n,m] (by simp);rw[ai F,ai j,ai C];exact⟨_,rfl⟩
theorem aod{l}(hl:l.length<=1000)(H:∀w∈l,EI w):∃v e,TP l=some (v,e)/\EI v:=by
 show ∃v e,BO aj l=_/\_;have z:EI ((0,0,()):bW):=by unfold EI;decide
 refine nW (X:=Int×Int×Int×Int×Unit) (β:=bW×Int×Unit) (λo=>∃v e,o=some (v,e)/\EI v) (λz=>l.length+1-z.2.1.toNat) (λz=>∃(j:Nat) (a:Int) (w:bW),j<=l.length/\EI w/\z=(a,(j:Int),w)) ⟨0,-1,(0,0,()),bE _,z,rfl⟩ (by dsimp only;omega) ?_;rintro _ ⟨j,a,w,R,C,rfl⟩ y K;show ∃v e,aj.af (decide ((j:Int)<(l.length:Int))) _ (some (w,a,()))=_/\_;by_cases h:j<l.length
 .rw[dk h,ub];show ∃v e,aj.aI l (j:Int) _=_/\_;rw[bN h];obtain⟨n,J⟩:=art l[j] w;show ∃v e,aj.ae (abF l[j] w) _=_/\_;rw[ai J];have st:∀b w',EI w'->∃v e,y (b,i64.wrap ((j:Int)+1),w')=some (v,e)/\EI v:=by intro b w' F;rw[cJ j];exact K _ ⟨j+1,b,w',by omega,F,rfl⟩ (by dsimp only;omega)
  by_cases G:0<n
  .rw[aQ (ap G)];exact st _ _ (H _ (aF h))
  .rw[aB (an G)];exact st _ _ C
 .rw[cQ (by omega)];exact⟨_,_,rfl,C⟩
theorem aiZ{t}{j}(T:OkT t)(hl:j.length<=1000)(ho:Rw j):∃v e,Pm t j=some (v,e)/\cy v:=by
 show ∃v e,uZ aj t j=_/\_;unfold uZ;have⟨v,e,J,H,R⟩:=aiY T hl ho;rw[ai J];by_cases y:e.1=0
 .show ∃F K,aj.af (e.1 != 0) _ (aj.ae (TP v) _)=_/\_;have⟨w,V,g1,C⟩:=aod (l:=v) (by omega) H;rw[gY y,ai g1]
  have G:L3 w=some (cP (wv w)):=by
   have:=I9 (an6 w C)
   rwa [aqY w C]at this
  rw[ai G];exact⟨_,_,rfl,Oi _⟩
 .show ∃F K,aj.af (e.1 != 0) _ _=_/\_;rw[aQ (by simpa using y)];exact⟨_,_,rfl,by decide⟩
theorem aoe{f}(h:∀k∈ks,cy (f k)):Rw (S' f):=by intro x j;unfold S' at j;obtain⟨k,y,rfl⟩:=aN.1 j;exact h k (aM.1 y).1
theorem aof{l}{u}(hl:l.length<=1000000):mW l u=some (decide (0<=yU (λx=>decide (u=x)) l)):=by show cN aj l u=_;unfold cN;rw[ai (ar8 hl)]
theorem TQ{a}(h:a.2.2.2.1.length<=1000):∃l,aeu a=some l/\l.length<=1000:=by
 show ∃l,qT aj a=_/\_;unfold qT;by_cases j:a.2.2.1=2
 .rw[aQ (by simpa using j),ai (show TR a=some (a.1,0,())from rfl)];exact⟨_,rfl,by simp⟩
 .rw[aB (by simpa using j),ai (show wL a=some (cd a)from xt h)];exact⟨_,rfl,Eb h⟩
theorem abG{a}{u}(h:a.2.2.2.1.length<=1000):∃l,TS a u=some l/\l.length<=1000:=by
 show ∃l,tB aj a u=_/\_;unfold tB;have⟨l,y,C⟩:=TQ h;rw[ai y,ai (aof (by omega))];cases decide (0<=yU (λx=>decide (u=x)) l)with
 |false=>exact⟨_,rfl,by simp⟩
 |true=>
  rw[aB (show(!true)=false from rfl)];by_cases j:a.2.2.1=2
  .rw[aQ (by simpa using j),ai (show wL a=some (cd a)from xt h)];exact⟨_,rfl,Eb h⟩
  .rw[aB (by simpa using j)];exact⟨_,rfl,by simp⟩
theorem avo{l}{us}(hb:okB l)(Y:us.length<=1000):∃v e,aog l us=some (v,e)/\(e.1=0->Rw v/\v.length<=8):=by
 show ∃v e,DO aj l us=_/\_;unfold DO;rw[ai (FW hb)];by_cases G:r' l=true
 .rw[G,aB (by rfl)];refine nW (X:=Int×List (List ar)×Unit) (β:=List ar×Int×Unit) (λo=>∃v e,o=some (v,e)/\(e.1=0->Rw v/\v.length<=8)) (λz=>us.length+1-z.1.toNat) (λz=>∃(j:Nat) (acc:List (List ar)),j<=us.length/\acc.length=j/\(∀w∈acc,Rw w/\w.length<=1000)/\z=((j:Int),acc,())) ⟨0,[],bE _,rfl,by simp,rfl⟩ (by dsimp only;omega) ?_;rintro _ ⟨j,acc,hj,H,y,rfl⟩ C K;show ∃v e,aj.af (decide ((j:Int)<(us.length:Int))) (aj.aI us (j:Int) _) (aj.ae (agv acc) _)=_/\_;by_cases h:j<us.length
  .rw[dk h,bN h,ai (Rf hb)];have⟨o1,W⟩:=M5 hb us[j];show ∃v e,aj.bg (acc.length+1) 24 (C (i64.wrap ((j:Int)+1),acc++[kc l us[j]],()))=_/\_;rw[c9,cJ j];refine K _ ⟨j+1,_,by omega,by rw[aq,H];rfl,λw F=>?_,rfl⟩ (by dsimp only;omega);rcases aX.1 F with F|F
   .exact y w F
   .simp only[ax]at F;subst F;exact⟨o1,by omega⟩
  .rw[cQ (by omega),ai (adB (by omega) (λv hv=>(y v hv).2) λv hv=>(y v hv).1)];refine⟨(vD acc).1,(vD acc).2,rfl,λJ=>?_⟩;have⟨_,V,R,_⟩:=Qz (l:=acc) J;rw[V];exact⟨aoe R,Ta _⟩
 .have G:r' l=false:=by simpa using G
  rw[G,aQ (by rfl)];exact⟨_,_,rfl,λh=>absurd h (by decide)⟩
theorem agQ{t}{l}{a}{u}(T:OkT t)(hb:okB l)(h:a.2.2.2.1.length<=1000):∃v e,agR t l a u=some (v,e)/\cy v:=by
 show ∃v e,DP aj t l a u=_/\_;unfold DP;have z:cy 0:=by decide
 rw[ai (FW hb)];cases r' l with
 |false=>exact⟨_,_,rfl,z⟩
 |true=>
  rw[aB (show(!true)=false from rfl)];have⟨us,H,V⟩:=TQ h;rw[ai H,ai (aof (by omega))];cases decide (0<=yU (λx=>decide (u=x)) us)with
  |false=>exact⟨_,_,rfl,z⟩
  |true=>
   rw[aB (show(!true)=false from rfl)];have⟨ps,G,F⟩:=abG (u:=u) h;rw[ai G];have⟨v,e,C,y⟩:=avo hb F;rw[ai C];show ∃R Y,aj.af (e.1 != 0) (some (0,e)) (aj.ae (Pm t v) _)=_/\_;by_cases j:e.1=0
   .have⟨g1,W⟩:=y j;have⟨m,X,K,J⟩:=aiZ T (show v.length<=1000 by omega) g1;rw[gY j,ai K];exact⟨_,_,rfl,J⟩
   .rw[fz j];exact⟨_,_,rfl,z⟩
theorem aoh{t w s}(H:0<=t)(G:0<=w)(y:cy t)(j:w<=s)(hs:0<s)(J:cy s):Hp t w s=some (t*w / s,t*w % s,0,()):=by
 show qG aj t w s=_;unfold qG;have C:=J;unfold cy at C y;have K:=iY H G;have a2:t*w<=9223372036854775807*9223372036854775807:=vm (by omega) (by omega) G (by omega);have Y:t*w / s<=t:=by have:t*w / s<t+1:=iR hs (by have:=gd j H;rw[nM];omega);omega
 have R:=fx K (gR hs);have X:=Ee (a:=t) (b:=w) (by unfold cy;omega) (by unfold cy;omega);have W:=Xm (m:=t*w) (d:=s) K (by unfold eB;omega) hs J (by omega);rw[ai X,ai W];have F:cy (t*w / s):=by unfold cy;omega
 have V:I6 (wide (t*w / s)) 0=some (t*w / s,0,()):=by rw[CY (ue F),jr F]
 rw[ai V,aB (by rfl)]
theorem aoi{a}{q:Int}(y:pn a)(H:cy q):∃v e,abH a q=some (v,e)/\cy v:=by
 show ∃v e,u5 aj a q=_/\_;unfold u5;have z:cy 0:=by decide
 rw[ai (Ni y H),ub,ai (Nh y),aQ (by rfl)];have⟨_,⟨p1,p2⟩,V,R⟩:=y;by_cases F:q<0
 .rw[ap F];exact⟨_,_,rfl,z⟩
 .rw[an F];show ∃v e,aj.af false _ (aj.af ((cP (q*cF a)).2.1 != 0) _ (aj.ae (Hp (cP (q*cF a)).1 (i64.wrap (10000-a.2.2.1)) 10000) _))=_/\_;rw[aB rfl];by_cases C:(cP (q*cF a)).2.1=0
  .have⟨J,G⟩:=Wp C;have j:0<=q*cF a:=iY (by omega) p1;rw[gY C,J,bF (10000-a.2.2.1) (by omega),ai (aoh j (by omega) G (by omega) (by omega) (by decide))];refine⟨_,_,rfl,?_⟩;have q1:0<=q*cF a*(10000-a.2.2.1) / 10000:=fx (iY j (by omega)) (by omega);have K:q*cF a*(10000-a.2.2.1) / 10000<q*cF a+1:=iR (by omega) (by have:=gd (show 10000-a.2.2.1<=10000 by omega) j;rw[nM];omega);unfold cy at G ⊢;dsimp only;omega
  .rw[fz C];exact⟨_,_,rfl,z⟩
theorem WS:∀{l:List gK} {k:Int},(iD l k).2.1=true->(iD l k).1∈l
 |[],_,h=>by unfold iD at h;exact absurd h (by decide)
 |a::l,k,h=>by
  unfold iD at h ⊢;by_cases e:a.1=k
  .rw[ah e];exact ec
  .rw[ag e]at h ⊢;exact cH _ (WS h)
theorem aja{y l}(W:∀a∈y,pn a)(hl:y.length<=1000)(J:tM l):∃v e,CD y l=some ((v,e),())/\(∀x∈v,cy x)/\v.length<=20:=by
 show ∃v e,iH aj y l=_/\_;unfold iH;have Y:=J.1;rw[ai (Rq (by omega))];cases Nf l with
 |false=>exact⟨_,_,rfl,by simp,by simp⟩
 |true=>
  rw[aB (show(!true)=false from rfl)];refine nW (X:=Int×List Int×Unit) (β:=(List Int×Int×Unit)×Unit) (λo=>∃v e,o=some ((v,e),())/\(∀x∈v,cy x)/\v.length<=20) (λz=>l.length+1-z.1.toNat) (λz=>∃(j:Nat) (acc:List Int),j<=l.length/\acc.length=j/\(∀x∈acc,cy x)/\z=((j:Int),acc,())) ⟨0,[],bE _,rfl,by simp,rfl⟩ (by dsimp only;omega) ?_;rintro _ ⟨j,acc,hj,H,G,rfl⟩ C V;show ∃v e,aj.af (decide ((j:Int)<(l.length:Int))) (aj.aI l (j:Int) _) (some ((acc,0,()),()))=_/\_;by_cases h:j<l.length
  .rw[dk h,bN h,ai (KZ hl)];cases R:(iD y l[j].1).2.1 with
   |false=>exact⟨_,_,rfl,by simp,by simp⟩
   |true=>
    have⟨v,e,h1,h2⟩:=aoi (W _ (WS R)) (J.2 _ (aF h));rw[aB (show(!true)=false from rfl),ai h1];show ∃v' e',aj.af (e.1 != 0) _ (aj.bg (acc.length+1) 8 (C (i64.wrap ((j:Int)+1),acc++[v],())))=_/\_;by_cases K:e.1=0
    .rw[aB (by simpa using K),c9,cJ j];refine V _ ⟨j+1,_,by omega,by rw[aq,H];rfl,λw F=>?_,rfl⟩ (by dsimp only;omega);rcases aX.1 F with F|F
     .exact G w F
     .simp only[ax]at F;subst F;exact h2
    .rw[aQ (by simpa using K)];exact⟨_,_,rfl,by simp,by simp⟩
  .rw[cQ (by omega)];exact⟨_,_,rfl,G,by omega⟩
theorem aoj{j l}{c:Int}(H:∀a∈j,pn a)(hl:j.length<=1000)(F:tM l)(G:cy c):∃v e,abI j l c=some (v,e)/\cy v:=by
 show ∃v e,u6 aj j l c=_/\_;unfold u6;have⟨v,e,K,J,V⟩:=aja H hl F;rw[ai K];show ∃R W,aj.af (e.1 != 0) (some (0,e)) (aj.bg (v.length+1) 8 (aj.ae (Hr (v++[c])) _))=_/\_;by_cases C:e.1=0
 .rw[aB (by simpa using C),c9,ai (sR (l:=v++[c]) (λx y=>by
   rcases aX.1 y with y|y
   .exact J x y
   .simp only[ax]at y;subst y;exact G) (by rw[aq];simp;omega))]
  exact⟨_,_,rfl,Oi _⟩
 .rw[aQ (by simpa using C)];exact⟨_,_,rfl,by decide⟩
structure F'(s:AP):Prop where
 a:∀a∈s.1,pn a
 al:s.1.length<=1000
 t:OkT s.2.1
 b:okB s.2.2.1
 f:tT s.2.2.2.1
 fl:s.2.2.2.1.length<=1000
 h:kL s.2.2.2.2.1
theorem ajb{s}(O:F' s):∃b,Oj s=some b:=by
 show ∃b,nh aj s=_;unfold nh;rw[ai (FW O.b)];cases r' s.2.2.1 with
 |false=>exact⟨_,rfl⟩
 |true=>
  rw[aQ rfl,ai (ZL (by have:=O.fl;omega))];cases xb s.2.2.2.1 with
  |false=>exact⟨_,rfl⟩
  |true=>rw[aQ rfl,ai (Jc O.h)];exact⟨_,rfl⟩
theorem Nr{s}{a}{u}(O:F' s)(h:a.2.2.2.1.length<=1000):∃v e,En s a u=some (v,e)/\cy v:=by
 show ∃v e,lK aj s a u=_/\_;unfold lK;have z:cy 0:=by decide
 obtain⟨b,hb⟩:=ajb O;rw[ai hb];cases b with
 |false=>exact⟨_,_,rfl,z⟩
 |true=>
  rw[aB (show(!true)=false from rfl)];obtain⟨n,e,h1,h2⟩:=agQ (u:=u) O.t O.b h;rw[ai h1];show ∃v e',aj.af (e.1 != 0) (some (0,e)) (aj.ae (TS a u) _)=_/\_;by_cases V:e.1=0
  .rw[aB (by simpa using V)];obtain⟨ps,h3,h4⟩:=abG (u:=u) h;rw[ai h3];refine nW (X:=Int×List Int×List ar×Unit) (β:=Int×Int×Unit) (λo=>∃v e,o=some (v,e)/\cy v) (λz=>ps.length+1-z.1.toNat) (λz=>∃(j:Nat) (acc:List Int),j<=ps.length/\acc.length=j+1/\(∀x∈acc,cy x)/\z=((j:Int),acc,ps,())) ⟨0,[i64.wrap (0-n)],bE _,rfl,λx K=>by simp only[ax]at K;subst K;have:=dO (0-n);unfold cy;rw[this];omega,rfl⟩ (by dsimp only;omega) ?_;rintro _ ⟨j,acc,hj,H,G,rfl⟩ C W;show ∃v e,aj.af (decide ((j:Int)<(ps.length:Int))) (aj.aI ps (j:Int) λ_=>aj.ct ps (Int.toNat (j:Int)) _) (aj.ae (Hr acc) _)=_/\_;by_cases y:j<ps.length
   .rw[dk y,bN y,iI y,ai (yZ O.h),ai (IF (by have:=O.fl;omega))];obtain⟨v,J,h5,Y⟩:=aoj (c:=hJ s.2.2.2.1 ps[j]) O.a O.al (pO O.h.1 ps[j]) (HY O.f _);rw[ai h5];show ∃v' e',aj.af (J.1 != 0) (some (0,J)) (aj.bg (acc.length+1) 8 (C (i64.wrap ((j:Int)+1),acc++[v],ps,())))=_/\_;by_cases R:J.1=0
    .rw[aB (by simpa using R),c9,cJ j];refine W _ ⟨j+1,_,by omega,by rw[aq,H];rfl,λw F=>?_,rfl⟩ (by dsimp only;omega);rcases aX.1 F with F|F
     .exact G w F
     .simp only[ax]at F;subst F;exact Y
    .rw[aQ (by simpa using R)];exact⟨_,_,rfl,z⟩
   .rw[cQ (by omega),ai (sR G (by omega))];exact⟨_,_,rfl,Oi _⟩
  .rw[aQ (by simpa using V)];exact⟨_,_,rfl,z⟩
theorem aok {s} {l} (O : F' s) (h : ∀ a ∈ l, a.2.2.2.1.length <= 1000) (hl : l.length <= 1000) : ∃ v e, Pn s l = some (v, e) /\ v.length <= 1000 * l.length /\ tT v := by
  show ∃ v e, rn aj s l = _ /\ _
  unfold rn
  refine nW (X := Int × List aU × Unit) (β := List aU × Int × Unit) (λo => ∃ v e, o = some (v, e) /\ v.length <= 1000 * l.length /\ tT v) (λz => l.length + 1 - z.1.toNat) (λz => ∃ (j : Nat) (acc : List aU), j <= l.length /\ acc.length <= 1000 * j /\ tT acc /\ z = ((j : Int), (acc, ()))) ⟨0, [], bE _, by simp, (λx C => by cases C), rfl⟩ (by dsimp only; omega) ?_
  rintro _ ⟨j, acc, hj, R, K, rfl⟩ J ha
  show ∃ v e, aj.af (decide ((j : Int) < (l.length : Int))) (aj.aI l (j : Int) _) (some (acc, (0, ()))) = _ /\ _
  by_cases F : j < l.length
  · rw [dk F, bN F]
    have hm := h _ (aF F)
    obtain ⟨us, h1, h2⟩ := TQ hm
    rw [ai h1]
    refine nW (X := Int × List aU × List ar × Unit) (β := List aU × Int × Unit) (λo => ∃ v e, o = some (v, e) /\ v.length <= 1000 * l.length /\ tT v) (λz => us.length + 1 - z.1.toNat) (λz => ∃ (k : Nat) (a2 : List aU), k <= us.length /\ a2.length <= 1000 * j + k /\ tT a2 /\ z = ((k : Int), (a2, (us, ())))) ⟨0, acc, bE _, by omega, K, rfl⟩ (by dsimp only; omega) ?_
    rintro _ ⟨k, a2, hk, hkl, H, rfl⟩ y V
    show ∃ v e, aj.af (decide ((k : Int) < (us.length : Int))) _ (J (i64.wrap ((j : Int) + 1), (a2, ()))) = _ /\ _
    by_cases G : k < us.length
    · rw [dk G, ub]
      show ∃ v e, aj.aI us (k : Int) (λ_ => aj.ct us (Int.toNat (k : Int)) _) = _ /\ _
      rw [bN G, iI G]
      obtain ⟨n, e, h3, h4⟩ := Nr (u := us[k]) O hm
      rw [ai h3]
      have st : ∀ a3 : List aU, a3.length <= 1000 * j + (k + 1) -> tT a3 -> ∃ v e, y (i64.wrap ((k : Int) + 1), (a3, (us, ()))) = some (v, e) /\ v.length <= 1000 * l.length /\ tT v := by
        intro a3 g1 g2
        rw [cJ k]
        exact V _ ⟨k + 1, a3, by omega, g1, g2, rfl⟩ (by dsimp only; omega)
      show ∃ v e', aj.af (e.1 != 0) (some ([], e)) (aj.af (decide (n < 0)) (aj.bg (a2.length + 1) 24 (y (i64.wrap ((k : Int) + 1), (a2 ++ [(us[k], (n, ()))], (us, ()))))) (y (i64.wrap ((k : Int) + 1), (a2, (us, ()))))) = _ /\ _
      by_cases Y : e.1 = 0
      · rw [aB (by simpa using Y)]
        by_cases W : n < 0
        · rw [aQ (ap W), c9]
          refine st _ (by rw [aq]; simp; omega) λx C => ?_
          rcases aX.1 C with C | C
          · exact H x C
          · simp only [ax] at C; subst C; exact h4
        · rw [aB (an W)]; exact st _ (by omega) H
      · rw [aQ (by simpa using Y)]; exact ⟨_, _, rfl, by simp, (λx C => by cases C)⟩
    · rw [aB (an (by omega)), cJ j]
      exact ha _ ⟨j + 1, a2, by omega, by omega, H, rfl⟩ (by show _ - ((j + 1 : Nat) : Int).toNat < _ - ((j : Nat) : Int).toNat; omega)
  · rw [aB (an (by omega))]
    exact ⟨_, _, rfl, by have : j = l.length := by omega
                         subst this; exact R, K⟩
theorem akE{a}{u}(h:a.2.2.2.1.length<=1000):∃v e,ajc a u=some (v,e):=by
 show ∃v e,AQ aj a u=_;unfold AQ;rw[ai (Q' h)];cases zE a u with
 |false=>exact⟨_,_,rfl⟩
 |true=>
  rw[aB (show(!true)=false from rfl)];by_cases j:a.2.2.1=2
  .rw[aQ (by simpa using j),ai (show TR a=some (a.1,0,())from rfl)];exact⟨_,_,rfl⟩
  .rw[aB (by simpa using j)];exact⟨_,_,rfl⟩
abbrev gb(d:aK):Int:=d.1
abbrev di(d:aK):List aW:=d.2.1
abbrev fD(d:aK):List bH:=d.2.2.1
abbrev jc(d:aK):List bh:=d.2.2.2.1
abbrev bs(d:aK):List az:=d.2.2.2.2.1
abbrev jt(d:aK):List bA:=d.2.2.2.2.2.1
abbrev dR(d:aK):List bR:=d.2.2.2.2.2.2.1
abbrev cx(d:aK):List cj:=d.2.2.2.2.2.2.2.1
abbrev cf(d:aK):List bC:=d.2.2.2.2.2.2.2.2.1
abbrev eU(d:aK):List bC:=d.2.2.2.2.2.2.2.2.2.1
abbrev fN(d:aK):List aU:=d.2.2.2.2.2.2.2.2.2.2.1
abbrev eY(d:aK):List bj:=d.2.2.2.2.2.2.2.2.2.2.2.1
abbrev bT(d:aK):Int:=d.2.2.2.2.2.2.2.2.2.2.2.2.1
abbrev Fv(d:aK):Int:=d.2.2.2.2.2.2.2.2.2.2.2.2.2.1
abbrev yt(d:aK):Int:=d.2.2.2.2.2.2.2.2.2.2.2.2.2.2.1
abbrev uw(d:aK):Int:=d.2.2.2.2.2.2.2.2.2.2.2.2.2.2.2.1
abbrev pR(d:aK):Int:=d.2.2.2.2.2.2.2.2.2.2.2.2.2.2.2.2.1
abbrev axs(d:aK):Int:=d.2.2.2.2.2.2.2.2.2.2.2.2.2.2.2.2.2.1
abbrev axt(d:aK):Int:=d.2.2.2.2.2.2.2.2.2.2.2.2.2.2.2.2.2.2.1
abbrev jl(d:aK):Int:=d.2.2.2.2.2.2.2.2.2.2.2.2.2.2.2.2.2.2.2.1
abbrev mZ(d:aK):Int:=d.2.2.2.2.2.2.2.2.2.2.2.2.2.2.2.2.2.2.2.2.1
abbrev JN(d:aK):Int:=d.2.2.2.2.2.2.2.2.2.2.2.2.2.2.2.2.2.2.2.2.2.1
abbrev ux(d:aK):Int:=d.2.2.2.2.2.2.2.2.2.2.2.2.2.2.2.2.2.2.2.2.2.2.1
abbrev dA(d:aK):Int:=d.2.2.2.2.2.2.2.2.2.2.2.2.2.2.2.2.2.2.2.2.2.2.2.1
abbrev kM(d:aK):Int:=d.2.2.2.2.2.2.2.2.2.2.2.2.2.2.2.2.2.2.2.2.2.2.2.2.1
abbrev sS(d:aK):List Int:=d.2.2.2.2.2.2.2.2.2.2.2.2.2.2.2.2.2.2.2.2.2.2.2.2.2.1
abbrev asM(d:aK):List fH:=d.2.2.2.2.2.2.2.2.2.2.2.2.2.2.2.2.2.2.2.2.2.2.2.2.2.2.2.2.1
abbrev asN(d:aK):List fI:=d.2.2.2.2.2.2.2.2.2.2.2.2.2.2.2.2.2.2.2.2.2.2.2.2.2.2.2.2.2.1
abbrev aT(d:aK):ar:=(uw d,pR d,())
abbrev cu(d:aK):ar:=(axs d,axt d,())
abbrev bM(d:aK):aV:=xc d ()
def Lj(d:aK):Int:=if Fv d=0 then 0 else match gX (di d) (Fv d)with|none=>14|some m=>if m.2.2.1=0 then 0 else 15
theorem ahO{d}(hl:(di d).length<=1000000):Mj d=some (Lj d,d):=by
 show mf aj d=_;unfold mf Lj;refine dE (λh=>?_) λh=>?_
 .rw[ah h]
 .rw[ag h,iW,ai (ta hl)];cases gX (di d) (Fv d)with
  |none=>rfl
  |some m=>refine zp (show(!true)=false from rfl) ?_;rw[ai (Me m)]
def CE(d:aK):cj:=match zR (cx d) (ux d)with|some g=>g|none=>anQ
theorem abJ{d}(hl:(cx d).length<=1000000):Ol d=some (CE d,d):=by show kG aj d=_;unfold kG CE;rw[iW,ai (TE hl)];cases zR (cx d) (ux d)<;>rfl
def Om(d:aK):bR:=match zT (dR d) (ux d)with|some g=>g|none=>asL
theorem aol{d}(hl:(dR d).length<=1000000):On d=some (Om d,d):=by show ni aj d=_;unfold ni Om;rw[iW,ai (ab4 hl)];cases zT (dR d) (ux d)<;>rfl
theorem H7{d}{u}(h:qC (bs d)):P6 d u=some (sT (bs d) u==Fv d,d):=by show gD aj d u=_;unfold gD;rw[ai (QS h)]
def GP(d:aK)(id:Int):Bool:=match fj (bs d) id with|some a=>a.2.1==Fv d|none=>false
theorem aev{d}{id:Int}(h:qC (bs d))(hs:Xb (bs d)):JO d id=some (GP d id,d):=by show kX aj d id=_;unfold kX GP;rw[ai (Hn h hs)];cases fj (bs d) id<;>rfl
def Uh(d:aK)(u:ar):Int:=if sT (bs d) u=0 then 11 else 0
theorem VQ{d}{u}(h:qC (bs d)):CF d u=some (Uh d u,d):=by
 show jw aj d u=_;unfold jw Uh;rw[ai (QS h)];refine dE (λj=>?_) λj=>?_
 .rw[ah j]
 .rw[ag j]
def vE(d:aK)(u:ar):aW:=match gX (di d) (sT (bs d) u)with|some m=>m|none=>Br
theorem Mk{d}{u}(h:qC (bs d))(hl:(di d).length<=1000000):DQ d u=some (vE d u,d):=by
 show iJ aj d u=_;unfold iJ vE;have e:(aj.ae (qU aj (bs d) u) λv4=>aj.ae (im aj (di d) v4) λj=>some (j.1,d))=some ((match gX (di d) (sT (bs d) u)with|some m=>m|none=>Br),d):=by rw[ai (QS h),ai (ta hl)];cases gX (di d) (sT (bs d) u)<;>rfl
 refine jN ?_ e;rw[ai (QS h),iW,ai (ta hl)];cases gX (di d) (sT (bs d) u)<;>rfl
def o9(d:aK):List ar->Int
 |[]=>0
 |u::l=>if Uh d u=0 then(if(vE d u).2.2.1=0 then o9 d l else 15)else Uh d u
theorem BC{d}{l}(h:qC (bs d))(hl:(di d).length<=1000000)(R:l.length<=1000):sJ d l=some (o9 d l,d):=by
 show fT aj d l=_;refine gB (l:=l) (S:=aK) (by omega) (λ_ z=>z=d) (λt _=>some (o9 d t,d)) rfl ?_ ?_
 .rintro _ j rfl;refine FQ ?_;rfl
 .intro i hi z J j K;have F:=J.symm;subst F;refine Ii hi ?_;rw[bN hi];refine vC (VQ h) ?_;show aj.af (Uh d l[i] != 0) (some (Uh d l[i],d)) (aj.ae (DQ d l[i]) λC=>aj.ae (qD C.1) λH=>aj.af (H != 0) (some (H,C.2)) (j (IntKind.i64.wrap ((i:Int)+1),C.2)))=some ((if Uh d l[i]=0 then(if(vE d l[i]).2.2.1=0 then o9 d (l.drop (i+1))else 15)else Uh d l[i]),d);refine iS (λG=>?_) λG=>?_
  .rw[ah G,ai (Mk h hl),ai (Me _)];by_cases y:(vE d l[i]).2.2.1=0
   .rw[ah y,ah y,aB (by rfl),cJ i];exact K d rfl
   .rw[ag y,ag y,aQ (by rfl)]
  .rw[ag G]
def iQ(d:aK):aW×Int×Unit:=match gX (di d) (yt d)with|some m=>(m,0,())|none=>(Br,11,())
theorem zt{d}(hl:(di d).length<=1000000):BP d=some (iQ d,d):=by show fE aj d=_;unfold fE iQ;rw[iW,ai (ta hl)];cases gX (di d) (yt d)<;>rfl
def rR(d:aK)(id:Int):bH×Int×Unit:=match oE (fD d) id with|some m=>(m,0,())|none=>(ajx,11,())
theorem QW{d}{id}(h:Up (fD d)):P7 d id=some (rR d id,d):=by show jj aj d id=_;unfold jj rR;have j:=h.2;rw[ai (Xd (bU j (by decide)) λi hi=>by have:=h.1 i hi;omega)];cases oE (fD d) id<;>rfl
def Bo(d:aK)(u:ar):Bool:=sT (bs d) u==Fv d
def TT(d:aK):Bool:=if bT d=5\/bT d=28\/bT d=29 then GP d (uw d)else if bT d=7 then(Bo d (cu d)||Bo d (aT d))else if bT d=8\/bT d=12\/bT d=17\/bT d=18\/bT d=19\/bT d=26\/bT d=27 then Bo d (aT d)else if bT d=9\/bT d=10 then Bo d (CE d).2.2.1 else if bT d=11 then Bo d (CE d).2.1 else if bT d=13 then Bo d (Om d).2.1 else if bT d=20 then Bo d (cu d)else if bT d=31 then yt d==Fv d else false
theorem aru{d}(h:qC (bs d))(hs:Xb (bs d))(hg:(cx d).length<=1000000)(hb:(dR d).length<=1000000):P8 d=some (TT d,d):=by
 show rp aj d=_;refine bB λk4 hk4=>?_
 have K4:k4 ()=some (Bo d (CE d).2.2.1,d):=by subst hk4;refine vC (abJ hg) ?_;rw[ai (H7 h)];rfl
 refine bB λC hk7=>?_
 have K7:C d=some (Bo d (aT d),d):=by subst hk7;refine vC (H7 h) ?_;rfl
 refine bB λG Y=>?_
 have K10:G ()=some (GP d (uw d),d):=by subst Y;exact vC (aev h hs) rfl
 refine bB λF V=>?_
 have K22:¬(bT d=5\/bT d=28\/bT d=29)->F ()=some (TT d,d):=by
  intro H;unfold TT;rw[ag H];subst V;refine dE (λh7=>?_) λh7=>?_
  .rw[ah h7,ai (H7 h)];show aj.af (Bo d (cu d)) (some (true,d)) (C d)=_;cases Bo d (cu d)with
   |true=>rfl
   |false=>rw[aB rfl,K7];rfl
  .rw[ag h7];refine bB λj W=>?_
   have K21:¬(bT d=8\/bT d=12\/bT d=17\/bT d=18\/bT d=19\/bT d=26\/bT d=27)->j ()=some ((if bT d=9\/bT d=10 then Bo d (CE d).2.2.1 else if bT d=11 then Bo d (CE d).2.1 else if bT d=13 then Bo d (Om d).2.1 else if bT d=20 then Bo d (cu d)else if bT d=31 then yt d==Fv d else false),d):=by
    intro y;subst W;show aj.aH _ _=_;refine bB λk20 X=>?_
    have K20:k20 ()=some ((if bT d=11 then Bo d (CE d).2.1 else if bT d=13 then Bo d (Om d).2.1 else if bT d=20 then Bo d (cu d)else if bT d=31 then yt d==Fv d else false),d):=by
     subst X;refine dE (λJ=>?_) λJ=>?_
     .rw[ah J,ai (abJ hg),ai (H7 h)];rfl
     .rw[ag J];refine dE (λK=>?_) λK=>?_
      .rw[ah K,ai (aol hb),ai (H7 h)];rfl
      .rw[ag K];refine dE (λh3=>?_) λh3=>?_
       .rw[ah h3,ai (H7 h)];rfl
       .rw[ag h3];refine dE (λh4=>?_) λh4=>?_
        .rw[ah h4]
        .rw[ag h4]
    refine dE (λJ=>?_) λJ=>?_
    .rw[oJ J,ah (.inl J),K4]
    .refine dE (λK=>?_) λK=>?_
     .rw[ah (.inr K),K4]
     .rw[K20,ag (show ¬(bT d=9\/bT d=10)from λq=>q.elim J K)]
   generalize hR:(if bT d=9\/bT d=10 then Bo d (CE d).2.2.1 else if bT d=11 then Bo d (CE d).2.1 else if bT d=13 then Bo d (Om d).2.1 else if bT d=20 then Bo d (cu d)else if bT d=31 then yt d==Fv d else false)=R at K21 ⊢;show aj.af (bT d==8) (aj.af (bT d==8) (C d) (j ())) (aj.af (bT d==12) (aj.af (bT d==12) (C d) (j ())) (aj.af (bT d==17) (aj.af (bT d==17) (C d) (j ())) (aj.af (bT d==18) (aj.af (bT d==18) (C d) (j ())) (aj.af (bT d==19) (aj.af (bT d==19) (C d) (j ())) (aj.af (bT d==26) (aj.af (bT d==26) (C d) (j ())) (aj.af (bT d==27) (C d) (j ())))))))=_;by_cases y:bT d=8\/bT d=12\/bT d=17\/bT d=18\/bT d=19\/bT d=26\/bT d=27
   .rw[ah y,K7];rcases y with q|q|q|q|q|q|q<;>rw[q]<;>rfl
   .rw[ag y,K21 y];have e:∀n:Int,bT d≠n->(bT d==n)=false:=λn hn=>by simpa using hn
    rw[e 8 (λq=>y (.inl q)),e 12 (λq=>y (.inr (.inl q))),e 17 (λq=>y (.inr (.inr (.inl q)))),e 18 (λq=>y (.inr (.inr (.inr (.inl q))))),e 19 (λq=>y (.inr (.inr (.inr (.inr (.inl q)))))),e 26 (λq=>y (.inr (.inr (.inr (.inr (.inr (.inl q))))))),e 27 (λq=>y (.inr (.inr (.inr (.inr (.inr (.inr q)))))))];rfl
 show aj.af (bT d==5) (aj.af (bT d==5) (G ()) (F ())) (aj.af (bT d==28) (aj.af (bT d==28) (G ()) (F ())) (aj.af (bT d==29) (G ()) (F ())))=_;by_cases H:bT d=5\/bT d=28\/bT d=29
 .have em:TT d=GP d (uw d):=by unfold TT;rw[ah H]
  rw[em,K10];rcases H with q|q|q<;>rw[q]<;>rfl
 .rw[K22 H];have e:∀n:Int,bT d≠n->(bT d==n)=false:=λn hn=>by simpa using hn
  rw[e 5 (λq=>H (.inl q)),e 28 (λq=>H (.inr (.inl q))),e 29 (λq=>H (.inr (.inr q)))];rfl
def Gj(d:aK):Int:=if Fv d=0\/TT d=true then 0 else 14
theorem acQ{d}(h:qC (bs d))(hs:Xb (bs d))(C:(cx d).length<=1000000)(hb:(dR d).length<=1000000):JP d=some (Gj d,d):=by
 show kY aj d=_;unfold kY Gj;refine bB λF j=>?_
 refine dE (λy=>?_) λy=>?_
 .rw[ah (.inl y)];subst j;rfl
 .rw[ai (aru h hs C hb)];cases hm:TT d with
  |true=>rw[ah (.inr rfl)];subst j;rfl
  |false=>rw[ag (show ¬(Fv d=0\/false=true)from λq=>q.elim y (by decide))];subst j;rfl
def axu(d:aK)(b:List bC)(p:List aU):aK:=U8 d (b,eU d,p,d.2.2.2.2.2.2.2.2.2.2.2)
def IG(d:aK)(f t x:ar)(p:Int):Int×aK:=if(rR d x.1).2.1=0 then(if(atP (cf d,fN d,()) (rR d x.1).1 f t x.2.1 p).2.1=0 then(0,axu d (atP (cf d,fN d,()) (rR d x.1).1 f t x.2.1 p).1.1 (atP (cf d,fN d,()) (rR d x.1).1 f t x.2.1 p).1.2.1)else((atP (cf d,fN d,()) (rR d x.1).1 f t x.2.1 p).2.1,d))else((rR d x.1).2.1,d)
structure aku(d:aK):Prop where
 i:Up (fD d)
 b:okB (cf d)
 bl:(cf d).length<=64
 p:tT (fN d)
 pl:(fN d).length<=94
theorem aom{d}{id}(h:Up (fD d)):(rR d id).1.2.2.2.2.1.length<=1000:=by
 unfold rR;cases j:oE (fD d) id with
 |none=>exact bE _
 |some i=>exact h.1 i (abD j)
theorem asO{d}{f t x}{p:Int}(O:aku d)(C:cy x.2.1):IS d f t x p=some (IG d f t x p):=by
 show oU aj d f t x p=_;unfold oU IG;rw[ai (QW O.i)];show aj.af ((rR d x.1).2.1 != 0) (some ((rR d x.1).2.1,d)) (aj.two (aj.ae (agz (cf d,fN d,()) (rR d x.1).1 f t x.2.1 p) _))=_;by_cases h:(rR d x.1).2.1=0
 .have hl:=aom (id:=x.1) O.i;rw[gY h,ah h,iW,ai (ayy (d:=(cf d,fN d,())) ⟨⟨O.b,O.bl⟩,O.p,O.pl⟩ (by omega) C)];refine bB λF j=>?_
  refine dE (λy=>?_) λy=>?_
  .rw[ah y];subst j;dsimp only;rw[y];rfl
  .rw[ag y];subst j;rfl
 .rw[fz h,ag h]
def R0(d:aK):List ar->Int
 |[]=>0
 |u::l=>if(pa (bM d) (vE d u).1).2.1=0 then(if(vE d u).2.1<(pa (bM d) (vE d u).1).1 then 16 else R0 d l)else(pa (bM d) (vE d u).1).2.1
theorem aew{d}{l}(h:qC (bs d))(C:(bs d).length<=20)(hl:(di d).length<=1000000)(hb:okB (cf d))(K:l.length<=1000):GQ d l=some (R0 d l,d):=by
 show mT aj d l=_;refine gB (l:=l) (S:=aK) (by omega) (λ_ z=>z=d) (λt _=>some (R0 d t,d)) rfl ?_ ?_
 .rintro _ j rfl;refine FQ ?_;rfl
 .intro i hi z H j J;have y:=H.symm;subst y;refine Ii hi ?_;rw[bN hi];refine vC (Mk h hl) ?_;refine vC (adO (s:=bM d) h C hb) ?_;show aj.af ((pa (bM d) (vE d l[i]).1).2.1 != 0) (some ((pa (bM d) (vE d l[i]).1).2.1,d)) (aj.af (decide ((vE d l[i]).2.1<(pa (bM d) (vE d l[i]).1).1)) (some (16,d)) (j (IntKind.i64.wrap ((i:Int)+1),d)))=some ((if(pa (bM d) (vE d l[i]).1).2.1=0 then(if(vE d l[i]).2.1<(pa (bM d) (vE d l[i]).1).1 then 16 else R0 d (l.drop (i+1)))else(pa (bM d) (vE d l[i]).1).2.1),d);refine iS (λG=>?_) λG=>?_
  .rw[ah G];refine dh (λF=>?_) λF=>?_
   .rw[ah F]
   .rw[ag F,cJ i];exact J d rfl
  .rw[ag G]
structure Eh(d:aK):Prop extends aku d where
 a:qC (bs d)
 al:(bs d).length<=20
 as:Xb (bs d)
 m:(di d).length<=1000
 ms:oo (·.1) (di d)
 is:oo (·.1) (fD d)
 g:(dR d).length<=64
 gs:oo (·.1) (dR d)
 gi:∀x∈dR d,0<=x.1/\x.1<=1048576
 gl:∀x∈dR d,cy x.2.2.2.2.1
 v:(cx d).length<=64
 vs:oo (·.1) (cx d)
 vi:∀x∈cx d,0<=x.1/\x.1<=1048576
 vq:∀x∈cx d,cy x.2.2.2.1.2.1
 q:cy (dA d)
def Lg(d:aK):Int×aK:=if o9 d [aT d,cu d]=0 then(if(rR d (jl d)).2.1=0 then(if dA d<1 then(2,d)else(if(IG d (cu d) (aT d) (jl d,dA d,()) (kM d)).1=0 then(R0 (IG d (cu d) (aT d) (jl d,dA d,()) (kM d)).2 [aT d,cu d],(IG d (cu d) (aT d) (jl d,dA d,()) (kM d)).2)else IG d (cu d) (aT d) (jl d,dA d,()) (kM d)))else((rR d (jl d)).2.1,d))else(o9 d [aT d,cu d],d)
theorem agS{d}{f t x}{p}(O:aku d)(h:(IG d f t x p).1=0):okB (cf (IG d f t x p).2)/\bs (IG d f t x p).2=bs d/\di (IG d f t x p).2=di d:=by
 unfold IG at h ⊢;by_cases y:(rR d x.1).2.1=0
 .rw[ah y]at h ⊢;by_cases j:(atP (cf d,fN d,()) (rR d x.1).1 f t x.2.1 p).2.1=0
  .rw[ah j];have A:=ak3 j;exact⟨A.bk.ok O.b (by have:=O.bl;dsimp only;omega),rfl,rfl⟩
  .rw[ag j]at h;exact absurd h j
 .rw[ag y]at h;exact absurd h y
theorem arv{d}(O:Eh d):P9 d=some (Lg d):=by
 show oV aj d=_;unfold oV Lg;have hm:=O.m;rw[ai (BC (l:=[aT d,cu d]) O.a (by omega) (by simp))];refine iS (λF=>?_) λF=>?_
 .rw[ah F,ai (QW O.i)];refine iS (λy=>?_) λy=>?_
  .rw[ah y];refine dh (λC=>?_) λC=>?_
   .rw[ah C]
   .rw[ag C];refine vC (asO O.toaku O.q) ?_;by_cases j:(IG d (cu d) (aT d) (jl d,dA d,()) (kM d)).1=0
    .have⟨b1,H,J⟩:=agS O.toaku j
     have same:[aT (IG d (cu d) (aT d) (jl d,dA d,()) (kM d)).2,cu (IG d (cu d) (aT d) (jl d,dA d,()) (kM d)).2]=[aT d,cu d]:=by
      unfold IG;rw[ah y];by_cases G:(atP (cf d,fN d,()) (rR d (jl d)).1 (cu d) (aT d) (dA d) (kM d)).2.1=0
      .rw[ah G];rfl
      .rw[ag G]
     rw[gY j,ah j,same,ai (aew (by rw[H];exact O.a) (by rw[H];exact O.al) (by rw[J];omega) b1 (by simp))]
    .rw[fz j,ag j]
  .rw[ag y]
 .rw[ag F]
def axv(d:aK)(g:List cj)(n:List Int):aK:=U7 d (g,U19 d.2.2.2.2.2.2.2.2 (n,d.2.2.2.2.2.2.2.2.2.2.2.2.2.2.2.2.2.2.2.2.2.2.2.2.2.2.2.2))
def C9(d:aK)(g:cj):Int×aK:=if(Lh (cx d) g (gb d)).2.2.1=0 then(0,axv d (Lh (cx d) g (gb d)).1 [(Lh (cx d) g (gb d)).2.1])else((Lh (cx d) g (gb d)).2.2.1,d)
theorem agT{d}{g}(O:Eh d):yC d g=some (C9 d g):=by
 show lT aj d g=_;unfold lT C9;have hv:=O.v;rw[ai (arl (by omega) O.vi)];refine bB λy j=>?_
 refine dE (λh=>?_) λh=>?_
 .rw[ah h];subst j;dsimp only;rw[h];rfl
 .rw[ag h];subst j;rfl
def aon(d:aK):cj:=(0,aT d,cu d,(jl d,dA d,()),kM d,0,0,0,())
def RL(d:aK):Int×aK:=if o9 d [aT d,cu d]=0 then(if(rR d (jl d)).2.1=0 then(if(dA d < -1099511627776\/1099511627776<dA d)\/kM d<0\/2147483647<kM d then(2,d)else C9 d (aon d))else((rR d (jl d)).2.1,d))else(o9 d [aT d,cu d],d)
theorem arw{d}(O:Eh d):Ml d=some (RL d):=by
 show mg aj d=_;unfold mg RL;have hm:=O.m;rw[ai (BC (l:=[aT d,cu d]) O.a (by omega) (by simp))];refine iS (λG=>?_) λG=>?_
 .rw[ah G,ai (QW O.i)];refine iS (λF=>?_) λF=>?_
  .rw[ah F];refine bB λJ j=>?_
   have y:J (true,())=some (2,d):=by subst j;rfl
   have K:J (false,())=some (C9 d (aon d)):=by subst j;show aj.af false _ (aj.ae (yC d (aon d)) _)=_;rw[aB rfl,ai (agT O)]
   refine dh (λc1=>?_) λc1=>?_
   .rw[y,ah (.inl (.inl c1))]
   .refine dh (λc2=>?_) λc2=>?_
    .rw[y,ah (.inl (.inr c2))]
    .refine dh (λH=>?_) λH=>?_
     .rw[y,ah (.inr (.inl H))]
     .by_cases C:2147483647<kM d
      .rw[ap C,y,ah (.inr (.inr C))]
      .rw[an C,K,ag (show ¬((dA d < -1099511627776\/1099511627776<dA d)\/kM d<0\/2147483647<kM d)from λq=>q.elim (λq=>q.elim c1 c2) λq=>q.elim H C)]
  .rw[ag F]
 .rw[ag G]
def Cn(d:aK)(g:List cj):aK:=U7 d (g,d.2.2.2.2.2.2.2.2)
theorem QB{α}{f}{g:α->α}(h:∀y,f (g y)=f y){l:List α}(hs:oo f l):oo f (l.map g):=by unfold oo at *;rw[gQ];rw[show(f ∘ g)=f from funext h];exact hs
theorem afu{l}{id st}(h:(eL l id st).2.1=0):(eL l id st).1=l.map λy=>if y.1=id then RM st y else y:=by
 unfold eL at h ⊢;cases j:zR l id with
 |none=>rw[j]at h;exact absurd (show(11:Int)=0 from h) (by decide)
 |some g=>
  rw[j]at h;dsimp only at h ⊢;by_cases c:st<2\/5<st
  .rw[ah c]at h;exact absurd h (by decide)
  .rw[ag c]at h ⊢;by_cases e:g.2.2.2.2.2.2.2.1=1
   .rw[ah e]
   .rw[ag e]at h;exact absurd h (by decide)
theorem afv{l}{id q}(h:(yA l id q).2.1=0):∃n,lH n/\(yA l id q).1=l.map λy=>if y.1=id then kD n y else y:=by
 unfold yA at h ⊢;cases j:zT l id with
 |none=>rw[j]at h;exact absurd (show(11:Int)=0 from h) (by decide)
 |some g=>
  rw[j]at h;dsimp only at h ⊢;by_cases c:cy (g.2.2.2.2.1+q)/\lH (g.2.2.2.2.1+q)
  .rw[ah c];exact⟨_,c.2,rfl⟩
  .rw[ag c]at h;exact absurd h (by decide)
theorem Eh.Cn{d}(O:Eh d){id st:Int}(h:(eL (cx d) id st).2.1=0):Eh (Cn d (eL (cx d) id st).1):=by
 have e:=afu h;have F:∀y:cj,(if y.1=id then RM st y else y).1=y.1:=λy=>by split<;>rfl
 have G:∀y:cj,(if y.1=id then RM st y else y).2.2.2.1.2.1=y.2.2.2.1.2.1:=λy=>by split<;>rfl
 refine { O with v:=?_,vs:=?_,vi:=?_,vq:=?_ }
 .show(eL (cx d) id st).1.length<=64;rw[e,bp];exact O.v
 .show oo (·.1) (eL (cx d) id st).1;rw[e];exact QB F O.vs
 .show ∀x∈(eL (cx d) id st).1,_;rw[e];intro x C;obtain⟨y,j,rfl⟩:=aN.1 C;rw[F];exact O.vi y j
 .show ∀x∈(eL (cx d) id st).1,_;rw[e];intro x C;obtain⟨y,j,rfl⟩:=aN.1 C;rw[G];exact O.vq y j
def Fg(d:aK)(b:List bR):aK:=U6 d (b,d.2.2.2.2.2.2.2)
theorem Eh.Fg{d}(O:Eh d){id q:Int}(h:(yA (dR d) id q).2.1=0):Eh (Fg d (yA (dR d) id q).1):=by
 have⟨n,G,e⟩:=afv h;have F:∀y:bR,(if y.1=id then kD n y else y).1=y.1:=λy=>by split<;>rfl
 refine { O with g:=?_,gs:=?_,gi:=?_,gl:=?_ }
 .show(yA (dR d) id q).1.length<=64;rw[e,bp];exact O.g
 .rw[e];exact QB F O.gs
 .rw[e];intro x C;obtain⟨y,j,rfl⟩:=aN.1 C;rw[F];exact O.gi y j
 .rw[e];intro x C;obtain⟨y,j,rfl⟩:=aN.1 C;by_cases c:y.1=id
  .rw[ah c];show cy n;unfold lH at G;unfold cy;omega
  .rw[ag c];exact O.gl y j
def gOf(l:List cj)(id:Int):cj:=match zR l id with|some g=>g|none=>anQ
def FF(d:aK)(id st:Int):Int×aK:=if(eL (cx d) id st).2.1=0 then(if(gOf (eL (cx d) id st).1 id).2.2.2.2.2.1=0 then(0,Cn d (eL (cx d) id st).1)else(if(yA (dR d) (gOf (eL (cx d) id st).1 id).2.2.2.2.2.1 (gOf (eL (cx d) id st).1 id).2.2.2.1.2.1).2.1=0 then(0,Fg (Cn d (eL (cx d) id st).1) (yA (dR d) (gOf (eL (cx d) id st).1 id).2.2.2.2.2.1 (gOf (eL (cx d) id st).1 id).2.2.2.1.2.1).1)else((yA (dR d) (gOf (eL (cx d) id st).1 id).2.2.2.2.2.1 (gOf (eL (cx d) id st).1 id).2.2.2.1.2.1).2.1,Cn d (eL (cx d) id st).1)))else((eL (cx d) id st).2.1,d)
theorem ajd{t}{id}(hl:t.length<=1000000):∃b,WL t id=some (gOf t id,b):=by rw[TE hl];unfold gOf;cases zR t id<;>exact⟨_,rfl⟩
theorem axw{l}(h:∀x∈l,cy x.2.2.2.1.2.1)(id):cy (gOf l id).2.2.2.1.2.1:=by
 unfold gOf;cases j:zR l id with
 |none=>decide
 |some g=>exact h g (bV j)
theorem aex{d}{id st}(O:Eh d):GR d id st=some (FF d id st):=by
 show kN aj d id st=_;unfold kN FF;have hv:=O.v;have K:=O.g;rw[ai (ab3 (by omega) O.vs)];by_cases h:(eL (cx d) id st).2.1=0
 .have F:=O.Cn h;have G:(eL (cx d) id st).1.length<=64:=F.v;have⟨b,hb⟩:=ajd (t:=(eL (cx d) id st).1) (id:=id) (by omega);rw[gY h,ah h,ai hb];have H:cy (gOf (eL (cx d) id st).1 id).2.2.2.1.2.1:=axw F.vq id;refine dE (λC=>?_) λC=>?_
  .rw[ah C];rfl
  .rw[ag C,ai (anW (by omega) O.gs O.gl H)];refine bB λJ j=>?_
   refine dE (λy=>?_) λy=>?_
   .rw[ah y];subst j;dsimp only;rw[y];rfl
   .rw[ag y];subst j;rfl
 .rw[fz h,ag h]
theorem arx{d}{id st}(O:Eh d)(h:(FF d id st).1=0):Eh (FF d id st).2:=by
 unfold FF at h ⊢;by_cases y:(eL (cx d) id st).2.1=0
 .rw[ah y]at h ⊢;have F:=O.Cn y;by_cases C:(gOf (eL (cx d) id st).1 id).2.2.2.2.2.1=0
  .rw[ah C];exact F
  .rw[ag C]at h ⊢;by_cases j:(yA (dR d) (gOf (eL (cx d) id st).1 id).2.2.2.2.2.1 (gOf (eL (cx d) id st).1 id).2.2.2.1.2.1).2.1=0
   .rw[ah j];exact F.Fg j
   .rw[ag j]at h;exact absurd h j
 .rw[ag y]at h;exact absurd h y
def BB(st:Int):List Int->aK->Int×aK
 |[],d=>(0,d)
 |id::l,d=>if(FF d id st).1=0 then BB st l (FF d id st).2 else FF d id st
theorem afy{d}{ids}{st}(O:Eh d)(F:ids.length<=1000000):sI d ids st=some (BB st ids d):=by
 refine gB (l:=ids) (S:=aK) (by omega) (λ_ z=>Eh z) (λt z=>some (BB st t z)) O ?_ ?_
 .intro z j _;refine FQ ?_;rfl
 .intro i hi z y j C;refine Ii hi ?_;rw[bN hi];show aj.ae (GR z ids[i] st) _=some (if(FF z ids[i] st).1=0 then BB st (ids.drop (i+1)) (FF z ids[i] st).2 else FF z ids[i] st);rw[ai (aex y)];refine iS (λh=>?_) λh=>?_
  .rw[ah h];dsimp only;rw[cJ i];exact C _ (arx y h)
  .rw[ag h]
def y7(d:aK):Int×aK:=
 match zR (cx d) (ux d)with
 |none=>(11,d)
 |some g=>if o9 d [g.2.1,g.2.2.1]=0 then(
  if(eL (cx d) g.1 2).2.1=0 then(
   if(IG (Cn d (eL (cx d) g.1 2).1) g.2.1 g.2.2.1 g.2.2.2.1 g.2.2.2.2.1).1=0 then(R0 (IG (Cn d (eL (cx d) g.1 2).1) g.2.1 g.2.2.1 g.2.2.2.1 g.2.2.2.2.1).2 [g.2.1,g.2.2.1],(IG (Cn d (eL (cx d) g.1 2).1) g.2.1 g.2.2.1 g.2.2.2.1 g.2.2.2.2.1).2)
   else IG (Cn d (eL (cx d) g.1 2).1) g.2.1 g.2.2.1 g.2.2.2.1 g.2.2.2.2.1)
  else((eL (cx d) g.1 2).2.1,d))
  else(o9 d [g.2.1,g.2.2.1],d)
theorem aje{d}(O:Eh d):Mm d=some (y7 d):=by
 show mh aj d=_;unfold mh y7;have hv:=O.v;have hm:=O.m;rw[iW,ai (TE (show(cx d).length<=1000000 by omega))];cases K:zR (cx d) (ux d)with
 |none=>rfl
 |some g=>
  have F:=O.vq g (bV K);refine zp (show(!true)=false from rfl) ?_;rw[ai (BC (l:=[g.2.1,g.2.2.1]) O.a (by omega) (by simp))]
  show _=some (if o9 d [g.2.1,g.2.2.1]=0 then(
   if(eL (cx d) g.1 2).2.1=0 then(
    if(IG (Cn d (eL (cx d) g.1 2).1) g.2.1 g.2.2.1 g.2.2.2.1 g.2.2.2.2.1).1=0 then(R0 (IG (Cn d (eL (cx d) g.1 2).1) g.2.1 g.2.2.1 g.2.2.2.1 g.2.2.2.2.1).2 [g.2.1,g.2.2.1],(IG (Cn d (eL (cx d) g.1 2).1) g.2.1 g.2.2.1 g.2.2.2.1 g.2.2.2.2.1).2)
    else IG (Cn d (eL (cx d) g.1 2).1) g.2.1 g.2.2.1 g.2.2.2.1 g.2.2.2.2.1)
   else((eL (cx d) g.1 2).2.1,d))
  else(o9 d [g.2.1,g.2.2.1],d))
  refine iS (λG=>?_) λG=>?_
  .rw[ah G,ai (ab3 (by show(cx d).length<=1000;omega) O.vs)];by_cases y:(eL (cx d) g.1 2).2.1=0
   .have C:=O.Cn y;rw[gY y,ah y];show aj.ae (IS (Cn d (eL (cx d) g.1 2).1) g.2.1 g.2.2.1 g.2.2.2.1 g.2.2.2.2.1) _=_;rw[ai (asO C.toaku F)];by_cases j:(IG (Cn d (eL (cx d) g.1 2).1) g.2.1 g.2.2.1 g.2.2.2.1 g.2.2.2.2.1).1=0
    .obtain⟨b1,H,R⟩:=agS C.toaku j;have J:=C.m;rw[aB (by simpa using j),ah j,ai (aew (l:=[g.2.1,g.2.2.1]) (by rw[H];exact C.a) (by rw[H];exact C.al) (by rw[R];omega) b1 (by simp))]
    .rw[aQ (by simpa using j),ag j]
   .rw[aQ (by simpa using y),ag y]
  .rw[ag G]
def RD(d:aK)(l:List aW):aK:=(gb d,l,d.2.2)
def vQ(d:aK)(m:aW):Int×aK:=if(yr (di d) m).2.1=0 then(0,RD d (yr (di d) m).1)else((yr (di d) m).2.1,d)
theorem XD{d}{m}(O:Eh d):Fh d m=some (vQ d m):=by
 show j4 aj d m=_;unfold j4 vQ;rw[ai (abz O.m O.ms)];refine bB λy j=>?_
 refine dE (λh=>?_) λh=>?_
 .rw[ah h];subst j;dsimp only;rw[h];rfl
 .rw[ag h];subst j;rfl
def y8(d:aK):Int:=if dA d<1\/(mZ d=0/\JN d≠0)then 2 else 0
theorem VO(d):Mn d=some (y8 d,d):=by
 show j5 aj d=_;unfold j5 y8;refine bB λJ j=>?_
 have G:J (true,())=some (2,d):=by subst j;rfl
 have H:J (false,())=some (0,d):=by subst j;rfl
 refine dh (λC=>?_) λC=>?_
 .rw[G,ah (.inl C)]
 .refine dE (λF=>?_) λF=>?_
  .by_cases y:JN d=0
   .rw[show(JN d != 0)=false by simpa using y,H,ag (show ¬(dA d<1\/(mZ d=0/\JN d≠0))from λq=>q.elim C λq=>q.2 y)]
   .rw[show(JN d != 0)=true by simpa using y,G,ah (.inr ⟨F,y⟩)]
  .rw[H,ag (show ¬(dA d<1\/(mZ d=0/\JN d≠0))from λq=>q.elim C λq=>F q.1)]
def aey(g:bR)(d:aK):cj:=(0,g.2.1,cu d,(g.2.2.1,dA d,()),g.2.2.2.1,g.1,0,0,())
def Ji(d:aK):Int×aK:=
 match zT (dR d) (ux d)with
 |none=>(11,d)
 |some g=>if o9 d [g.2.1,cu d]=0 then(
  if(kh (dR d) g.1 (dA d)).2.1=0 then C9 (Fg d (kh (dR d) g.1 (dA d)).1) (aey g d)else((kh (dR d) g.1 (dA d)).2.1,d))
  else(o9 d [g.2.1,cu d],d)
theorem aoo{l}{id q:Int}(C:∀x∈l,cy x.2.2.2.2.1)(F:cy q)(h:(kh l id q).2.1=0):∃n,cy n/\(kh l id q).1=l.map λy=>if y.1=id then kD n y else y:=by
 unfold kh at h ⊢;cases j:zT l id with
 |none=>rw[j]at h;exact absurd (show(11:Int)=0 from h) (by decide)
 |some g=>
  have G:=C g (bV j);rw[j]at h;dsimp only at h ⊢;by_cases c:q=0\/(g.2.2.2.2.1≠0/\decide (q<0)≠decide (g.2.2.2.2.1<0))
  .rw[ah c]at h;exact absurd h (by decide)
  .rw[ag c]at h ⊢;by_cases c2:(0<q/\g.2.2.2.2.1<q)\/(q<0/\q<g.2.2.2.2.1)
   .rw[ah c2]at h;exact absurd h (by decide)
   .rw[ag c2];refine⟨_,?_,rfl⟩;unfold cy at *;by_cases z:g.2.2.2.2.1=0
    .omega
    .have:decide (q<0)=decide (g.2.2.2.2.1<0):=by
      by_cases e:decide (q<0)=decide (g.2.2.2.2.1<0)
      .exact e
      .exact absurd (.inr ⟨z,e⟩) c
     rw[dM]at this;omega
theorem ajf{d}(O:Eh d){id:Int}(h:(kh (dR d) id (dA d)).2.1=0):Eh (Fg d (kh (dR d) id (dA d)).1):=by
 have⟨n,G,e⟩:=aoo O.gl O.q h;have F:∀y:bR,(if y.1=id then kD n y else y).1=y.1:=λy=>by split<;>rfl
 refine { O with g:=?_,gs:=?_,gi:=?_,gl:=?_ }
 .show(kh (dR d) id (dA d)).1.length<=64;rw[e,bp];exact O.g
 .show oo (·.1) (kh (dR d) id (dA d)).1;rw[e];exact QB F O.gs
 .show ∀x∈(kh (dR d) id (dA d)).1,_;rw[e];intro x C;obtain⟨y,j,rfl⟩:=aN.1 C;rw[F];exact O.gi y j
 .show ∀x∈(kh (dR d) id (dA d)).1,_;rw[e];intro x C;obtain⟨y,j,rfl⟩:=aN.1 C;by_cases c:y.1=id
  .rw[ah c];exact G
  .rw[ag c];exact O.gl y j
theorem aop{d}(O:Eh d):Oo d=some (Ji d):=by
 show nj aj d=_;unfold nj Ji;have F:=O.g;have hm:=O.m;rw[iW,ai (ab4 (show(dR d).length<=1000000 by omega))];cases G:zT (dR d) (ux d)with
 |none=>rfl
 |some g=>
  show aj.af (!true) _ (aj.ae (sJ d [g.2.1,cu d]) λj=>aj.af (j.1 != 0) (some j) (aj.ae (Pk (dR j.2) g.1 (dA j.2)) λv3=>aj.af (v3.2.1 != 0) (some (v3.2.1,j.2)) (aj.ae (yC (Fg j.2 v3.1) (aey g j.2)) λv4=>some v4)))=some (if o9 d [g.2.1,cu d]=0 then(if(kh (dR d) g.1 (dA d)).2.1=0 then C9 (Fg d (kh (dR d) g.1 (dA d)).1) (aey g d)else((kh (dR d) g.1 (dA d)).2.1,d))else(o9 d [g.2.1,cu d],d));rw[aB (show(!true)=false from rfl),ai (BC (l:=[g.2.1,cu d]) O.a (by omega) (by simp))];refine iS (λC=>?_) λC=>?_
  .rw[ah C,ai (aiU (by show(dR d).length<=1000;omega) O.gs O.gl O.q)];refine iS (λy=>?_) λy=>?_
   .rw[ah y,ai (agT (ajf O y))]
   .rw[ag y]
  .rw[ag C]
def axx(d:aK)(g:List bR)(p:List aU)(n:List Int):aK:=U6 d (g,U3 d.2.2.2.2.2.2.2 (p,U16 d.2.2.2.2.2.2.2.2.2.2.2 (n,d.2.2.2.2.2.2.2.2.2.2.2.2.2.2.2.2.2.2.2.2.2.2.2.2.2.2.2.2)))
def RP:ar:=(0,1,())
def Ur(d:aK):bR:=(0,aT d,jl d,(JM (yB (sS d))).2.1,(JM (yB (sS d))).1,())
def TV(d:aK):Int×Int×Unit:=agP (rR d (jl d)).1.2.1 (yB (sS d))
def Jj(d:aK):Int×aK:=if o9 d [aT d]=0 then(if(rR d (jl d)).2.1=0 then(if(JM (yB (sS d))).2.2.2=0 then(if(TV d).2.1=0 then(if(Gd (dR d) (Ur d)).2.2.1=0 then(if(ja (fN d) RP (aT d) (TV d).1).2.1=0 then(0,axx d (Gd (dR d) (Ur d)).1 (ja (fN d) RP (aT d) (TV d).1).1 [(Gd (dR d) (Ur d)).2.1,(JM (yB (sS d))).2.1,(TV d).1])else((ja (fN d) RP (aT d) (TV d).1).2.1,d))else((Gd (dR d) (Ur d)).2.2.1,d))else((TV d).2.1,d))else((JM (yB (sS d))).2.2.2,d))else((rR d (jl d)).2.1,d))else(o9 d [aT d],d)
theorem aez{l}(h:l.length<=1000):(yB l).length<=1000:=by
 unfold yB;by_cases c:l.length % 2=0
 .rw[ah c];exact bU (TL l) h
 .rw[ag c];exact bE _
theorem avp(d):cy (TV d).1:=by
 unfold TV agP;have z:cy 0:=by decide
 by_cases h:(JM (yB (sS d))).2.2.2=0
 .rw[ah h];by_cases j:(rR d (jl d)).1.2.1<1\/65536<(rR d (jl d)).1.2.1
  .rw[ah j];exact z
  .rw[ag j];exact Oi _
 .rw[ag h];exact z
theorem aoq{d}(O:Eh d)(K:(sS d).length<=1000):Oq d=some (Jj d):=by
 show nk aj d=_;unfold nk Jj;have hm:=O.m;have V:=O.g;have R:=O.pl;have j:=aez K;rw[ai (BC (l:=[aT d]) O.a (by omega) (by simp))];refine iS (λJ=>?_) λJ=>?_
 .rw[ah J,ai (QW O.i)];refine iS (λH=>?_) λH=>?_
  .rw[ah H];refine vC (arn K) ?_;rw[ai (WQ j)];refine iS (λG=>?_) λG=>?_
   .rw[ah G,ai (arr j)];show aj.af ((TV d).2.1 != 0) (some ((TV d).2.1,d)) (aj.ae (TH (dR d) (Ur d)) _)=_;refine iS (λF=>?_) λF=>?_
    .rw[ah F,ai (anX (by omega) O.gi)];refine iS (λC=>?_) λC=>?_
     .rw[ah C,ai (show xf=some RP from rfl)];show aj.ae (qE (fN d) RP (aT d) (TV d).1) _=_;rw[ai (M6 O.p (avp d) (by omega))];refine iS (λy=>?_) λy=>?_
      .rw[ah y];rfl
      .rw[ag y]
     .rw[ag C]
    .rw[ag F]
   .rw[ag G]
  .rw[ag H]
 .rw[ag J]
def Ek(d:aK):Int×aK:=if bT d=7 then Lg d else if bT d=8 then RL d else if bT d=9 then y7 d else if bT d=10 then FF d (ux d) 3 else if bT d=11 then FF d (ux d) 4 else if bT d=12 then Jj d else Ji d
theorem akM{d}(O:Eh d)(J:(sS d).length<=1000):Ot d=some (Ek d):=by
 show nl aj d=_;unfold nl Ek;refine dE (λH=>?_) λH=>?_
 .rw[ah H,ai (arv O)]
 .rw[ag H];refine dE (λG=>?_) λG=>?_
  .rw[ah G,ai (arw O)]
  .rw[ag G];refine dE (λF=>?_) λF=>?_
   .rw[ah F,ai (aje O)]
   .rw[ag F];refine dE (λC=>?_) λC=>?_
    .rw[ah C,ai (aex O)]
    .rw[ag C];refine dE (λy=>?_) λy=>?_
     .rw[ah y,ai (aex O)]
     .rw[ag y];refine dE (λj=>?_) λj=>?_
      .rw[ah j,ai (aoq O J)]
      .rw[ag j,ai (aop O)]
structure OkN(d:aK):Prop extends Eh d where
 ss:oo (·.1) (jc d)
 sl:(jc d).length<=1000
 n:(sS d).length<=1000
 cc:∀a∈bs d,oo (λx:Int=>x) a.2.2.2.1/\a.2.2.2.1.length<=16
def ary(d:aK)(l:List az):aK:=U4 d (l,d.2.2.2.2.2)
def HA(d:aK):Int:=if(iQ d).2.1=0 then(if(iQ d).1.2.2.1=0 then 0 else 15)else(iQ d).2.1
def C6(d:aK):az:=(uw d,yt d,ux d,[],())
def Ei(d:aK):Int×aK:=if pR d=0 then(if HA d=0 then((ON (bs d) (C6 d)).2.1,ary d (ON (bs d) (C6 d)).1)else(HA d,d))else(2,d)
theorem aor{d}(O:Eh d):vV d=some (Ei d):=by
 show jx aj d=_;unfold jx Ei;have hm:=O.m;refine iS (λF=>?_) λF=>?_
 .rw[ah F,ai (zt (by omega))];refine bB λy C=>?_
  have G:∀e:Int,y (e,())=some (if e=0 then((ON (bs d) (C6 d)).2.1,ary d (ON (bs d) (C6 d)).1)else(e,d)):=by
   intro e;subst C;refine bB λJ j=>?_
   refine dE (λh=>?_) λh=>?_
   .rw[ah h,ai (ari O.a O.as (bE _))];subst j;rfl
   .rw[ag h];subst j;rfl
  show aj.af ((iQ d).2.1==0) (aj.ae (qD (iQ d).1) λH=>y (H,())) (y ((iQ d).2.1,()))=_;unfold HA;refine dE (λh=>?_) λh=>?_
  .rw[ah h,ai (Me _),G]
  .rw[ag h,G]
 .rw[ag F]
def VK(d:aK)(id:Int):aW:=match gX (di d) id with|some m=>m|none=>Br
theorem ae0{t}{id}(hl:t.length<=1000000):∃b,Bs t id=some ((match gX t id with|some m=>m|none=>Br),b):=by rw[ta hl];cases gX t id<;>exact⟨_,rfl⟩
def Lf(d:aK):Int×aK:=
 match fj (bs d) (uw d)with
 |none=>(11,d)
 |some a=>if(VK d a.2.1).2.2.1=0 then(
  if(oH a (pR d)).2.1=0 then((OO (bs d) (oH a (pR d)).1).2.1,ary d (OO (bs d) (oH a (pR d)).1).1)else((oH a (pR d)).2.1,d))
  else(15,d)
theorem aos{a}{c}(h:a.2.2.2.1.length<=16):(oH a c).1.2.2.2.1.length<=1000:=by
 unfold oH;split
 .split
  .exact bE _
  .split
   .exact bE _
   .split
    .exact bE _
    .split
     .exact bE _
     .rw[u_];omega
 .exact bE _
theorem arz{d}(O:OkN d):Fw d=some (Lf d):=by
 show oW aj d=_;unfold oW Lf;have hm:=O.m;rw[iW,ai (Hn O.a O.as)];cases G:fj (bs d) (uw d)with
 |none=>rfl
 |some a=>
  have⟨c1,c2⟩:=O.cc a (bV G);have⟨b,hb⟩:=ae0 (t:=di d) (id:=a.2.1) (by omega);show aj.af (!true) _ (aj.two (aj.ae (Bs (di d) a.2.1) λF=>aj.ae (qD F.1) λv3=>aj.af (v3 != 0) (some (v3,d)) (aj.two (aj.ae (WN a (pR d)) _))))=some (if(VK d a.2.1).2.2.1=0 then(if(oH a (pR d)).2.1=0 then((OO (bs d) (oH a (pR d)).1).2.1,ary d (OO (bs d) (oH a (pR d)).1).1)else((oH a (pR d)).2.1,d))
  else(15,d))
  rw[aB (show(!true)=false from rfl),iW,ai hb];show aj.ae (qD (VK d a.2.1)) _=_;rw[ai (Me _)];by_cases y:(VK d a.2.1).2.2.1=0
  .rw[ah y,ah y,aB (by rfl),iW,ai (aoa (by omega) c1)];refine bB λH j=>?_
   refine dE (λC=>?_) λC=>?_
   .rw[ah C,ai (arj O.a O.as (aos c2))];subst j;rfl
   .rw[ag C];subst j;rfl
  .rw[ag y,ag y,aQ (by rfl)]
def akz(d:aK)(l:List bH):aK:=(gb d,di d,l,d.2.2.2)
def RG(d:aK)(l:List bh):aK:=U3 d (l,d.2.2.2.2)
def ahS(d:aK):aW:=(yt d,dA d,0,0,())
def avq(d:aK):bH:=(jl d,dA d,kM d,kM d,sS d,())
def avr(d:aK):bh:=(mZ d,kM d,dA d,())
def avs(d:aK):aW:=((iQ d).1.1,dA d,(iQ d).1.2.2)
def Ej(d:aK):Int×aK:=if bT d=1 then((Ga (di d) (ahS d)).2.1,RD d (Ga (di d) (ahS d)).1)else if bT d=2 then((Jh (fD d) (avq d)).2.1,akz d (Jh (fD d) (avq d)).1)else if bT d=3 then((RF (jc d) (avr d)).2.1,RG d (RF (jc d) (avr d)).1)else if bT d=4 then Ei d else if bT d=5 then Lf d else if bT d=6 then(if(iQ d).2.1=0 then((yr (di d) (avs d)).2.1,RD d (yr (di d) (avs d)).1)else((iQ d).2.1,d))else(0,d)
theorem akL{d}(O:OkN d):Ou d=some (Ej d):=by
 show np aj d=_;unfold np Ej;have hm:=O.m;refine bB λj C=>?_
 have y:∀x:Int×aK,j x=some x:=λx=>by subst C;rfl
 show aj.af (bT d==1) (aj.ae (TB (di d) (ahS d)) λv3=>j (v3.2.1,RD d v3.1)) (aj.af (bT d==2) (aj.ae (ab0 (fD d) (avq d)) λv4=>j (v4.2.1,akz d v4.1)) (aj.af (bT d==3) (aj.ae (WJ (jc d) (avr d)) λW=>j (W.2.1,RG d W.1)) (aj.af (bT d==4) (aj.ae (vV d) λY=>j Y) (aj.af (bT d==5) (aj.ae (Fw d) λX=>j X) (aj.af (bT d==6) (aj.ae (BP d) _) (j (0,d)))))))=_;refine dE (λV=>?_) λV=>?_
 .rw[ah V,ai (anM O.m O.ms),y]
 .rw[ag V];refine dE (λR=>?_) λR=>?_
  .rw[ah R,ai (anP O.i O.is O.n),y]
  .rw[ag R];refine dE (λK=>?_) λK=>?_
   .rw[ah K,ai (arh O.sl O.ss),y]
   .rw[ag K];refine dE (λJ=>?_) λJ=>?_
    .rw[ah J,ai (aor O.toEh),y]
    .rw[ag J];refine dE (λH=>?_) λH=>?_
     .rw[ah H,ai (arz O),y]
     .rw[ag H];refine dE (λG=>?_) λG=>?_
      .rw[ah G,ai (zt (by omega))];show aj.af ((iQ d).2.1 != 0) (some ((iQ d).2.1,d)) (aj.ae (TC (di d) (avs d)) λv9=>j (v9.2.1,RD d v9.1))=_;refine iS (λF=>?_) λF=>?_
       .rw[ah F,ai (abz O.m O.ms),y]
       .rw[ag F]
      .rw[ag G,y]
def UH(d:aK)(l:List aU):aK:=U10 d (l,d.2.2.2.2.2.2.2.2.2.2.2)
def Gg(d:aK)(n:Int):Int×aK:=if(qJ (fN d) [(aT d,n,())]).2.1=0 then(0,UH d (qJ (fN d) [(aT d,n,())]).1)else((qJ (fN d) [(aT d,n,())]).2.1,d)
theorem agU{d}{n:Int}(O:aku d)(F:cy n):P' d n=some (Gg d n):=by
 show lV aj d n=_;unfold lV Gg;have C:=O.pl;show aj.ae (zB (fN d) [(aT d,n,())]) _=_;rw[ai (aaV O.p (λx y=>by simp only[ax]at y;subst y;exact F) (by simp;omega))];refine bB λG j=>?_
 refine dE (λh=>?_) λh=>?_
 .rw[ah h];subst j;dsimp only;rw[h];rfl
 .rw[ag h];subst j;rfl
def TW(d:aK)(l:List bj):aK:=U11 d (l,d.2.2.2.2.2.2.2.2.2.2.2.2)
def sU(d:aK):bh:=(mZ d,JN d,dA d,())
def gH(d:aK):Int×aK:=if mZ d=0 then(if hJ (fN d) (aT d)<dA d then(23,d)else Gg d (-dA d))else if(pN (eY d) (aT d) (sU d)).2.1=0 then(0,TW d (pN (eY d) (aT d) (sU d)).1)else((pN (eY d) (aT d) (sU d)).2.1,d)
theorem akD{d:aK}(O:Eh d)(hh:kL (eY d))(W:0<=dA d):Ov d=some (gH d):=by
 show nq aj d=_;unfold nq gH;have R:=O.pl;have F:=O.q;refine dE (λG=>?_) λG=>?_
 .rw[ah G];show aj.ae (oG (fN d) (aT d)) _=_;rw[ai (IF (by omega))];by_cases y:hJ (fN d) (aT d)<dA d
  .rw[eA y,ah y]
  .have K:IntKind.i64.wrap (0-dA d) = -dA d:=by rw[bF _ (by unfold cy at F;omega)];omega
   rw[cQ y,ag y,K,ai (agU O.toaku (by unfold cy at F ⊢;omega))]
 .rw[ag G];refine bB λJ C=>?_
  have e:J ((pN (eY d) (aT d) (sU d)).2.1,xh d ((pN (eY d) (aT d) (sU d)).1,()))=some (if(pN (eY d) (aT d) (sU d)).2.1=0 then(0,TW d (pN (eY d) (aT d) (sU d)).1)else((pN (eY d) (aT d) (sU d)).2.1,d)):=by
   subst C;refine bB λV j=>?_
   by_cases h:(pN (eY d) (aT d) (sU d)).2.1=0
   .rw[ah h];refine tqy h ?_;subst j;dsimp only;rw[h];rfl
   .rw[ag h];refine tqn h ?_;subst j;rfl
  have c:(aj.ae (VB (eY d) (aT d) (sU d)) λH=>J (H.2.1,xh d (H.1,())))=some (if(pN (eY d) (aT d) (sU d)).2.1=0 then(0,TW d (pN (eY d) (aT d) (sU d)).1)else((pN (eY d) (aT d) (sU d)).2.1,d)):=by rw[ai (afk hh F)];exact e
  repeat' (first|exact c|refine jN ?_ ?_)
def akC(d:aK):Int:=if aT d=fU then 0 else o9 d [aT d]
def acP(d:aK):Int×aK:=if akC d=0 then(if y8 d=0 then(if mZ d=0 then Gg d (dA d)else(if(iD (jc d) (mZ d)).2.1=true then(if(yY (eY d) (aT d) (sU d)).2.1=0 then(0,TW d (yY (eY d) (aT d) (sU d)).1)else((yY (eY d) (aT d) (sU d)).2.1,d))else(11,d)))else(y8 d,d))else(akC d,d)
theorem at3{d}(O:OkN d)(hh:kL (eY d)):JQ d=some (acP d):=by
 show kZ aj d=_;unfold kZ acP;have hm:=O.m;have Y:=O.q;refine bB λy G=>?_
 have K:y d=some (if y8 d=0 then(
  if mZ d=0 then Gg d (dA d)else(
   if(iD (jc d) (mZ d)).2.1=true then(if(yY (eY d) (aT d) (sU d)).2.1=0 then(0,TW d (yY (eY d) (aT d) (sU d)).1)else((yY (eY d) (aT d) (sU d)).2.1,d))
   else(11,d)))
  else(y8 d,d)):=by
  subst G;refine vC (VO d) ?_;refine iS (λC=>?_) λC=>?_
  .rw[ah C];refine dE (λV=>?_) λV=>?_
   .rw[ah V,ai (agU O.toaku Y)]
   .rw[ag V];refine bB λk20 H=>?_
    refine(iW _).trans ?_;rw[ai (KZ O.sl)];subst H;show aj.af (!(iD (jc d) (mZ d)).2.1) (some (11,d)) (aj.aH _ _)=_;cases hf:(iD (jc d) (mZ d)).2.1 with
    |false=>rw[aQ (show(!false)=true from rfl),ag (by decide)]
    |true=>
     rw[aB (show(!true)=false from rfl),ah rfl];refine bB λX R=>?_
     have e:X ((yY (eY d) (aT d) (sU d)).2.1,xh d ((yY (eY d) (aT d) (sU d)).1,()))=some (if(yY (eY d) (aT d) (sU d)).2.1=0 then(0,TW d (yY (eY d) (aT d) (sU d)).1)else((yY (eY d) (aT d) (sU d)).2.1,d)):=by
      subst R;refine bB λk5 F=>?_
      by_cases h:(yY (eY d) (aT d) (sU d)).2.1=0
      .rw[ah h];refine tqy h ?_;subst F;dsimp only;rw[h];rfl
      .rw[ag h];refine tqn h ?_;subst F;rfl
     have c:(aj.ae (Z' (eY d) (aT d) (sU d)) λW=>X (W.2.1,xh d (W.1,())))=some (if(yY (eY d) (aT d) (sU d)).2.1=0 then(0,TW d (yY (eY d) (aT d) (sU d)).1)else((yY (eY d) (aT d) (sU d)).2.1,d)):=by rw[ai (akg hh Y)];exact e
     repeat' (first|exact c|refine jN ?_ ?_)
  .rw[ag C]
 rw[ai acG];have en:cY true ((uw d==fU.1)&&(pR d==fU.2.1))=!decide (aT d=fU):=by rw[<-tW];cases((uw d==fU.1)&&(pR d==fU.2.1))<;>rfl
 show aj.af (cY true ((uw d==fU.1)&&(pR d==fU.2.1))) (aj.ae (sJ d [aT d]) λj=>aj.af (j.1 != 0) (some j) (y j.2)) (y d)=_;rw[en];unfold akC;by_cases J:aT d=fU
 .rw[ap J,aB (show(!true)=false from rfl),ah J,K,ah rfl]
 .rw[an J,aQ (show(!false)=true from rfl),ag J,ai (BC (l:=[aT d]) O.a (by omega) (by simp))];refine iS (λC=>?_) λC=>?_
  .rw[ah C];exact K
  .rw[ag C]
def axy(d:aK)(id:Int):az:=match fj (bs d) id with|some a=>a|none=>vN
theorem VP{t}{id:Int}(h:qC t)(hs:Xb t):∃b,M3 t id=some ((match fj t id with|some a=>a|none=>vN),b):=by rw[Hn h hs];cases fj t id<;>exact⟨_,rfl⟩
def G_(d:aK)(u:ar):Int:=if Uh d u=0 then(if(axy d u.1).2.2.1=1 then 17 else 0)else Uh d u
theorem WT{d}{u}(O:Eh d):Mo d u=some (G_ d u,d):=by
 show j6 aj d u=_;unfold j6 G_;rw[ai (VQ O.a)];show aj.af (Uh d u != 0) (some (Uh d u,d)) _=_;by_cases h:Uh d u=0
 .have⟨b,hb⟩:=VP (id:=u.1) O.a O.as;rw[gY h,ah h,iW];refine vC hb ?_;show aj.af ((axy d u.1).2.2.1==1) _ _=_;refine dE (λj=>?_) λj=>?_
  .rw[ah j]
  .rw[ag j]
 .rw[fz h,ag h]
def axz(d:aK)(l:List bA):aK:=U5 d (l,d.2.2.2.2.2.2)
def Jl(d:aK):Int×aK:=if G_ d (aT d)=0 then(if 1<(vE d (aT d)).2.2.1 then(13,d)else(if G_ d (cu d)=0 then(if(Ep (jt d) (aT d) (cu d)).2.1=0 then(0,axz d (Ep (jt d) (aT d) (cu d)).1)else((Ep (jt d) (aT d) (cu d)).2.1,d))else(G_ d (cu d),d)))else(G_ d (aT d),d)
theorem akK{d}(O:Eh d)(G:(jt d).length<=1000):Ox d=some (Jl d):=by
 show nr aj d=_;unfold nr Jl;have hm:=O.m;refine vC (WT O) ?_;refine iS (λF=>?_) λF=>?_
 .rw[ah F,ai (Mk O.a (by omega))];refine dh (λC=>?_) λC=>?_
  .rw[ah C]
  .rw[ag C,ai (WT O)];refine iS (λy=>?_) λy=>?_
   .rw[ah y,ai (aiV G)];refine bB λH j=>?_
    refine dE (λh=>?_) λh=>?_
    .rw[ah h];subst j;dsimp only;rw[h];rfl
    .rw[ag h];subst j;rfl
   .rw[ag y]
 .rw[ag F]
def RT(d:aK):Int×aK:=if o9 d [cu d]=0 then(if(Er (jt d) (aT d) (cu d)).2.1=0 then(0,axz d (Er (jt d) (aT d) (cu d)).1)else((Er (jt d) (aT d) (cu d)).2.1,d))else(o9 d [cu d],d)
theorem apl{d}(O:Eh d)(C:(jt d).length<=1000):JR d=some (RT d):=by
 show la aj d=_;unfold la RT;have hm:=O.m;rw[ai (BC (l:=[cu d]) O.a (by omega) (by simp))];refine iS (λy=>?_) λy=>?_
 .rw[ah y,ai (aiW C)];refine bB λF j=>?_
  refine dE (λh=>?_) λh=>?_
  .rw[ah h];subst j;dsimp only;rw[h];rfl
  .rw[ag h];subst j;rfl
 .rw[ag y]
theorem aot{d}(O:Eh d):∃l e,DU d=some ((l,e,()),d):=by
 show ∃l e,ns aj d=_;unfold ns;have hm:=O.m;rw[ai (zt (by omega))];show ∃l e,aj.af ((iQ d).2.1 != 0) (some (([],(iQ d).2.1,()),d)) (aj.ae (Ws (bM d) (iQ d).1.1) _)=_;by_cases h:(iQ d).2.1=0
 .rw[aB (by simpa using h),ai (adO (s:=bM d) O.a O.al O.b)];exact⟨_,_,rfl⟩
 .rw[aQ (by simpa using h)];exact⟨_,_,rfl⟩
theorem avt{d}(O:Eh d):∃l e,Iw d=some ((l,e,()),d):=by
 show ∃l e,nv aj d=_;show ∃l e,aj.ae (KO (cf d) (aT d)) _=_;have⟨_,J⟩:=M5 O.b (aT d);rw[ai (Rf O.b)];generalize kc (cf d) (aT d)=v at *;refine nW (X:=Int×List ar×List Int×Unit) (β:=(List Int×Int×Unit)×aK) (λo=>∃l e,o=some ((l,e,()),d)) (λz=>v.length+1-z.1.toNat) (λz=>∃(j:Nat) (acc:List Int),j<=v.length/\acc.length<=2*j/\z=((j:Int),v,acc,())) ⟨0,[],bE _,au _,rfl⟩ (by dsimp only;omega) ?_;rintro _ ⟨j,acc,K,G,rfl⟩ y H;show ∃l e,aj.af (decide ((j:Int)<(v.length:Int))) (aj.aI v (j:Int) λ_=>aj.ct v (Int.toNat (j:Int)) λC=>aj.bg (acc.length+2) 8 (y (IntKind.i64.wrap ((j:Int)+1),v,acc++[C.1,C.2.1],()))) (aj.ae (CF d (aT d)) λF=>some ((acc,F.1,()),F.2))=_;by_cases h:j<v.length
 .rw[dk h,bN h,iI h,c9,cJ j];exact H _ ⟨j+1,_,by omega,by rw[aq];simp;omega,rfl⟩ (by dsimp only;omega)
 .rw[cQ (by omega),ai (VQ O.a)];exact⟨_,_,rfl⟩
theorem UI{d}(O:Eh d)(T:OkT (fD d))(S:F' (jc d,fD d,cf d,fN d,eY d,())):∃l e,BQ d=some ((l,e,()),d):=by
 show ∃l e,mi aj d=_;unfold mi;rw[iW,ai (Hn O.a O.as)];cases G:fj (bs d) (uw d)with
 |none=>exact⟨_,_,rfl⟩
 |some a=>
  have hl:=O.a.1 a (bV G);show ∃l e,aj.af (!true) _ (aj.af (bT d==28) (aj.ae (agR (fD d) (cf d) a (aT d)) _) (aj.aH _ _))=_;rw[aB (show(!true)=false from rfl)];by_cases h:bT d=28
  .have⟨v,e,C,_⟩:=agQ (u:=aT d) T O.b hl;rw[oJ h,ai C];exact⟨_,_,rfl⟩
  .rw[pq h];have⟨v,e,C,_⟩:=Nr (u:=aT d) S hl;have c:∀j:Int×Int×aK->Option ((List Int×Int×Unit)×aK),(aj.ae (En (jc d,fD d,cf d,fN d,eY d,()) a (aT d)) λF=>j (F.1,F.2.1,d))=j (v,e.1,d):=λj=>by rw[ai C]
   refine⟨[v],e.1,?_⟩;refine bB λj y=>?_
   have r:j (v,e.1,d)=some (([v],e.1,()),d):=by subst y;rfl
   refine jN ((c j).trans r) ((c j).trans r)
theorem BD{X β}{k}{f:(X->Option β)->Option β}{P:Option β->Prop}(h:∀j,j=k->P (f j)):P (aj.aH k f):=h k rfl
theorem ar0{d:aK}(O:Eh d):∃l e,Qd d=some ((l,e,()),d):=by
 show ∃l e,rq aj d=_;have R:=O.pl;refine BD (P:=λo=>∃l e,o=some ((l,e,()),d)) λj C=>?_
 have K:∀b:Bool,∃l e,j (b,())=some ((l,e,()),d):=by
  intro b;subst C;show ∃l e,aj.ae (CF d (aT d)) _=_;rw[ai (VQ O.a)];refine BD (P:=λo=>∃l e,o=some ((l,e,()),d)) λy F=>?_
  have J:∀c:Bool,∃l e,y (c,())=some ((l,e,()),d):=by
   intro c;subst F;show ∃l e,aj.af c (some (([],Uh d (aT d),()),d)) (aj.ae (oG (fN d) (aT d)) _)=_;cases c with
   |true=>exact⟨_,_,rfl⟩
   |false=>rw[aB rfl,ai (IF (by omega))];exact⟨_,_,rfl⟩
  show ∃l e,aj.af (Uh d (aT d) != 0) (y (!b,())) (y (false,()))=_;by_cases h:Uh d (aT d)=0
  .rw[aB (by simpa using h)];exact J _
  .rw[aQ (by simpa using h)];exact J _
 show ∃l e,aj.ae VD (λH=>aj.af (cY false ((uw d==H.1)&&(pR d==H.2.1))) (aj.two (j (true,()))) (aj.two (aj.ae xf λG=>j (cY false ((uw d==G.1)&&(pR d==G.2.1)),()))))=_;rw[ai acG,iW,iW,ai (show xf=some RP from rfl)];cases cY false ((uw d==fU.1)&&(pR d==fU.2.1))with
 |true=>exact K _
 |false=>exact K _
theorem YM{d}(O:Eh d)(S:F' (jc d,fD d,cf d,fN d,eY d,())):∃l e,DW d=some ((l,e,()),d):=by
 show ∃l e,qw aj d=_;have⟨v,e,h1,h2,_⟩:=aok S O.a.1 O.a.2;have W:=O.al;refine BD (P:=λo=>∃l e,o=some ((l,e,()),d)) λG H=>?_
 have K:∃l C,G (e.1,xh d (v,()))=some ((l,C,()),d):=by
  subst H;refine nW (X:=Int×List aU×List Int×Unit) (β:=(List Int×Int×Unit)×aK) (λo=>∃l e,o=some ((l,e,()),d)) (λz=>v.length+1-z.1.toNat) (λz=>∃(j:Nat) (acc:List Int),j<=v.length/\acc.length<=3*j/\z=((j:Int),v,acc,())) ⟨0,[],bE _,au _,rfl⟩ (by dsimp only;omega) ?_;rintro _ ⟨j,acc,hj,V,rfl⟩ y Y;show ∃l C,aj.af (decide ((j:Int)<(v.length:Int))) (aj.aI v (j:Int) λ_=>aj.ct v (Int.toNat (j:Int)) λF=>aj.bg (acc.length+3) 8 (y (IntKind.i64.wrap ((j:Int)+1),v,acc++[F.1.1,F.1.2.1,F.2.1],()))) (some ((acc,e.1,()),d))=_;by_cases h:j<v.length
  .rw[dk h,bN h,iI h,c9,cJ j];exact Y _ ⟨j+1,_,by omega,by rw[aq];simp;omega,rfl⟩ (by dsimp only;omega)
  .rw[cQ (by omega)];exact⟨_,_,rfl⟩
 have c:(aj.ae (Pn (jc d,fD d,cf d,fN d,eY d,()) (bs d)) λJ=>G (J.2.1,xh d (J.1,())))=G (e.1,xh d (v,())):=by rw[ai h1]
 have⟨l,C,R⟩:=K;exact⟨l,C,jN (c.trans R) (c.trans R)⟩
theorem aou{d}(O:Eh d)(T:OkT (fD d))(S:F' (jc d,fD d,cf d,fN d,eY d,())):∃l e,Oy d=some ((l,e,()),d):=by
 show ∃l e,nw aj d=_;unfold nw;have j:∀o:Option ((List Int×Int×Unit)×aK),(∃l e,o=some ((l,e,()),d))->∃l e,(aj.ae o λv=>some v)=some ((l,e,()),d):=by rintro _ ⟨l,e,rfl⟩;exact⟨l,e,rfl⟩
 by_cases G:bT d=26
 .rw[aQ (by simpa using G)];exact j _ (avt O)
 .rw[aB (by simpa using G)];by_cases F:bT d=27
  .rw[aQ (by simpa using F)];exact j _ (ar0 O)
  .rw[aB (by simpa using F)];refine BD (P:=λo=>∃l e,o=some ((l,e,()),d)) λR C=>?_
   have K:∀b:Bool,∃l e,R (b,())=some ((l,e,()),d):=by
    intro b;subst C;show ∃l e,aj.af b (aj.ae (BQ d) λv4=>some v4) (aj.af (bT d==30) (aj.ae (DW d) λJ=>some J) (aj.ae (DU d) λH=>some H))=_;cases b with
    |true=>exact j _ (UI O T S)
    |false=>
     rw[aB rfl];cases(bT d==30)with
     |true=>exact j _ (YM O S)
     |false=>exact j _ (aot O)
   refine BD (P:=λo=>∃l e,o=some ((l,e,()),d)) λV y=>?_
   subst y;dsimp only;cases(bT d==28)with
   |true=>exact K _
   |false=>exact K _
def arJ(d:aK)(n:List Int):aK:=U27 d (n,d.2.2.2.2.2.2.2.2.2.2.2.2.2.2.2.2.2.2.2.2.2.2.2.2.2.2.2.2)
theorem at6{d}(O:Eh d)(T:OkT (fD d))(S:F' (jc d,fD d,cf d,fN d,eY d,())):∃e j,TX d=some (e,j)/\bM j=bM d/\(e=0->∃n,j=arJ d n):=by
 show ∃e j,pW aj d=_/\_;unfold pW;have⟨l,e,h⟩:=aou O T S;rw[ai h,ub];by_cases y:e=0
 .rw[aQ (by simpa using y)];exact⟨_,_,rfl,rfl,λ_=>⟨l,rfl⟩⟩
 .rw[aB (by simpa using y)];exact⟨e,d,rfl,rfl,λq=>absurd q y⟩
def zX(d:aK):List aU×Int×Unit:=y6 (fD d) (cf d) (fN d)
def Jk(d:aK):List aU×Int×Unit:=y6 (fD d) (eU d) (zX d).1
def C_(d:aK):aK:=(gb d+1,di d,(fD d).map zY,U24 (UH d (Jk d).1).2.2.2 ([gb d+1],asM d,asN d,()))
def D_(d:aK):Int×aK:=if 1048576<=gb d then(25,d)else(if(zX d).2.1=0 then(if(Jk d).2.1=0 then BB 5 (xE (cx d) λg=>decide (g.2.2.2.2.2.2.1<gb d+1)) (C_ d)else((Jk d).2.1,UH d (zX d).1))else((zX d).2.1,d))
theorem atz{d}(O:Eh d)(hd:0<=gb d)(G:Uq (fD d))(hs:okB (eU d))(Y:(zX d).2.1=0->tT (zX d).1/\(zX d).1.length<=1000)(X:(zX d).2.1=0->(Jk d).2.1=0->Eh (C_ d)):Gf d=some (D_ d):=by
 show pX aj d=_;unfold pX D_;have W:=O.pl;have hv:=O.v;by_cases C:1048576<=gb d
 .rw[aQ (ap C),ah C]
 .rw[aB (an C),ag C];have V:i64.wrap (gb d+1)=gb d+1:=bF _ (by omega);refine fR (β:=Int×aK) (λz=>3-z.1.toNat) (λz=>(z=(0,xh d ([cf d,eU d],())))\/(z=(1,xh (UH d (zX d).1) ([cf d,eU d],()))/\(zX d).2.1=0)\/(z=(2,xh (UH d (Jk d).1) ([cf d,eU d],()))/\(zX d).2.1=0/\(Jk d).2.1=0)) (λz=>some (if(zX d).2.1=0 then(if(Jk d).2.1=0 then BB 5 (xE (cx d) λg=>decide (g.2.2.2.2.2.2.1<gb d+1)) (C_ d)else((Jk d).2.1,UH d (zX d).1))else((zX d).2.1,d))) (.inl rfl) (by dsimp only;omega) ?_;rintro _ (rfl|⟨rfl,y⟩|⟨rfl,y,H⟩) j F
  .show aj.ae (GK (fD d) (cf d) (fN d)) _=_;rw[ai (aaU G O.b O.p (by omega))];show aj.af ((zX d).2.1 != 0) (some ((zX d).2.1,d)) (j (1,xh (UH d (zX d).1) ([cf d,eU d],())))=_;refine iS (λc=>?_) λc=>?_
   .exact F _ (.inr (.inl ⟨rfl,c⟩)) (by dsimp only;decide)
   .rw[ag c]
  .obtain⟨f1,f2⟩:=Y y;show aj.ae (GK (fD d) (eU d) (zX d).1) _=_;rw[ai (aaU G hs f1 f2)];show aj.af ((Jk d).2.1 != 0) (some ((Jk d).2.1,UH d (zX d).1)) (j (2,xh (UH d (Jk d).1) ([cf d,eU d],())))=_;refine iS (λc=>?_) λc=>?_
   .exact F _ (.inr (.inr ⟨rfl,y,c⟩)) (by dsimp only;decide)
   .rw[ah y,ag c]
  .show aj.ae (Pj (fD d)) (λR=>aj.ae (WM (cx d) (i64.wrap (gb d+1))) λK=>aj.ae (sI (i64.wrap (gb d+1),di d,R,U24 (UH d (Jk d).1).2.2.2 ([i64.wrap (gb d+1)],asM d,asN d,())) K 5) λJ=>some J)=_;rw[V,ai (ab1 O.i),ai (anU (by omega)),ah y,ah H];show aj.ae (sI (C_ d) _ 5) _=_;rw[ai (afy (X y H) (bU (Da _ _) (by omega)))]
def Ut(d:aK):Int×aK:=if(Gh (bM d) (aT d)).2.2.1=0 then(0,xc (Gh (bM d) (aT d)).1 (U15 d.2.2.2.2.2.2.2.2.2.2.2.2 ([(Gh (bM d) (aT d)).2.1.1,(Gh (bM d) (aT d)).2.1.2.1],d.2.2.2.2.2.2.2.2.2.2.2.2.2.2.2.2.2.2.2.2.2.2.2.2.2.2.2.2)))else((Gh (bM d) (aT d)).2.2.1,d)
theorem apm{d}(O:OkP (bM d)):Qe d=some (Ut d):=by
 have j:=auS O (aT d);refine jN ?_ ?_
 .rw[ai j,iW,ub];unfold Ut;refine dE (λh=>?_) λh=>?_
  .rw[iW,ah h,h]
  .rw[ag h]
 .rw[iW,iW,ai j,ub];unfold Ut;refine dE (λh=>?_) λh=>?_
  .rw[iW,ah h,h]
  .rw[ag h]
def Ln(d:aK)(s:aV):aK:=xc s d.2.2.2.2.2.2.2.2.2.2.2.2
def zZ(d:aK):aW×Int×Unit:=if(iQ d).2.1=0 then N_ (iQ d).1 (gb d)else iQ d
def qz(d:aK):Int×aK:=if(zZ d).2.1=0 then vQ d (zZ d).1 else((zZ d).2.1,d)
def RV(d:aK):Int×aK:=if(qz d).1=0 then(if(FV (bM (qz d).2) (zZ d).1.1).2.1=0 then(0,Ln (qz d).2 (FV (bM (qz d).2) (zZ d).1.1).1)else((FV (bM (qz d).2) (zZ d).1.1).2.1,(qz d).2))else qz d
theorem ar1(d):cf (qz d).2=cf d/\eU (qz d).2=eU d/\bs (qz d).2=bs d:=by
 unfold qz vQ;split
 .split<;>exact⟨rfl,rfl,rfl⟩
 .exact⟨rfl,rfl,rfl⟩
theorem at4{d}(O:Eh d)(hs:okB (eU d))(R:(cf d).length+(eU d).length<=90):GS d=some (RV d):=by
 show jS aj d=_;unfold jS;have hm:=O.m;obtain⟨b1,V,W⟩:=ar1 d;rw[ai (zt (by omega))];refine bB λC j=>?_
 have K:C ((zZ d).2.1,(zZ d).1)=some (RV d):=by
  subst j;refine bB λJ y=>?_
  have G:J (qz d)=some (RV d):=by
   subst y;show aj.af ((qz d).1 != 0) (some (qz d)) (aj.two (aj.ae (IY (bM (qz d).2) (zZ d).1.1) _))=_;unfold RV;by_cases h:(qz d).1=0
   .have e:IY (bM (qz d).2) (zZ d).1.1=some (FV (bM (qz d).2) (zZ d).1.1):=ao8 (by show qC (bs (qz d).2);rw[W];exact O.a) (by show okB (cf (qz d).2);rw[b1];exact O.b) (by show okB (eU (qz d).2);rw[V];exact hs) (by show(cf (qz d).2).length+(eU (qz d).2).length<=90;rw[b1,V];exact R);rw[aB (by simpa using h),ah h,iW,ai e,ub];refine dE (λH=>?_) λH=>?_
    .rw[ah H,H];rfl
    .rw[ag H]
   .rw[aQ (by simpa using h),ag h]
  clear y;refine dE (λh=>?_) λh=>?_
  .rw[ai (XD O)];have e:vQ d (zZ d).1=qz d:=by unfold qz;rw[ah h]
   rw[e];exact G
  .have e:((zZ d).2.1,d)=qz d:=by unfold qz;rw[ag h]
   rw[e];exact G
 clear j;show aj.af ((iQ d).2.1==0) (aj.ae (TK (iQ d).1 (gb d)) λF=>C (F.2.1,F.1)) (C ((iQ d).2.1,(iQ d).1))=_;by_cases h:(iQ d).2.1=0
 .have e:zZ d=N_ (iQ d).1 (gb d):=by unfold zZ;rw[ah h]
  rw[aQ (by simpa using h),ai (anY _ _),<-e];exact K
 .have e:zZ d=iQ d:=by unfold zZ;rw[ag h]
  rw[e]at K;rw[aB (by simpa using h)];exact K
def M4(s:aV)(u:ar):Int:=
 match fj s.2.2.2.2.1 u.1 with
 |none=>11
 |some a=>if zE a u=true then(if a.2.2.1=1 then(match gX s.2.1 a.2.1 with|none=>15|some m=>if m.2.2.1=0 then 0 else 15)else 17)else 11
def ahe(all i6:Int):Bool:=decide (0<i6/\i6<=all)||decide (i6<0/\all<=i6)
def zG(s:aV)(u to:ar)(id i6 eT:Int):Int:=
 if(r' (bk s)=true/\r' (sa s)=true)/\xb (pu s)=true then(
  match oE s.2.2.1 id with
  |none=>11
  |some _=>if i6=0\/eT<0\/2147483647<eT then 2 else if ahe (fM (kc (sa s) u) id) i6=true then M4 s to else 23)else 3
def ZK(s:aV)(u to:ar)(id i6 g:Int):aV×Int×Unit:=if(fm (sa s) u [(id,-i6,())]).2.1=0 then(if(fm (bk s) to [(id,i6,())]).2.1=0 then(if(ja (pu s) u to g).2.1=0 then(ajr s (fm (bk s) to [(id,i6,())]).1 (fm (sa s) u [(id,-i6,())]).1 (ja (pu s) u to g).1,0,())else(IX,(ja (pu s) u to g).2.1,()))else(IX,(fm (bk s) to [(id,i6,())]).2.1,()))else(IX,(fm (sa s) u [(id,-i6,())]).2.1,())
def Bu(s:aV)(u to:ar)(id i6 eT:Int):aV×Int×Unit:=
 if zG s u to id i6 eT=0 then(
  match oE s.2.2.1 id with
  |none=>(IX,11,())
  |some i=>if cy (gZ i i6 eT i.2.2.1)then(if cy (-i6)then ZK s u to id i6 (gZ i i6 eT i.2.2.1)else(IX,7,()))else(IX,7,()))
 else(IX,zG s u to id i6 eT,())
theorem ajw{s}{u to}{id i6 eT e}(h:zG s u to id i6 eT=e)(j:e≠0):Bu s u to id i6 eT=(IX,e,()):=by unfold Bu;rw[h,ag j]
theorem Xc{s}{u to}{id i6 eT}{i}(h:zG s u to id i6 eT=0)(hi:oE s.2.2.1 id=some i):
 Bu s u to id i6 eT=if cy (gZ i i6 eT i.2.2.1)then(if cy (-i6)then ZK s u to id i6 (gZ i i6 eT i.2.2.1)else(IX,7,()))else(IX,7,()):=by
 unfold Bu;rw[ah h,hi]
theorem Rc{s}{u to}{id i6 eT}(h:zG s u to id i6 eT=0):((r' (bk s)=true/\r' (sa s)=true)/\xb (pu s)=true)/\(∃i,oE s.2.2.1 id=some i)/\(i6≠0/\0<=eT/\eT<=2147483647)/\ahe (fM (kc (sa s) u) id) i6=true/\M4 s to=0:=by
 unfold zG at h;split at h
 .rename_i y;refine⟨y,?_⟩;split at h
  .cases h
  .rename_i i hi;split at h
   .cases h
   .rename_i C;split at h
    .rename_i j;exact⟨⟨i,hi⟩,⟨by omega,by omega,by omega⟩,j,h⟩
    .cases h
 .cases h
theorem Re{t}{id}{i}(h:oE t id=some i):i∈t/\i.1=id:=by unfold oE at h;exact⟨bV h,by simpa using jM h⟩
theorem ahf{t}{id}{i}(h:fj t id=some i):i∈t/\i.1=id:=by unfold fj at h;exact⟨bV h,by simpa using jM h⟩
structure OkF(s:aV):Prop where
 iT:ao9 s.2.2.1
 mL:s.2.1.length<=1000
 aA:qC s.2.2.2.2.1
 aS:Xb s.2.2.2.2.1
 hb:okB (bk s)
 hs:okB (sa s)
 bl:(bk s).length<=64
 sl:(sa s).length<=64
 pf:tT (pu s)
 pl:(pu s).length<=94
theorem OkF.inst{s}(F:OkF s){id}{i}(h:oE s.2.2.1 id=some i):Ql i/\i.2.2.2.2.1.length<=1000000/\1<=id/\id<=8:=by have⟨y,H⟩:=Re h;have j:=F.iT.1 _ y;have G:=j.1;have C:=j.2.2.2.2.1;exact⟨j,by omega,by omega,by omega⟩
theorem aeU{s}(F:OkF s){id}:Vs s.2.2.1 id=some (match oE s.2.2.1 id with|some i=>(i,true,())|none=>(ajx,false,())):=Xd (by have:=F.iT.2;omega) λi hi=>by have:=(F.iT.1 i hi).2.2.2.2.1;omega
theorem asR(all i6):ajy all i6=some (ahe all i6):=by
 show CR aj all i6=_;unfold CR ahe;refine dh (λj=>?_) λj=>?_
 .refine dh (λC=>?_) λC=>?_
  .simp[j,C]
  .rw[cQ (by omega)];congr 1;rw[an (by omega),an (by omega)];rfl
 .refine dh (λy=>?_) λy=>?_
  .simp[j,y]
  .simp[j,y]
theorem aoA{s}(F:OkF s)(u):ac3 s u=some (M4 s u):=by
 show xv aj s u=_;unfold xv M4;rw[ai (Hn F.aA F.aS)];cases G:fj s.2.2.2.2.1 u.1 with
 |none=>exact yk true (λk=>aQ (by rfl) _ _) rfl
 |some a=>
  have H:=F.aA.1 _ (ahf G).1;refine yk (!(zE a u)) (λk=>?_) ?_
  .refine zp (by rfl) ?_;rw[ai (Q' H)]
  .show aj.af (!(zE a u)) (some (11:Int)) (aj.af (a.2.2.1 != 1) (some (17:Int)) (aj.ae (Bs s.2.1 a.2.1) _))=some (if zE a u=true then(if a.2.2.1=1 then(match gX s.2.1 a.2.1 with|none=>(15:Int)|some m=>if m.2.2.1=0 then 0 else 15)else 17)else 11);by_cases j:zE a u=true
   .rw[j,aB (by rfl),ah rfl];refine iS (λC=>?_) λC=>?_
    .rw[ah C,ai (ta (by have:=F.mL;omega))];cases hm:gX s.2.1 a.2.1 with
     |none=>rfl
     |some m=>
      show aj.af (!true) _ (aj.ae (qD m) _)=_
      have e:qD m=some (if m.2.2.1=0 then 0 else 15):=by
       show jH aj m=_;refine iS (λy=>?_) λy=>?_
       .rw[ah y]
       .rw[ag y]
      rw[aB (by rfl),ai e]
    .rw[ag C]
   .have j:zE a u=false:=by simpa using j
    rw[j];rfl
theorem ahg{s}(F:OkF s)(u to)(id i6 eT):ac4 s u to id i6 eT=some (zG s u to id i6 eT):=by
 show xw aj s u to id i6 eT=_;unfold xw zG;have J:=F.pl;have K:KN s.2.2.2.2.2.2.2.2.2.2.1=some (xb (pu s)):=ZL (by show(pu s).length<=_;omega);rw[ai (aeU F)];refine yk (!((r' (bk s)&&r' (sa s))&&xb (pu s))) (λk=>?_) ?_
 .refine vC (aeT F.hb F.hs) ?_;cases r' (bk s)&&r' (sa s)with
  |false=>rfl
  |true=>rw[aB (by rfl),ai K];rfl
 .show aj.af (!((r' (bk s)&&r' (sa s))&&xb (pu s))) (some 3) _=_;by_cases y:(r' (bk s)=true/\r' (sa s)=true)/\xb (pu s)=true
  .rw[ah y,y.1.1,y.1.2,y.2,aB (by rfl)];cases hi:oE s.2.2.1 id with
   |none=>rfl
   |some i=>
    refine zp (by rfl) ?_;refine yk (decide (i6=0\/eT<0\/2147483647<eT)) (λk=>?_) ?_
    .refine dE (λj=>?_) λj=>?_
     .rw[ap (.inl j)]
     .refine dh (λH=>?_) λH=>?_
      .rw[ap (.inr (.inl H))]
      .congr 2;exact dM.2 ⟨λh=>.inr (.inr h),λh=>by omega⟩
    .show aj.af (decide (i6=0\/eT<0\/2147483647<eT)) (some 2) (aj.ae (KO (sa s) u) _)=_;refine dh (λj=>?_) λj=>?_
     .rw[ah j]
     .rw[ag j,ai (Rf F.hs)];obtain⟨_,R⟩:=M5 F.hs u;rw[ai (ajz (by omega)),ai (asR _ _)];by_cases C:ahe (fM (kc (sa s) u) id) i6=true
      .rw[C,aB (by rfl),ai (aoA F to)];rfl
      .have C:ahe (fM (kc (sa s) u) id) i6=false:=by simpa using C
       rw[C,aQ (by rfl)];rfl
  .have G:((r' (bk s)&&r' (sa s))&&xb (pu s))=false:=by cases j:r' (bk s)<;>cases H:r' (sa s)<;>cases C:xb (pu s)<;>simp_all
   rw[ag y,G,aQ (by rfl)]
theorem ac5{k q}(G:1<=k/\k<=8)(F:q≠0)(H:cy q)(j:¬cy (-q)):Xe [(k,q,())]=some ([],7,()):=by
 show sd aj [(k,q,())]=_;unfold sd;have hv:D9 [(k,q,())]=true:=ap ⟨λx C=>by simp only[ax]at C;subst C;exact⟨G,F⟩,by simp⟩;rw[ai (Rg (l:=[(k,q,())]) (by simp)),hv,aB (by rfl)];have e:=I1 (a:=0) (b:=q) (by unfold cy;omega) H;rw[zk]at e;unfold cP at e;rw[ag j]at e;refine mz (l:=[(k,q,())]) (s0:=()) (by simp) (λi (_:Unit)=>((i:Int),([]:List nU),())) (λi _=>i=0) (λ_ _=>some ([],7,())) rfl rfl ?_ ?_
 .intro _ h;simp at h
 .intro i hi _ J y _;subst J;show aj.af (decide ((0:Int)<1)) (aj.aI [(k,q,())] ((0:Nat):Int) _) _=_;rw[aQ (by decide),bN (by simp)];refine vC e ?_;rw[aQ (by rfl)]
def asT(s:aV)(a:List bC):aV:=(s.1,s.2.1,s.2.2.1,s.2.2.2.1,s.2.2.2.2.1,s.2.2.2.2.2.1,s.2.2.2.2.2.2.1,s.2.2.2.2.2.2.2.1,s.2.2.2.2.2.2.2.2.1,a,s.2.2.2.2.2.2.2.2.2.2)
def aj0(s:aV)(b:List bC):aV:=(s.1,s.2.1,s.2.2.1,s.2.2.2.1,s.2.2.2.2.1,s.2.2.2.2.2.1,s.2.2.2.2.2.2.1,s.2.2.2.2.2.2.2.1,b,s.2.2.2.2.2.2.2.2.2)
def asU(s:aV)(p:List aU):aV:=(s.1,s.2.1,s.2.2.1,s.2.2.2.1,s.2.2.2.2.1,s.2.2.2.2.2.1,s.2.2.2.2.2.2.1,s.2.2.2.2.2.2.2.1,s.2.2.2.2.2.2.2.2.1,s.2.2.2.2.2.2.2.2.2.1,p,s.2.2.2.2.2.2.2.2.2.2.2)
abbrev SLf:=Int×List aW×List bH×List bh×List az×List bA×List bR×List cj×List bC×List bC×List aU×List bj×List ar×Unit
abbrev asV(s:aV)(v:List ar):SLf:=xc s (v,())
abbrev asW(z:SLf):aV:=xc z ()
theorem aoB{s}(F:OkF s)(u to)(id i6 eT:Int)(hq:cy i6):ahh s u to id i6 eT=some (Bu s u to id i6 eT):=by
 show zH aj s u to id i6 eT=_;unfold zH;have hpl:=F.pl;have Qm:=F.bl;have hsl:=F.sl;rw[ai (ahg F u to id i6 eT)];by_cases hc:zG s u to id i6 eT=0
 .have⟨hB,⟨i,hi⟩,⟨c1,c2,c3⟩,_,_⟩:=Rc hc;have⟨i1,i2,i3,i4⟩:=F.inst hi;rw[gY hc,ai (aeU F),hi,Xc hc hi];refine vC (aeV i2 i1 hq ⟨c2,c3⟩ i1.2.2.1) ?_;generalize gZ i i6 eT i.2.2.1=g at *;unfold cP;by_cases hg:cy g
  .rw[ah hg,ah hg,aB (by rfl)];have R:∀(k:Int×aV->Option (aV×Int×Unit)),(k=λC=>aj.af (C.1 != 0) (some (IX,C.1,())) (some (C.2,0,())))->(∀st,k (0,st)=some (st,0,()))/\∀e,e≠0->∀st,k (e,st)=some (IX,e,()):=by intro k J;subst J;exact⟨λst=>rfl,λe V st=>fz V _ _⟩
   have H:∀(k:Int×aV->Option (aV×Int×Unit)),(k=λK=>aj.aH (λC:Int×aV=>aj.af (C.1 != 0) (some (IX,C.1,())) (some (C.2,0,()))) λR=>aj.af (K.1==0) (aj.ae (qE (pu K.2) u to g) λv9=>R (v9.2.1,asU K.2 v9.1)) (R K))->
    (∀st,pu st=pu s->k (0,st)=some (if(ja (pu s) u to g).2.1=0 then(asU st (ja (pu s) u to g).1,0,())else(IX,(ja (pu s) u to g).2.1,())))/\∀e,e≠0->∀st,k (e,st)=some (IX,e,()):=by
    intro k J;subst J;refine⟨λst hst=>?_,λe V st=>?_⟩
    .refine bB λk J=>?_
     have⟨a1,a2⟩:=R k J;refine Um (by rfl) ?_;rw[hst,ai (M6 F.pf hg (by omega))];by_cases h:(ja (pu s) u to g).2.1=0
     .rw[ah h,h,a1]
     .rw[ag h,a2 _ h]
    .refine bB λk J=>?_
     have⟨a1,a2⟩:=R k J;refine tqn V ?_;rw[a2 _ V]
   have bad:∀j:Int×SLf->Option (aV×Int×Unit),(j=λW=>aj.aH (λK:Int×aV=>aj.aH (λC:Int×aV=>aj.af (C.1 != 0) (some (IX,C.1,())) (some (C.2,0,()))) λR=>aj.af (K.1==0) (aj.ae (qE (pu K.2) u to g) λv9=>R (v9.2.1,asU K.2 v9.1)) (R K)) λH=>aj.af (W.1==0) (aj.ae (wc (bk (asW W.2)) to W.2.2.2.2.2.2.2.2.2.2.2.2.2.1) λG=>H (G.2.1,aj0 (asW W.2) G.1)) (H (W.1,asW W.2)))->∀e,e≠0->∀st v,j (e,asV st v)=some (IX,e,()):=by
    intro j y e V st v;subst y;refine bB λk J=>?_
    have⟨a1,a2⟩:=H k J;refine tqn V ?_;rw[a2 _ V]
   by_cases Y:cy (-i6)
   .rw[ah Y,ai (aj1 ⟨i3,i4⟩ c1 hq Y)];refine bB λj y=>?_
    show aj.af true (aj.ae (wc (sa s) u [(id,-i6,())]) λX=>j (X.2.1,asV (asT s X.1) [(id,i6,())])) _=_;rw[aQ (by rfl),ai (Ec F.hs (by omega) (aoC Y) (by simp))];unfold ZK;by_cases h1:(fm (sa s) u [(id,-i6,())]).2.1=0
    .rw[ah h1,h1];subst y;refine bB λk J=>?_
     have⟨a1,a2⟩:=H k J;show aj.af true (aj.ae (wc (bk s) to [(id,i6,())]) λG=>k (G.2.1,aj0 (asT s (fm (sa s) u [(id,-i6,())]).1) G.1)) _=_;rw[aQ (by rfl),ai (Ec F.hb (by omega) (aoC hq) (by simp))];by_cases h2:(fm (bk s) to [(id,i6,())]).2.1=0
     .rw[ah h2,h2,a1 (aj0 (asT s (fm (sa s) u [(id,-i6,())]).1) (fm (bk s) to [(id,i6,())]).1) rfl];rfl
     .rw[ag h2,a2 _ h2]
    .rw[ag h1,bad j y _ h1]
   .rw[ag Y,ai (ac5 ⟨i3,i4⟩ c1 hq Y)];refine bB λj y=>?_
    show aj.af false _ (j (7,asV s [(id,i6,())]))=_;rw[aB (by rfl),bad j y 7 (by decide)]
  .rw[ag hg,ag hg,aQ (by rfl)];rfl
 .rw[fz hc,ajw rfl hc];rfl
def Uj(d:aK):aV×Int×Unit:=Bu (bM d) (aT d) (cu d) (jl d) (dA d) (kM d)
def RW(d:aK):Int×aK:=if Uh d (aT d)=0 then(if(vE d (aT d)).2.2.1=2 then(if(Uj d).2.1=0 then(R0 (Ln d (Uj d).1) [cu d],Ln d (Uj d).1)else((Uj d).2.1,d))else(13,d))else(Uh d (aT d),d)
theorem apj{d}(O:Eh d)(F:OkF (bM d))(h:(Uj d).2.1=0->okB (cf (Ln d (Uj d).1))/\bs (Ln d (Uj d).1)=bs d/\di (Ln d (Uj d).1)=di d):Fj d=some (RW d):=by
 show jX aj d=_;unfold jX RW;have hm:=O.m;refine vC (VQ O.a) ?_;refine iS (λC=>?_) λC=>?_
 .rw[ah C,ai (Mk O.a (by omega))];refine iS (λy=>?_) λy=>?_
  .rw[ah y,iW,ai (aoB F _ _ _ _ _ O.q)];show aj.af ((Uj d).2.1 != 0) (some ((Uj d).2.1,d)) (aj.ae (GQ (Ln d (Uj d).1) [cu d]) _)=_;by_cases j:(Uj d).2.1=0
   .have⟨b1,G,H⟩:=h j;rw[gY j,ah j,ai (aew (l:=[cu d]) (by rw[G];exact O.a) (by rw[G];exact O.al) (by rw[H];omega) b1 (by simp))]
   .rw[fz j,ag j]
  .rw[ag y]
 .rw[ag C]
structure PL(N:ar->Prop)(p:List aU):Prop where
 i:xb p=true
 f:tT p
 n:∀x∈p,N x.1
structure KI(N:ar->Prop)(A:Int->Prop)(h:List bj):Prop where
 i:CQ h=true
 f:∀x∈h,tM x.2.1
 n:∀x∈h,N x.1
 a:∀x∈h,∀y∈x.2.1,A y.1
structure KK(N:ar->Prop)(K:Int->Prop)(b:List bC):Prop where
 i:r' b=true
 o:∀p∈b,Rw p.2.1
 n:∀p∈b,N p.1
 k:∀p∈b,∀x∈p.2.1,K x.1
theorem Jf{α}[DecidableEq α]:∀{l U:List α},l.Nodup->(∀x∈l,x∈U)->l.length<=U.length
 |[],_,_,_=>bE _
 |x::l,U,F,h=>by
  have⟨H,G⟩:=fw.1 F;have C:=h x (by simp);have:=Jf (l:=l) (U:=U.erase x) G λy j=>(List.mem_erase_of_ne λe=>H (by rw[<-e];exact j)).2 (h y (by simp[j]))
  rw[List.length_erase_of_mem C]at this;have J:=List.length_pos_of_mem C;simp only[aJ];omega
theorem PL.nil(N):PL N []:=⟨ap ⟨λ_ h=>(by cases h),List.Pairwise.nil⟩,λ_ h=>(by cases h),λ_ h=>(by cases h)⟩
theorem PL.mono{N M}{p:List aU}(P:PL N p)(h:∀u,N u->M u):PL M p:=⟨P.i,P.f,λx j=>h _ (P.n x j)⟩
theorem KI.mono{N M}{A B}{p:List bj}(P:KI N A p)(h:∀u,N u->M u)(g:∀k,A k->B k):KI M B p:=⟨P.i,P.f,λx j=>h _ (P.n x j),λx j y C=>g _ (P.a x j y C)⟩
theorem KK.mono{N M}{K L}{p:List bC}(P:KK N K p)(h:∀u,N u->M u)(g:∀k,K k->L k):KK M L p:=⟨P.i,P.o,λx j=>h _ (P.n x j),λx j y C=>g _ (P.k x j y C)⟩
theorem PL.pay{N}{p fl:List aU}(P:PL N p)(H:∀x∈fl,N x.1)(h:(qJ p fl).2.1=0):PL N (qJ p fl).1:=by have⟨K,C,J⟩:=Qs h;refine⟨by rw[C];exact Qy (wo _),afl h,λx j=>?_⟩;rw[C]at j;obtain⟨u,G,rfl⟩:=aN.1 j;have⟨y,F,e⟩:=(Hx _ _).1 (aM.1 G).1;rw[<-e];exact(aX.1 F).elim (P.n y) (H y)
theorem PL.move{N}{p}{f t}{n:Int}(P:PL N p)(C:N f)(y:N t)(h:(ja p f t n).2.1=0):PL N (ja p f t n).1:=by
 have⟨_,e⟩:=c_ h;rw[e]at h ⊢;refine P.pay (λx j=>?_) h;simp only[aG,dN,lk]at j;rcases j with rfl|rfl
 .exact C
 .exact y
theorem PL.settle{N}{t}{l:List bC}{p:List aU}(P:PL N p)(hl:∀x∈l,N x.1)(h:(y6 t l p).2.1=0):PL N (y6 t l p).1:=by have⟨_,F,e⟩:=ahy h;rw[e]at h ⊢;refine P.pay (λx j=>?_) h;have⟨_,C,_⟩:=g_ F;rw[C]at j;obtain⟨q,y,rfl⟩:=aN.1 j;exact hl q (aM.1 y).1
theorem PL.len{N}{p}(P:PL N p){U:List ar}(h:∀u,N u->u∈U):p.length<=U.length:=by
 have:=Jf (l:=p.map (·.1)) (U:=U) (Xu P.i) λx C=>by obtain⟨y,j,rfl⟩:=aN.1 C;exact h _ (P.n y j)
 rwa [bp]at this
theorem KK.len{N}{K}{p:List bC}(P:KK N K p){U:List ar}(h:∀u,N u->u∈U):p.length<=U.length:=by
 have:=Jf (l:=p.map (·.1)) (U:=U) (ahz (bD P.i:C5 p).2) λx C=>by obtain⟨y,j,rfl⟩:=aN.1 C;exact h _ (P.n y j)
 rwa [bp]at this
theorem KI.len{N}{K}{p:List bj}(P:KI N K p){U:List ar}(h:∀u,N u->u∈U):p.length<=U.length:=by
 have:=Jf (l:=p.map (·.1)) (U:=U) (atu (bD P.i:b_ p).2) λx C=>by obtain⟨y,j,rfl⟩:=aN.1 C;exact h _ (P.n y j)
 rwa [bp]at this
theorem av7{l}(h:yo l):l.length<=8:=by
 have:=Jf (l:=l.map (·.1)) (U:=ks) (vo (λ{a b} (j:a<b)=>Int.ne_of_lt j) h.2) λx F=>by obtain⟨y,C,rfl⟩:=aN.1 F;have:=(h.1 y C).1;unfold ks;simp only[aG,dN,lk];omega
 rwa [bp]at this
theorem KK.okB{N}{K}{b:List bC}(P:KK N K b)(h:b.length<=100):okB b:=⟨λp j=>⟨P.o p j,by have:=av7 ((bD P.i:C5 b).1 p j).2;omega⟩,h⟩
theorem KI.kL{N}{K}{b:List bj}(P:KI N K b)(h:b.length<=400000):kL b:=⟨P.f,h⟩
theorem KK.of{N}{K}{b:List bC}(P:KK N K b)(u:ar):∀x∈kc b u,K x.1:=by
 have:∀l:List bC,(∀p∈l,∀x∈p.2.1,K x.1)->∀x∈kc l u,K x.1:=by
  intro l;induction l with
  |nil=>intro _ x y;cases y
  |cons p l j=>
   intro h;rw[kc];split
   .exact h p (by simp)
   .exact j λq C=>h q (by simp[C])
 exact this b P.k
theorem h_{l}{k}(h:fM l k≠0):∃x∈l,x.1=k:=cT λy=>h (Hy λx j e=>y ⟨x,j,e⟩)
theorem KK.shift{N}{K}{b}(P:KK N K b){u:ar}{j:List nU}(V:N u)(W:∀x∈j,K x.1)(h:(fm b u j).2.1=0):KK N K (fm b u j).1:=by
 have S:=l6 h;unfold fm at h ⊢;rw[ah P.i]at h ⊢;by_cases H:(vD [kc b u,j]).2.1=0;case neg=>rw[ag H]at h;exact absurd h H
 rw[ah H];have⟨_,R,Y,_⟩:=Qz H;refine⟨ap ?_,λp F=>?_,λp F=>?_,λp F=>?_⟩
 .exact akn (bD P.i) u (by rw[R];exact Xv _)
 .rcases uq.1 F with⟨G,_⟩|⟨_,rfl⟩
  .exact P.o p G
  .intro x C;have C:=C;rw[R]at C;obtain⟨v,hv,rfl⟩:=aN.1 C;exact Y v (aM.1 hv).1
 .rcases uq.1 F with⟨G,_⟩|⟨_,rfl⟩
  .exact P.n p G
  .exact V
 .rcases uq.1 F with⟨G,_⟩|⟨_,rfl⟩
  .exact P.k p G
  .intro x C;have C:=C;rw[R]at C;obtain⟨v,hv,rfl⟩:=aN.1 C;have hs:=(aM.1 hv).2;simp only[bc]at hs;rw[ako]at hs;by_cases X:fM (kc b u) v=0
   .have⟨y,J,e⟩:=h_ (l:=j) (k:=v) (by omega);rw[<-e];exact W y J
   .have⟨y,J,e⟩:=h_ X;rw[<-e];exact P.of u y J
theorem KK.av8{N}{K}{b:List bC}(P:KK N K b){f t:ar}{k q:Int}(G:N f)(C:N t)(F:K k)(h:(yH b f t k q).2.1=0):KK N K (yH b f t k q).1:=by
 unfold yH at h ⊢;rw[ah P.i]at h ⊢;by_cases j:(fm b f [(k,-q,())]).2.1=0;case neg=>rw[ag j]at h;exact absurd h j
 rw[ah j]at h ⊢;have one:∀n:Int,∀x∈([(k,n,())]:List nU),K x.1:=λn x y=>by rw[ax.1 y];exact F
 exact(P.shift G (one _) j).shift C (one _) h
theorem KK.ur{N}{K}{b:List bC}(P:KK N K b){f t:ar}{C:List nU}(X:N f)(W:N t)(H:∀x∈C,K x.1)(h:(ur b f t C).2.1=0):KK N K (ur b f t C).1/\(ur b f t C).1.length<=b.length+2/\∀j,kS (ur b f t C).1 j=kS b j:=by
 unfold Go.Proofs.YthghpahghjppjaaGreat.ur at h ⊢;rw[ah P.i]at h ⊢;by_cases G:(Ik C).2.1=0;case neg=>rw[ag G]at h;exact absurd h G
 rw[ah G]at h ⊢;have⟨_,J,_⟩:=Xx G;rw[J]at h ⊢;by_cases F:(fm b f (Rx C)).2.1=0;case neg=>rw[ag F]at h;exact absurd h F
 rw[ah F]at h ⊢;have S:=l6 F;have T:=l6 h;refine⟨(P.shift X (λx V=>?_) F).shift W H h,by have:=S.len;have:=T.len;omega,λj=>?_⟩
 .obtain⟨y,R,rfl⟩:=aN.1 V;exact H y R
 .rw[T.opn,S.opn,Lb];omega
theorem BA{N}{K:Int->Prop}(own:ar->Bool):∀(l j stays:List bC),(fk own l j stays).2.2=0->(∀p∈l,N p.1)->(∀p∈l,∀x∈p.2.1,K x.1)->KK N K j->
 KK N K (fk own l j stays).1/\(fk own l j stays).2.1=stays++l.filter (λp=>!own p.1)/\(fk own l j stays).1.length+(fk own l j stays).2.1.length<=j.length+stays.length+l.length
 |[],j,stays,_,_,_,P=>⟨P,by simp[fk],by simp[fk]⟩
 |p::l,j,stays,he,H,hk,P=>by
  unfold fk at he ⊢;by_cases ho:own p.1=true
  .rw[ah ho]at he ⊢;by_cases hs:(fm j p.1 p.2.1).2.1=0
   .rw[ah hs]at he ⊢;have hl:=(l6 hs).len;have⟨G,F,C⟩:=BA own l _ stays he (λq y=>H q (by simp[y])) (λq y=>hk q (by simp[y])) (P.shift (H p (by simp)) (hk p (by simp)) hs);exact⟨G,by rw[F,bw,ag (by simp[ho])],by simp only[aJ];omega⟩
   .rw[ag hs]at he;exact absurd he hs
  .rw[ag ho]at he ⊢;have⟨G,F,C⟩:=BA own l j (stays++[p]) he (λq y=>H q (by simp[y])) (λq y=>hk q (by simp[y])) P;exact⟨G,by rw[F,bw,ah (by simpa using ho),bn];rfl,by rw[aq]at C;simp only[aJ,dB]at C ⊢;omega⟩
theorem KK.filter{N}{K}{b:List bC}(P:KK N K b)(q:bC->Bool):KK N K (b.filter q):=by have y:=bD P.i;refine⟨ap ⟨λp j=>y.1 p (aM.1 j).1,?_⟩,λp j=>P.o p (aM.1 j).1,λp j=>P.n p (aM.1 j).1,λp j=>P.k p (aM.1 j).1⟩;exact de (rG _ fh) y.2
theorem i_{l}(h:Nc l)(x:bh):Nc (F4 l x):=by
 have C:∀y∈fC x l,Cj y x:=λy F=>by simpa using(aM.1 F).2
 have j:∀y∈Bw x l,Cj x y:=λy F=>by simpa using(aM.1 F).2
 have hm:∀y∈(if x.2.2.1=0 then([]:List bh)else[x]),y=x:=λy F=>by
  split at F
  .cases F
  .simpa using F
 refine dv.2 ⟨h.filter _,dv.2 ⟨?_,h.filter _,λa G b hb=>?_⟩,λa G b hb=>?_⟩
 .split<;>simp
 .rw[hm a G];exact j b hb
 .rcases aX.1 hb with hb|hb
  .rw[hm b hb];exact C a G
  .have:=C a G;have:=j b hb;unfold Cj at *;omega
theorem VH{l}(h:Nc l)(x:bh)(n:Nat)(G:xy l x.1 x.2.1≠0/\l.length<=n\/l.length<n):(F4 l x).length<=n:=by
 have j:=bQ List.length (Z3 x h);rw[aq,aq]at j;unfold F4;rw[aq,aq];have J:(if x.2.2.1=0 then([]:List bh)else[x]).length<=1:=by split<;>simp
 rcases G with⟨F,H⟩|F
 .rcases Rn h x with C|⟨y,C,_⟩
  .exact absurd (Nd C) F
  .rw[C]at j;simp only[aJ,dB]at j;omega
 .omega
theorem akp{l:List bh}{x:bh}(j:(PI l x).2.1=0):FC l/\mM x/\FC (PI l x).1/\∀y∈(PI l x).1,y∈l\/y.1=x.1:=by
 unfold PI at j ⊢;by_cases H:Nf l=true;case neg=>rw[ag H]at j;cases j
 have hi:=Ht H;rw[ah H]at j ⊢;by_cases F:mM x;case neg=>rw[ag F]at j;cases j
 rw[ah F]at j ⊢;by_cases K:cy (xy l x.1 x.2.1+x.2.2.1);case neg=>rw[ag K]at j;cases j
 rw[ah K]at j ⊢;by_cases G:xy l x.1 x.2.1=0/\l.length=16;case pos=>rw[ah G]at j;cases j
 rw[ag G];have R:=akf hi.1 x.1 x.2.1;refine⟨hi,F,⟨λy C=>?_,i_ hi.2.1 _,VH hi.2.1 _ 16 ?_⟩,λy C=>?_⟩
 .rcases K9 C with C|rfl
  .exact hi.1 y C
  .exact⟨F.1,F.2.1,by have:=F.2.2;dsimp only;omega⟩
 .by_cases J:xy l x.1 x.2.1=0
  .exact .inr (by have:=hi.2.2;have:l.length≠16:=λe=>G ⟨J,e⟩;omega)
  .exact .inl ⟨J,hi.2.2⟩
 .rcases K9 C with C|rfl
  .exact .inl C
  .exact .inr rfl
theorem ah0{l:List bh}{x:bh}(C:(CZ l x).2.1=0):FC l/\mM x/\FC (CZ l x).1/\∀y∈(CZ l x).1,y∈l\/y.1=x.1:=by
 unfold CZ at C ⊢;by_cases G:Nf l=true;case neg=>rw[ag G]at C;cases C
 have hi:=Ht G;rw[ah G]at C ⊢;by_cases F:mM x;case neg=>rw[ag F]at C;cases C
 rw[ah F]at C ⊢;by_cases J:xy l x.1 x.2.1<x.2.2.1;case pos=>rw[ah J]at C;cases C
 rw[ag J];have K:=F.2.2;refine⟨hi,F,⟨λy j=>?_,i_ hi.2.1 _,VH hi.2.1 _ 16 (.inl ⟨by dsimp only;omega,hi.2.2⟩)⟩,λy j=>?_⟩
 .unfold F4 at j;rw[aX,aX]at j;rcases j with j|j|j
  .exact hi.1 y (aM.1 j).1
  .split at j
   .cases j
   .rename_i H;rw[ax.1 j];have H:xy l x.1 x.2.1-x.2.2.1≠0:=H;exact⟨F.1,F.2.1,by dsimp only;omega⟩
  .exact hi.1 y (aM.1 j).1
 .rcases K9 j with j|rfl
  .exact .inl j
  .exact .inr rfl
theorem KI.j_{N}{A}{h:List bj}(P:KI N A h)(u:ar):∀x∈eC h u,A x.1:=by
 have:∀l:List bj,(∀p∈l,∀x∈p.2.1,A x.1)->∀x∈eC l u,A x.1:=by
  intro l;induction l with
  |nil=>intro _ x y;cases y
  |cons p l j=>
   intro h;rw[eC];split
   .exact h p (by simp)
   .exact j λq C=>h q (by simp[C])
 exact this h P.a
theorem KI.set{N}{A}{h}(P:KI N A h){u:ar}{j:List bh}(G:j≠[]->N u)(hi:FC j)(ho:tM j)(H:∀x∈j,A x.1):KI N A (Ij h u j):=by
 have F:=bD P.i;refine⟨ap ⟨λp y=>?_,k_ F.2 u j⟩,λp y=>?_,λp y=>?_,λp y=>?_⟩
 .rcases F8.1 y with⟨h1,_⟩|⟨C,rfl⟩
  .exact F.1 p h1
  .exact⟨C,hi⟩
 .rcases F8.1 y with⟨h1,_⟩|⟨C,rfl⟩
  .exact P.f p h1
  .exact ho
 .rcases F8.1 y with⟨h1,_⟩|⟨C,rfl⟩
  .exact P.n p h1
  .exact G C
 .rcases F8.1 y with⟨h1,_⟩|⟨C,rfl⟩
  .exact P.a p h1
  .exact H
theorem KI.put{N:ar->Prop}{A:Int->Prop}{h:List bj}(P:KI N A h){u:ar}{x:bh}(H:N u)(G:A x.1)(j:(yY h u x).2.1=0):KI N A (yY h u x).1:=by
 unfold yY at j ⊢;rw[ah P.i]at j ⊢;by_cases C:(PI (eC h u) x).2.1=0;case neg=>rw[ag C]at j;exact absurd j C
 rw[ah C];have⟨_,_,K,J⟩:=akp C;exact P.set (λ_=>H) K (Xs (pO P.f u)) λy F=>(J y F).elim (P.j_ u y) λe=>by rw[e];exact G
theorem KI.take{N}{A}{h}(P:KI N A h){u:ar}{x:bh}(F:(pN h u x).2.1=0):KI N A (pN h u x).1/\A x.1/\N u:=by
 unfold pN at F ⊢;rw[ah P.i]at F ⊢;by_cases j:(CZ (eC h u) x).2.1=0;case neg=>rw[ag j]at F;exact absurd F j
 rw[ah j];have⟨V,R,h4,h5⟩:=ah0 j
 have X:∃y∈eC h u,y.1=x.1:=by
  unfold CZ at j;rw[ah (show Nf (eC h u)=true from ap V),ah R]at j;by_cases C:xy (eC h u) x.1 x.2.1<x.2.2.1;case pos=>rw[ah C]at j;cases j
  rcases Rn V.2.1 x with K|⟨y,K,h8,h9⟩
  .rw[Nd K]at C;exact absurd R.2.2 C
  .exact⟨y,h9,h8.1⟩
 have⟨y,G,e⟩:=X;have J:A x.1:=by rw[<-e];exact P.j_ u y G
 have H:N u:=by
  have Y:=bD P.i;rcases acI Y.2 u with⟨_,_,C⟩|⟨_,C⟩
  .rw[C]at G;cases G
  .exact P.n _ C
 exact⟨P.set (λ_=>H) h4 (Rs (pO P.f u)) λz W=>(h5 z W).elim (P.j_ u z) λe=>by rw[e];exact J,J,H⟩
theorem KI.pass{N:ar->Prop}{A:Int->Prop}{h:List bj}(P:KI N A h){f t:ar}{x:bh}{tag:Int}(F:N t)(j:(Ff h f t x tag).2.1=0):KI N A (Ff h f t x tag).1:=by
 unfold Ff at j ⊢;rw[ah P.i]at j ⊢;by_cases C:f=t;case pos=>rw[ah C]at j;cases j
 rw[ag C]at j ⊢;by_cases y:(pN h f x).2.1=0;case neg=>rw[ag y]at j;exact absurd j y
 rw[ah y]at j ⊢;have⟨H,G,_⟩:=P.take y;exact H.put F G j
theorem akq:FC []:=⟨λ_ h=>(by cases h),List.Pairwise.nil,bE _⟩
theorem KI.OK{N}{A}{h}(P:KI N A h){f t:ar}(F:N t)(j:(OK h f t).2.1=0):KI N A (OK h f t).1:=by
 unfold Go.Proofs.YthghpahghjppjaaGreat.OK at j ⊢;rw[ah P.i]at j ⊢;by_cases C:f=t;case pos=>rw[ah C]at j;cases j
 rw[ag C]at j ⊢;by_cases y:eC h t=[];case neg=>rw[ag y]at j;cases j
 rw[ah y];exact(P.set (λh=>absurd rfl h) akq y0 λ_ h=>by cases h).set (λ_=>F) (Eg P.i f) (pO P.f f) (P.j_ f)
theorem KI.aoR{N}{A}{h:List bj}(P:KI N A h)(u:ar):KI N A (ed h u):=by have y:=bD P.i;refine⟨ap ⟨λp j=>y.1 p (aM.1 j).1,?_⟩,λp j=>P.f p (aM.1 j).1,λp j=>P.n p (aM.1 j).1,λp j=>P.a p (aM.1 j).1⟩;exact de (rG _ fh) y.2
def OL(N:ar->Prop)(A:Int->Prop)(p:List aU)(h:List bj):Prop:=PL N p/\KI N A h
theorem akr{N}{A}{as}{u}{x}{m:Int}{p:List aU}{h:List bj}(I:OL N A p h)(J:N u)(H:N tU)(j:(se as u x m p h).2.2=0):
 OL N A (se as u x m p h).1 (se as u x m p h).2.1:=by
 unfold se at j ⊢;split;case isFalse G=>rw[ag G]at j;cases j
 rename_i G;rw[ah G]at j;split;case isTrue=>exact I
 rename_i K;rw[ag K]at j;split;case isFalse F=>rw[ag F]at j;cases j
 rename_i F;rw[ah F]at j;split;case isFalse y=>rw[ag y]at j;exact absurd j y
 rename_i y;rw[ah y]at j;split;case isFalse C=>rw[ag C]at j;exact absurd j C
 rename_i C;exact⟨I.1.move H J C,I.2.pass H y⟩
theorem Jg{N}{A}{as}{u:ar}{c:Int}(y:N u)(C:N tU):∀(l:List bh) (p:List aU) (h:List bj),OL N A p h->(mN as u c l p h).2.2=0->
 OL N A (mN as u c l p h).1 (mN as u c l p h).2.1
 |[],p,h,I,_=>I
 |x::l,p,h,I,he=>by
  unfold mN at he ⊢;split;case isFalse G=>rw[ag G]at he;cases he
  rename_i G;rw[ah G]at he;split;case isFalse F=>rw[ag F]at he;exact Jg y C l p h I he
  rename_i F;rw[ah F]at he;split;case isFalse j=>rw[ag j]at he;exact absurd he j
  rename_i j;rw[ah j]at he;exact Jg y C l _ _ (akr I y C j) he
theorem l_{N}{A}{as}{u}{c}{p:List aU}{h:List bj}(F:N u)(G:N tU)(I:OL N A p h)(j:(lG as p h u c).2.2=0):
 OL N A (lG as p h u c).1 (lG as p h u c).2.1:=by
 unfold lG at j ⊢;split;case isFalse C=>rw[ag C]at j;cases j
 rename_i C;rw[ah C]at j;split;case isTrue y=>rw[ah y]at j;cases j
 rename_i y;rw[ag y]at j;exact Jg F G _ _ _ I j
theorem m_{N}{A}{as}{b t}{n}{p:List aU}{h:List bj}(hb:N b)(F:N t)(G:N tU)(I:OL N A p h)(j:(Bz as p h b t n).2.2.2=0):
 OL N A (Bz as p h b t n).1 (Bz as p h b t n).2.1:=by
 unfold Bz at j ⊢;split;case isTrue=>exact I
 rename_i H;rw[ag H]at j;split;case isFalse y=>rw[ag y]at j;exact absurd j y
 rename_i y;rw[ah y]at j;have J:=l_ hb G I y;split;case isFalse C=>rw[ag C]at j;exact absurd j C
 rename_i C;exact⟨J.1.move hb F C,J.2⟩
theorem n_{N}{A}{as}{b t}{p}{h:List bj}(hb:N b)(F:N t)(G:N tU)(I:OL N A p h)(j:(I7 as p h b t).2.2.2=0):
 OL N A (I7 as p h b t).1 (I7 as p h b t).2.1:=by
 unfold I7 at j ⊢;split;case isFalse C=>rw[ag C]at j;exact absurd j C
 rename_i C;rw[ah C]at j;split;case isFalse y=>rw[ag y]at j;exact absurd j y
 rename_i y;rw[ah y]at j;split;case isTrue=>exact I
 rename_i H;rw[ag H]at j;exact m_ hb F G I j
theorem aks{N}{A}{as}{u}{p:List aU}{h:List bj}(F:N u)(G:N tU)(I:OL N A p h)(j:(PJ as p h u).2.2.2=0):
 OL N A (PJ as p h u).1 (PJ as p h u).2.1:=by
 unfold PJ at j ⊢;split;case isFalse C=>rw[ag C]at j;exact absurd j C
 rename_i C;rw[ah C]at j;split;case isFalse y=>rw[ag y]at j;exact absurd j y
 rename_i y;have J:=l_ F G I y;split
 .exact J
 .exact J
def FI(N:ar->Prop)(A:Int->Prop)(a:FD):Prop:=∀p h,OL N A p h->(a p h).2.2.2=0->OL N A (a p h).1 (a p h).2.1
theorem Xy{N}{A}:∀(l:List FD),(∀a∈l,FI N A a)->∀(p:List aU) (h:List bj) (d:List xe),OL N A p h->(om l p h d).2.2.2=0->OL N A (om l p h d).1 (om l p h d).2.1
 |[],_,p,h,d,I,_=>I
 |a::l,hl,p,h,d,I,he=>by
  rw[om]at he ⊢;by_cases j:(a p h).2.2.2=0
  .rw[ah j]at he ⊢;exact Xy l (λb hb=>hl b (by simp[hb])) _ _ _ (hl a (by simp) p h I j) he
  .rw[ag j]at he;exact absurd he j
theorem Xz:∀(n:Nat) (gs ts:List UA),gs.length+ts.length<=n->∀x∈sf gs ts,(∃g∈gs,g.1=x.1)/\∃t∈ts,t.1=x.2.1
 |_,[],ts,_,x,j=>by rw[sf]at j;cases j
 |_,(u,a)::gs,[],_,x,j=>by rw[sf]at j;cases j
 |n,(u,a)::gs,(v,b)::ts,G,x,j=>by
  obtain⟨m,rfl⟩:∃m,n=m+1:=⟨n-1,by simp only[aJ]at G;omega⟩;simp only[aJ]at G;rw[sf]at j;rcases aG.1 j with rfl|j
  .exact⟨⟨(u,a),by simp,rfl⟩,(v,b),by simp,rfl⟩
  .by_cases H:a<=b
   .rw[ah H]at j;have⟨⟨g,C,e⟩,t,y,F⟩:=Xz m gs ((v,b-a)::ts) (by simp only[aJ];omega) x j;refine⟨⟨g,by simp[C],e⟩,?_⟩;rcases aG.1 y with rfl|y
    .exact⟨(v,b),by simp,F⟩
    .exact⟨t,by simp[y],F⟩
   .rw[ag H]at j;have⟨⟨g,C,e⟩,t,y,F⟩:=Xz m ((u,a-b)::gs) ts (by simp only[aJ];omega) x j;refine⟨?_,t,cH _ y,F⟩;rcases aG.1 C with rfl|C
    .exact⟨(u,a),by simp,e⟩
    .exact⟨g,by simp[C],e⟩
theorem acJ{N}{A}{as:List gK}{l:List ar}(hl:∀u∈l,N u)(H:N tU):FI N A (uu as l):=by
 intro p h I j;unfold uu at j ⊢;split;case isFalse C=>rw[ag C]at j;exact absurd j C
 rename_i C;rw[ah C]at j;split;case isFalse y=>rw[ag y]at j;exact absurd j y
 rename_i y;rw[ah y]at j;refine Xy _ (λa K=>?_) _ _ _ I j;obtain⟨x,G,rfl⟩:=aN.1 K;have⟨⟨g,J,e⟩,t,F,R⟩:=Xz _ _ _ (au _) x G;intro p h I j;refine m_ (b:=x.1) (t:=x.2.1) (n:=x.2.2) ?_ ?_ H I j
 .rw[<-e];exact hl _ (List.of_mem_zip (show(g.1,g.2)∈_ from J)).1
 .rw[<-R];exact hl _ (List.of_mem_zip (show(t.1,t.2)∈_ from F)).1
theorem ah1{N}{A}{t}{id:Int}(H:∀a∈t.2.2.2.2.1,∀u∈cd a,N u)(G:N tU)(R:N fU)(I:OL N A (pu t) (ho t))(C:(om (Hw t id) (pu t) (ho t) []).2.2.2=0):
 OL N A (om (Hw t id) (pu t) (ho t) []).1 (om (Hw t id) (pu t) (ho t) []).2.1:=by
 have mA:∀u∈ym (t.2.2.2.2.1.filter (p9 id)),N u:=λu y=>by have⟨a,j,y⟩:=cE.1 y;exact H a (aM.1 j).1 u y
 have J:∀u∈pp (t.2.2.2.2.1.filter (p9 id)),N u:=λu y=>by have⟨a,j,y⟩:=cE.1 y;exact H a (aM.1 (aM.1 j).1).1 u y
 refine Xy _ (λa j=>?_) _ _ _ I C;unfold Hw Je at j;rcases aX.1 j with j|j
 .obtain⟨u,y,rfl⟩:=aN.1 j;exact λp h I C=>aks (mA u y) G I C
 rcases aX.1 j with j|j
 .obtain⟨x,K,rfl⟩:=aN.1 j;exact acJ (H x (aM.1 (aM.1 K).1).1) G
 rcases aX.1 j with j|j
 .have⟨u,y,hb⟩:=cE.1 j;obtain⟨b,F,rfl⟩:=aN.1 hb;exact λp h I C=>n_ (J b F) (mA u y) G I C
 .have⟨u,y,hb⟩:=cE.1 j;obtain⟨b,F,rfl⟩:=aN.1 hb;rw[ax.1 F];exact λp h I C=>n_ R (mA u y) G I C
theorem ah2{N}{A}{z}{u:ar}(I:OL N A z.1 z.2.1)(y:N u):OL N A (rJ z u).1 (rJ z u).2.1:=by
 unfold rJ;split
 .exact I
 .have⟨C,_⟩:=Ry I.1.i I.1.f u _ rfl;refine⟨I.1.pay (λx j=>?_) C,I.2.aoR u⟩;rw[ax.1 j];exact y
theorem VI{N}{A}:∀(us:List ar) (z:PHR),(∀u∈us,N u)->OL N A z.1 z.2.1->OL N A (us.foldl rJ z).1 (us.foldl rJ z).2.1
 |[],z,_,I=>I
 |u::us,z,h,I=>VI us (rJ z u) (λv hv=>h v (by simp[hv])) (ah2 I (h u (by simp)))
theorem ah3{N}{A}{s:aV}{id:Int}(C:∀a∈s.2.2.2.2.1,∀u∈cd a,N u)(I:OL N A (pu s) (ho s)):OL N A (jI s (gj id s.2.2.2.2.1)).1 (jI s (gj id s.2.2.2.2.1)).2.1:=by refine VI _ _ (λu j=>?_) I;have⟨a,y,j⟩:=cE.1 j;exact C a (aM.1 y).1 u j
def Il(C:List az):List ar:=C.flatMap cd
def pQ(C:List az)(u:ar):Prop:=u∈Il C
def F9(C:List az)(u:ar):Prop:=pQ C u\/u=fU\/u=tU
def kC{α:Type}(f:α->Int)(l:List α)(k:Int):Prop:=∃x∈l,f x=k
def Idx{α:Type}(f:α->Int)(l:List α):Prop:=∀i (h:i<l.length),f l[i]=(i:Int)+1
structure OM(a:az):Prop where
 h:akt a
 s:oo (λx:Int=>x) a.2.2.2.1
 c:∀x∈a.2.2.2.1,1<=x/\x<=16
structure aoS(C:List az)(I:List bH)(g:bR):Prop where
 u:pQ C g.2.1
 i:kC (·.1) I g.2.2.1
 p:0<=g.2.2.2.1/\g.2.2.2.1<=2147483647
 l:lH g.2.2.2.2.1
structure aoT(C:List az)(I:List bH)(n:Nat)(y:cj):Prop where
 f:pQ C y.2.1
 t:pQ C y.2.2.1
 ne:y.2.1≠y.2.2.1
 i:kC (·.1) I y.2.2.2.1.1
 q0:y.2.2.2.1.2.1≠0
 q:lH y.2.2.2.1.2.1
 p:0<=y.2.2.2.2.1/\y.2.2.2.2.1<=2147483647
 g:0<=y.2.2.2.2.2.1/\y.2.2.2.2.2.1<=(n:Int)
 d:0<=y.2.2.2.2.2.2.1/\y.2.2.2.2.2.2.1<=2097152
 s:1<=y.2.2.2.2.2.2.2.1/\y.2.2.2.2.2.2.2.1<=5
structure bZ(dy:Int)(M:List aW)(I:List bH)(A:List bh)(C:List az)(ch:List bA)(gr:List bR)(gv:List cj)(bk sa:List bC)(pu:List aU)(ho:List bj):Prop where
 dy:0<=dy/\dy<=1048576
 mA:oo (·.1) M
 mO:∀m∈M,yp m
 iA:oo (·.1) I
 iO:∀i∈I,Ql i
 aA:oo (·.1) A
 aO:∀a∈A,pn a
 cA:oo (·.1) C
 cO:∀a∈C,OM a
 cM:∀a∈C,kC (·.1) M a.2.1
 hO:∀x∈ch,(pQ C x.1/\pQ C x.2.1)/\x.1≠x.2.1
 hS:jP (ch.map (·.1))
 gI:Idx (·.1) gr
 gO:∀g∈gr,aoS C I g
 gL:gr.length<=64
 vI:Idx (·.1) gv
 vO:∀g∈gv,aoT C I gr.length g
 vL:gv.length<=64
 b:KK (pQ C) (kC (·.1) I) bk
 s:KK (pQ C) (kC (·.1) I) sa
 p:PL (F9 C) pu
 h:KI (F9 C) (kC (·.1) A) ho
 bal:∀j,kS bk j+kS sa j=0
def sb(s:aV):Prop:=bZ s.1 s.2.1 s.2.2.1 s.2.2.2.1 s.2.2.2.2.1 s.2.2.2.2.2.1 s.2.2.2.2.2.2.1 s.2.2.2.2.2.2.2.1 s.2.2.2.2.2.2.2.2.1 s.2.2.2.2.2.2.2.2.2.1 s.2.2.2.2.2.2.2.2.2.2.1 s.2.2.2.2.2.2.2.2.2.2.2.1
def Siz(a b:Nat)(s:aV):Prop:=(Il s.2.2.2.2.1).length<=a/\(bk s).length+(sa s).length<=2*b
theorem Lc{α}{f}{l:List α}(h:oo f l)(n:Nat)(hb:∀x∈l,1<=f x/\f x<=(n:Int)):l.length<=n:=by
 have H:=Jf (l:=l.map f) (U:=(List.range n).map λi=>((i:Nat):Int)+1) (vo (λ{a b} (j:a<b)=>Int.ne_of_lt j) h) λx G=>by obtain⟨y,F,rfl⟩:=aN.1 G;have:=hb y F;exact aN.2 ⟨(f y-1).toNat,Bg.2 (by omega),by omega⟩
 rwa [bp,bp,List.length_range]at H
theorem afo{α}{f}{l:List α}(h:Idx f l):oo f l:=by unfold oo;rw[bP];intro i j hi y F;rw[bp]at hi y;rw[oZ,oZ,h i hi,h j y];omega
theorem XA{α}{f}{l:List α}(h:Idx f l):∀x∈l,1<=f x/\f x<=(l.length:Int):=λx j=>by obtain⟨i,hi,rfl⟩:=jG j;rw[h i hi];omega
theorem afp{α}{f}{g:α->α}(j:∀y,f (g y)=f y){l:List α}(h:Idx f l):Idx f (l.map g):=λi hi=>by rw[oZ,j];exact h i (by simpa using hi)
theorem o_{α}{f}{l:List α}{x:α}(h:Idx f l)(y:f x=(l.length:Int)+1):Idx f (l++[x]):=λi hi=>by
 rw[aq]at hi;simp only[aJ,dB]at hi;by_cases j:i<l.length
 .rw[sE j];exact h i j
 .have:i=l.length:=by omega
  subst this;rw[mR (au _)];simpa using y
theorem afq{α}(f:α->Int):Idx f []:=λi h=>absurd h (Nat.not_lt_zero _)
theorem OM.len{a:az}(O:OM a):a.2.2.2.1.length<=16:=Lc O.s 16 O.c
theorem yp.len{M}(h:oo (·.1) M)(O:∀m∈M,yp m):M.length<=8:=Lc h 8 λm hm=>⟨(O m hm).1,(O m hm).2.1⟩
namespace bZ
variable {dy : Int} {M : List aW} {I : List bH} {A : List bh} {C : List az} {ch : List bA} {gr : List bR} {gv : List cj} {bk sa : List bC} {pu : List aU} {ho : List bj}
theorem mL(L:bZ dy M I A C ch gr gv bk sa pu ho):M.length<=8:=yp.len L.mA L.mO
theorem iL(L:bZ dy M I A C ch gr gv bk sa pu ho):I.length<=8:=Lc L.iA 8 λi hi=>(L.iO i hi).1
theorem aL(L:bZ dy M I A C ch gr gv bk sa pu ho):A.length<=4:=Lc L.aA 4 λi hi=>(L.aO i hi).1
theorem cL(L:bZ dy M I A C ch gr gv bk sa pu ho):C.length<=16:=Lc L.cA 16 λi hi=>(L.cO i hi).h.1
theorem hL(L:bZ dy M I A C ch gr gv bk sa pu ho):ch.length<=(Il C).length:=by
 have:=Jf (l:=ch.map (·.1)) (U:=Il C) (Nl L.hS) λx F=>by obtain⟨y,j,rfl⟩:=aN.1 F;exact(L.hO y j).1.1
 rwa [bp]at this
theorem bL(L:bZ dy M I A C ch gr gv bk sa pu ho):bk.length<=(Il C).length:=L.b.len λ_ h=>h
theorem sL(L:bZ dy M I A C ch gr gv bk sa pu ho):sa.length<=(Il C).length:=L.s.len λ_ h=>h
theorem Rz{C}:∀u,F9 C u->u∈Il C++[fU,tU]:=λu h=>by
 rcases h with h|h|h
 .exact aX.2 (.inl h)
 .exact aX.2 (.inr (by simp[h]))
 .exact aX.2 (.inr (by simp[h]))
theorem pL(L:bZ dy M I A C ch gr gv bk sa pu ho):pu.length<=(Il C).length+2:=by have:=L.p.len Rz;rw[aq]at this;exact this
theorem oL(L:bZ dy M I A C ch gr gv bk sa pu ho):ho.length<=(Il C).length+2:=by have:=L.h.len Rz;rw[aq]at this;exact this
theorem Up(L:bZ dy M I A C ch gr gv bk sa pu ho):Up I:=⟨λi hi=>by have:=(L.iO i hi).2.2.2.2.1;omega,by have:=L.iL;omega⟩
theorem qC(L:bZ dy M I A C ch gr gv bk sa pu ho):qC C:=⟨λa j=>by have:=(L.cO a j).len;omega,by have:=L.cL;omega⟩
theorem Uq(L:bZ dy M I A C ch gr gv bk sa pu ho):Uq I:=⟨λi hi=>by have:=L.iO i hi;unfold Ql at this;exact⟨this.2.1,⟨this.2.2.1.1,by omega⟩,⟨this.2.2.2.1.1,by omega⟩,this.2.2.2.2.1⟩,by have:=L.iL;omega⟩
theorem ao9(L:bZ dy M I A C ch gr gv bk sa pu ho):ao9 I:=⟨L.iO,by have:=L.iL;omega⟩
theorem aoU{l:List Int}(h:l.any RA=false):∀x∈l,cy x:=λx j=>by have:=kH.1 h x j;unfold RA at this;simp only[fv,bc,not_or]at this;unfold cy;omega
theorem tM(L:bZ dy M I A C ch gr gv bk sa pu ho):OkT I:=⟨by have:=L.iL;omega,λi hi=>⟨by have:=(L.iO i hi).2.2.2.2.1;omega,aoU (L.iO i hi).2.2.2.2.2⟩⟩
end bZ
structure yq(d:aK):Prop where
 L:sb (bM d)
 u:(Il (bs d)).length<=90
 t:(cf d).length+(eU d).length<=90
 b:(cf d).length<=64
 s:(eU d).length<=64
 q:cy (dA d)
 n:(sS d).length<=1000
theorem yq.of{d}{a b}(L:sb (bM d))(S:Siz a b (bM d))(h:a+b<=90)(F:cy (dA d))(G:(sS d).length<=1000):yq d:=by have⟨y,j⟩:=S;have y:(Il (bs d)).length<=a:=y;have j:(cf d).length+(eU d).length<=2*b:=j;have J:(cf d).length<=(Il (bs d)).length:=bZ.bL L;have H:(eU d).length<=(Il (bs d)).length:=bZ.sL L;exact⟨L,by omega,by omega,by omega,by omega,F,G⟩
theorem yq.p_{d:aK}(Z:yq d):aku d:=⟨bZ.Up Z.L,(bZ.b Z.L).okB (by have:=Z.b;show(cf d).length<=100;omega),Z.b,(bZ.p Z.L).f,by have h:=bZ.pL Z.L;have:=Z.u;have h:(fN d).length<=(Il (bs d)).length+2:=h;omega⟩
theorem yq.Nn{d:aK}(Z:yq d):Eh d:=
 { Z.p_ with
  a:=bZ.qC Z.L
  al:=by have h:(bs d).length<=16:=bZ.cL Z.L;omega
  as:=bZ.cA Z.L
  m:=by have h:(di d).length<=8:=bZ.mL Z.L;omega
  ms:=bZ.mA Z.L
  is:=bZ.iA Z.L
  g:=bZ.gL Z.L
  gs:=afo (bZ.gI Z.L)
  gi:=λx j=>by have h:=XA (bZ.gI Z.L) x j;have:=bZ.gL Z.L;have h:=h;omega
  gl:=λx j=>by have h:=(bZ.gO Z.L x j).l;unfold lH at h;unfold cy;omega
  v:=bZ.vL Z.L
  vs:=afo (bZ.vI Z.L)
  vi:=λx j=>by have h:=XA (bZ.vI Z.L) x j;have:=bZ.vL Z.L;have h:=h;omega
  vq:=λx j=>by have h:=(bZ.vO Z.L x j).q;unfold lH at h;unfold cy;omega
  q:=Z.q }
theorem yq.okN{d}(Z:yq d):OkN d:=
 { Z.Nn with
  ss:=bZ.aA Z.L
  sl:=by have h:(jc d).length<=4:=bZ.aL Z.L;omega
  n:=Z.n
  cc:=λa j=>⟨(bZ.cO Z.L a j).s,(bZ.cO Z.L a j).len⟩ }
theorem yq.hs{d}(Z:yq d):kL (eY d):=(bZ.h Z.L).kL (by have h:(eY d).length<=(Il (bs d)).length+2:=bZ.oL Z.L;have:=Z.u;show(eY d).length<=400000;omega)
theorem yq.okP{d}(Z:yq d):OkP (bM d) where
 mL:=by have h:(di d).length<=8:=bZ.mL Z.L;show(di d).length<=10;omega
 mI:=λm hm=>by have h:=bZ.mO Z.L m hm;unfold yp at h;unfold cy;omega
 aA:=bZ.qC Z.L
 aL:=by have h:(bs d).length<=16:=bZ.cL Z.L;show(bs d).length<=20;omega
 aS:=bZ.cA Z.L
 cL:=by have h:(jt d).length<=(Il (bs d)).length:=bZ.hL Z.L;have:=Z.u;show(jt d).length<=100;omega
 hb:=Z.p_.b
 bl:=Z.b
 pf:=(bZ.p Z.L).f
 pl:=Z.p_.pl
 hh:=Z.hs
 hl:=by have h:(eY d).length<=(Il (bs d)).length+2:=bZ.oL Z.L;have:=Z.u;show(eY d).length<=94;omega
theorem yq.akv{d}(Z:yq d):okB (eU d):=(bZ.s Z.L).okB (by have:=Z.s;show(eU d).length<=100;omega)
theorem yq.tT{d}(Z:yq d):OkF (bM d) where
 iT:=bZ.ao9 Z.L
 mL:=Z.Nn.m
 aA:=bZ.qC Z.L
 aS:=bZ.cA Z.L
 hb:=Z.p_.b
 hs:=Z.akv
 bl:=Z.b
 sl:=Z.s
 pf:=(bZ.p Z.L).f
 pl:=Z.p_.pl
theorem yq.okS{d}(Z:yq d):OkS (bM d) where
 a:=bZ.aO Z.L
 aL:=by have h:(jc d).length<=4:=bZ.aL Z.L;show(jc d).length<=8;omega
 c:=λa j=>⟨⟨(bZ.cO Z.L a j).h.1.1,(bZ.cO Z.L a j).s|>λh=>by unfold oo at h;rwa [E5]at h⟩,by have:=(bZ.cO Z.L a j).len;omega⟩
 cL:=by have h:(bs d).length<=16:=bZ.cL Z.L;show(bs d).length<=20;omega
 f:=(bZ.p Z.L).f
 fL:=Z.p_.pl
 h:=Z.hs
 hL:=Z.okP.hl
theorem yq.akw{d}(Z:yq d):F' (jc d,fD d,cf d,fN d,eY d,()) where
 a:=bZ.aO Z.L
 al:=by have h:(jc d).length<=4:=bZ.aL Z.L;dsimp only;omega
 t:=bZ.tM Z.L
 b:=Z.p_.b
 f:=(bZ.p Z.L).f
 fl:=by have h:=Z.p_.pl;dsimp only;omega
 h:=Z.hs
theorem q_{α}{f}{l:List α}(h:oo f l)(x:α):oo f (FE f l x):=by
 unfold oo FE at *;rw[gQ]
 have e:(f ∘ λy=>if f y=f x then x else y)=f:=funext λy=>by
  show f (if f y=f x then x else y)=f y;split
  .rename_i h;exact h.symm
  .rfl
 rw[e];exact h
theorem RB{α}{f}{l:List α}{x y:α}(h:y∈FE f l x):y=x\/y∈l:=by
 obtain⟨z,j,rfl⟩:=aN.1 h;split
 .exact .inl rfl
 .exact .inr j
theorem akx{α}{f}{l:List α}{x:α}{k:Int}(h:kC f l k):kC f (FE f l x) k:=by
 have⟨z,j,e⟩:=h;refine⟨_,aN.2 ⟨z,j,rfl⟩,?_⟩;split
 .rename_i y;rw[<-y];exact e
 .exact e
theorem RC{α}{f}{l:List α}{x:α}{k:Int}(h:kC f l k):kC f (si f l x) k:=by have⟨z,j,e⟩:=h;exact⟨z,xB.2 (.inr j),e⟩
theorem QA{α}{f}{g:α->α}{l:List α}{k:Int}(F:∀y,f (g y)=f y)(h:kC f l k):kC f (l.map g) k:=by have⟨z,j,e⟩:=h;exact⟨g z,db j,by rw[F,e]⟩
theorem Ld{α}{f}{g:α->α}(j:∀y,f (g y)=f y){l:List α}(h:oo f l):oo f (l.map g):=QB j h
theorem aoS.mono{C C'}{I I'}{y}(O:aoS C I y)(F:∀u,pQ C u->pQ C' u)(j:∀k,kC (·.1) I k->kC (·.1) I' k):aoS C' I' y:=⟨F _ O.u,j _ O.i,O.p,O.l⟩
theorem aoT.mono{C C'}{I I'}{n m}{y}(O:aoT C I n y)(j:∀u,pQ C u->pQ C' u)(F:∀k,kC (·.1) I k->kC (·.1) I' k)(G:n<=m):aoT C' I' m y:=⟨j _ O.f,j _ O.t,O.ne,F _ O.i,O.q0,O.q,O.p,⟨O.g.1,by have:=O.g.2;omega⟩,O.d,O.s⟩
theorem F9.mono{C C'}(j:∀u,pQ C u->pQ C' u)(u)(h:F9 C u):F9 C' u:=h.imp (j u) id
namespace bZ
variable {dy : Int} {M M' : List aW} {I I' : List bH} {A A' : List bh} {C C' : List az} {ch : List bA} {gr : List bR} {gv : List cj} {bk sa : List bC} {pu : List aU} {ho : List bj}
theorem av9(L:bZ dy M I A C ch gr gv bk sa pu ho)(mA:oo (·.1) M')(mO:∀m∈M',yp m)(y:∀k,kC (·.1) M k->kC (·.1) M' k):bZ dy M' I A C ch gr gv bk sa pu ho:={ L with mA:=mA,mO:=mO,cM:=λa j=>y _ (L.cM a j) }
theorem aoV(L:bZ dy M I A C ch gr gv bk sa pu ho)(iA:oo (·.1) I')(iO:∀m∈I',Ql m)(j:∀k,kC (·.1) I k->kC (·.1) I' k):bZ dy M I' A C ch gr gv bk sa pu ho:={ L with iA:=iA,iO:=iO,gO:=λg y=>(L.gO g y).mono (λ_ h=>h) j,vO:=λg y=>(L.vO g y).mono (λ_ h=>h) j (au _),b:=L.b.mono (λ_ h=>h) j,s:=L.s.mono (λ_ h=>h) j }
theorem avA(L:bZ dy M I A C ch gr gv bk sa pu ho)(aA:oo (·.1) A')(aO:∀m∈A',pn m)(j:∀k,kC (·.1) A k->kC (·.1) A' k):bZ dy M I A' C ch gr gv bk sa pu ho:={ L with aA:=aA,aO:=aO,h:=L.h.mono (λ_ h=>h) j }
theorem avB(L:bZ dy M I A C ch gr gv bk sa pu ho)(cA:oo (·.1) C')(cO:∀m∈C',OM m)(cM:∀a∈C',kC (·.1) M a.2.1)(j:∀u,pQ C u->pQ C' u):bZ dy M I A C' ch gr gv bk sa pu ho:=
 { L with
  cA:=cA,cO:=cO,cM:=cM
  hO:=λx y=>⟨⟨j _ (L.hO x y).1.1,j _ (L.hO x y).1.2⟩,(L.hO x y).2⟩
  gO:=λg F=>(L.gO g F).mono j λ_ h=>h
  vO:=λg F=>(L.vO g F).mono j (λ_ h=>h) (au _)
  b:=L.b.mono j λ_ h=>h
  s:=L.s.mono j λ_ h=>h
  p:=L.p.mono (F9.mono j)
  h:=L.h.mono (F9.mono j) λ_ h=>h }
end bZ
def Kp(x y:Nat)(d e:aK):Prop:=sb (bM e)/\(Il (bs e)).length<=(Il (bs d)).length+x/\(cf e).length+(eU e).length<=(cf d).length+(eU d).length+2*y
theorem Kp.up{x y}{d e:aK}(K:Kp 0 0 d e):Kp x y d e:=⟨K.1,by have:=K.2.1;omega,by have:=K.2.2;omega⟩
theorem Kp.uv{d}(L:sb (bM d)):Kp 0 0 d d:=⟨L,au _,au _⟩
theorem aky{l}{id}(h:gX l id=none):∀y∈l,y.1≠id:=rc h
theorem acK{d:aK}{m:aW}(L:sb (bM d))(h:(Ga (di d) m).2.1=0):Kp 0 0 d (RD d (Ga (di d) m).1):=by
 unfold Ga at h ⊢;by_cases F:yp m;case neg=>rw[ag F]at h;cases h
 rw[ah F]at h ⊢;by_cases j:gX (di d) m.1=none;case neg=>rw[ag j]at h;cases h
 rw[ah j];exact⟨bZ.av9 L (Le (bZ.mA L) (aky j)) (λy G=>(xB.1 G).elim (λe=>by rw[e];exact F) (bZ.mO L y)) λk H=>RC H,au _,au _⟩
theorem RE{d:aK}{m:aW}(L:sb (bM d))(h:(yr (di d) m).2.1=0):Kp 0 0 d (RD d (yr (di d) m).1):=by
 unfold yr at h ⊢;by_cases j:yp m;case neg=>rw[ag j]at h;cases h
 rw[ah j]at h ⊢;by_cases F:gX (di d) m.1=none;case pos=>rw[ah F]at h;cases h
 rw[ag F];exact⟨bZ.av9 L (q_ (bZ.mA L) m) (λy G=>(RB G).elim (λe=>by rw[e];exact j) (bZ.mO L y)) λk H=>akx H,au _,au _⟩
theorem acL{d:aK}{m:bH}(L:sb (bM d))(h:(Jh (fD d) m).2.1=0):Kp 0 0 d (akz d (Jh (fD d) m).1):=by
 unfold Jh at h ⊢;by_cases F:Ql m;case neg=>rw[ag F]at h;cases h
 rw[ah F]at h ⊢;by_cases j:oE (fD d) m.1=none;case neg=>rw[ag j]at h;cases h
 rw[ah j];exact⟨bZ.aoV L (Le (bZ.iA L) (rc j)) (λy G=>(xB.1 G).elim (λe=>by rw[e];exact F) (bZ.iO L y)) λk H=>RC H,au _,au _⟩
theorem ah4{d:aK}{m:bh}(L:sb (bM d))(h:(RF (jc d) m).2.1=0):Kp 0 0 d (RG d (RF (jc d) m).1):=by
 unfold RF at h ⊢;by_cases F:pn m;case neg=>rw[ag F]at h;cases h
 rw[ah F]at h ⊢;by_cases j:RH (jc d) m.1=none;case neg=>rw[ag j]at h;cases h
 rw[ah j];exact⟨bZ.avA L (Le (bZ.aA L) (rc j)) (λy G=>(xB.1 G).elim (λe=>by rw[e];exact F) (bZ.aO L y)) λk H=>RC H,au _,au _⟩
theorem afr{a}(h:r_ a=true):OM a:=by
 unfold r_ at h;rw[aD]at h;have⟨K,y⟩:=h;rw[Gb]at y;unfold No at y;simp only[bc]at y;refine⟨bD K,?_,λx J=>?_⟩
 .unfold oo;rw[E5]
  have step:∀i (hi:i+1<a.2.2.2.1.length),a.2.2.2.1[i]<a.2.2.2.1[i+1]:=λi hi=>by
   have:=(y (i+1) hi).2.2 (by omega)
   rwa [s_ (by omega)]at this
  rw[bP];intro i j hi G F;obtain⟨k,rfl⟩:∃k,j=i+k+1:=⟨j-i-1,by omega⟩;clear F;induction k with
  |zero=>exact step i G
  |succ k H=>exact E6 (H (by omega)) (step (i+k+1) G)
 .obtain⟨i,hi,rfl⟩:=jG J;have:=y i hi;omega
theorem aoW{a}(O:OM a):r_ a=true:=by unfold r_;rw[aD];refine⟨ap O.h,?_⟩;rw[Gb];unfold No;simp only[bc];intro i hi;have y:=O.c _ (aF hi);refine⟨y.1,y.2,λF=>?_⟩;obtain⟨j,rfl⟩:∃j,i=j+1:=⟨i-1,by omega⟩;rw[s_ (by omega)];have hs:=O.s;unfold oo at hs;rw[E5,bP]at hs;exact hs j (j+1) (by omega) hi (by omega)
theorem aoX{C}{a}:(Il (si (·.1) C a)).length=(Il C).length+(cd a).length:=by
 have e:=gV (p:=λy:az=>decide (y.1<a.1)) (l:=C);have h:(Il C).length=(Il (C.takeWhile λy:az=>decide (y.1<a.1))).length+(Il (C.dropWhile λy:az=>decide (y.1<a.1))).length:=by rw[<-aq];unfold Il;rw[<-jF,e]
 show(Il ((C.takeWhile λy:az=>decide (y.1<a.1))++a::C.dropWhile λy:az=>decide (y.1<a.1))).length=_;rw[h];unfold Il;rw[jF,cp,aq,aq];omega
theorem ak0{C}{a}{u}(h:pQ C u):pQ (si (·.1) C a) u:=by have⟨b,hb,j⟩:=cE.1 h;exact cE.2 ⟨b,xB.2 (.inr hb),j⟩
theorem Hz{l}{id}{m}(h:gX l id=some m):m∈l/\m.1=id:=⟨bV h,by have:=jM h;simpa using this⟩
theorem ak1{d}(h:(iQ d).2.1=0):(iQ d).1∈di d/\(iQ d).1.1=yt d:=by
 unfold iQ at h ⊢;cases j:gX (di d) (yt d)with
 |none=>rw[j]at h;cases h
 |some m=>exact Hz j
theorem VJ{d:aK}(L:sb (bM d))(h:(Ei d).1=0):Kp 1 0 d (Ei d).2:=by
 unfold Ei at h ⊢;by_cases J:pR d=0;case neg=>rw[ag J]at h;cases h
 rw[ah J]at h ⊢;by_cases F:HA d=0;case neg=>rw[ag F]at h;exact absurd h F
 rw[ah F]at h ⊢
 have hm:kC (·.1) (di d) (yt d):=by
  unfold HA at F;by_cases j:(iQ d).2.1=0;case neg=>rw[ag j]at F;exact absurd F j
  exact⟨_,ak1 j⟩
 have h:=h;dsimp only;unfold ON at h ⊢;by_cases j:r_ (C6 d)=true;case neg=>rw[ag j]at h;cases h
 rw[ah j]at h ⊢;by_cases H:fj (bs d) (C6 d).1=none;case neg=>rw[ag H]at h;cases h
 rw[ah H];refine⟨bZ.avB L (Le (bZ.cA L) (rc H)) (λy G=>(xB.1 G).elim (λe=>by rw[e];exact afr j) (bZ.cO L y)) (λy G=>(xB.1 G).elim (λe=>by rw[e];exact hm) (bZ.cM L y)) λu K=>ak0 K,?_,au _⟩;show(Il (si (·.1) (bs d) (C6 d))).length<=_;rw[aoX];have:(cd (C6 d)).length<=1:=by unfold cd C6;split<;>simp
 omega
theorem wq{l}{id}{m}(h:fj l id=some m):m∈l/\m.1=id:=⟨bV h,by have:=jM h;simpa using this⟩
theorem RI{α}{f}{x:α}{l:List α}(h:oo f (x::l)):∀y∈l,f y≠f x:=λy j=>by unfold oo at h;rw[bK,bz]at h;have:=h.1 (f y) (db j);omega
theorem afs{b}{n:Nat}:∀{C:List az},oo (·.1) C->(∀y∈C,y.1=b.1->(cd b).length<=(cd y).length+n)->(Il (FE (·.1) C b)).length<=(Il C).length+n
 |[],_,_=>by show(0:Nat)<=0+n;omega
 |y::C,h,hb=>by
  have G:=RI h;have H:oo (λa:az=>a.1) C:=by unfold oo at h ⊢;rw[bK,bz]at h;exact h.2
  unfold FE;rw[bK];by_cases j:y.1=b.1
  .rw[ah j];have e:(C.map λz:az=>if z.1=b.1 then b else z)=C:=by refine(ln λz F=>?_).trans (tH _);rw[ag (by rw[<-j];exact G z F)];rfl
   rw[e];show((b::C).flatMap cd).length<=((y::C).flatMap cd).length+n;rw[cp,cp,aq,aq];have:=hb y (by simp) j;omega
  .rw[ag j];have J:((C.map λz:az=>if z.1=b.1 then b else z).flatMap cd).length<=(C.flatMap cd).length+n:=afs H λz F=>hb z (by simp[F])
   show((y::C.map λz:az=>if z.1=b.1 then b else z).flatMap cd).length<=((y::C).flatMap cd).length+n;rw[cp,cp,aq,aq];omega
theorem C7{α}{f:α->Int}:∀{l:List α},oo f l->∀{x y:α},x∈l->y∈l->f x=f y->x=y
 |[],_,x,_,H,_,_=>by cases H
 |z::l,h,x,y,H,J,e=>by
  have G:=RI h;have hl:oo f l:=by unfold oo at h ⊢;rw[bK,bz]at h;exact h.2
  rcases aG.1 H with F|F
  .rcases aG.1 J with j|j
   .rw[F,j]
   .exact absurd (by rw[<-e,F]) (G y j)
  .rcases aG.1 J with j|j
   .exact absurd (by rw[e,j]) (G x F)
   .exact C7 hl F j e
theorem t_{d:aK}(L:sb (bM d))(h:(Lf d).1=0):Kp 1 0 d (Lf d).2:=by
 unfold Lf at h ⊢;cases X:fj (bs d) (uw d)with
 |none=>rw[X]at h;cases h
 |some a=>
  rw[X]at h;have⟨V,hk⟩:=wq X;dsimp only at h ⊢;by_cases Y:(VK d a.2.1).2.2.1=0;case neg=>rw[ag Y]at h;cases h
  rw[ah Y]at h ⊢;by_cases j:(oH a (pR d)).2.1=0;case neg=>rw[ag j]at h;exact absurd h j
  rw[ah j]at h ⊢;have O:=bZ.cO L a V
  have hb:∃c,¬a.2.2.1=1/\(oH a (pR d)).1=(a.1,a.2.1,a.2.2.1,si (λx:Int=>x) a.2.2.2.1 c,()):=by
   unfold oH at j ⊢;rw[ah (aoW O)]at j ⊢;by_cases H:a.2.2.1=1;case pos=>rw[ah H]at j;cases j
   rw[ag H]at j ⊢;split;case isTrue F=>rw[ah F]at j;cases j
   rename_i F;rw[ag F]at j;split;case isTrue R=>rw[ah R]at j;cases j
   rename_i R;rw[ag R]at j;split;case isTrue h6=>rw[ah h6]at j;cases j
   exact⟨_,H,rfl⟩
  have⟨c,H,eb⟩:=hb;rw[eb]at h ⊢;have h:=h;unfold OO at h ⊢;split;case isFalse F=>rw[ag F]at h;cases h
  rename_i F;rw[ah F]at h;split;case isTrue R=>rw[ah R]at h;cases h
  have K:∀u,u∈cd a->u∈cd (a.1,a.2.1,a.2.2.1,si (λx:Int=>x) a.2.2.2.1 c,()):=λu K=>by unfold cd at K ⊢;rw[ag H]at K ⊢;obtain⟨z,hz,rfl⟩:=aN.1 K;exact aN.2 ⟨z,xB.2 (.inr hz),rfl⟩
  refine⟨bZ.avB L (q_ (bZ.cA L) _) (λy J=>(RB J).elim (λe=>by rw[e];exact afr F) (bZ.cO L y)) (λy J=>(RB J).elim (λe=>by rw[e];exact bZ.cM L a V) (bZ.cM L y)) λu W=>?_,?_,au _⟩
  .have⟨b,hb,G⟩:=cE.1 W;refine cE.2 ⟨_,aN.2 ⟨b,hb,rfl⟩,?_⟩;split
   .rename_i e;rw[C7 (bZ.cA L) hb V e]at G;exact K u G
   .exact G
  .refine afs (bZ.cA L) λy J e=>?_
   rw[C7 (bZ.cA L) J V e];unfold cd;rw[ag H,ag H,bp,bp];rw[u_];omega
theorem ah5{d}(L:sb (bM d))(h:(Ej d).1=0):Kp 1 0 d (Ej d).2:=by
 unfold Ej at h ⊢;split;case isTrue J=>rw[ah J]at h;exact(acK L h).up
 rename_i J;rw[ag J]at h;split;case isTrue H=>rw[ah H]at h;exact(acL L h).up
 rename_i H;rw[ag H]at h;split;case isTrue G=>rw[ah G]at h;exact(ah4 L h).up
 rename_i G;rw[ag G]at h;split;case isTrue F=>rw[ah F]at h;exact VJ L h
 rename_i F;rw[ag F]at h;split;case isTrue y=>rw[ah y]at h;exact t_ L h
 rename_i y;rw[ag y]at h;split
 case isTrue K=>
  rw[ah K]at h;split;case isTrue j=>rw[ah j]at h;exact(RE L h).up
  rename_i j;rw[ag j]at h;exact absurd h j
 exact(Kp.uv L).up
end Go.Proofs.YthghpahghjppjaaGreat