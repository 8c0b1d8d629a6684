import Derived.Test.YthghpahghjppjaaGreatB5
import Derived.Laws.Bits64
import Derived.Laws.Bits64b
namespace Go.Proofs.YthghpahghjppjaaGreat
open Go Go.Vc Go.RowKit
open Go.IntKind (i64 u64)
abbrev nU:=ar
def yo(l:List nU):Prop:=(∀x∈l,(1<=x.1/\x.1<=8)/\x.2.1≠0)/\(l.map (·.1)).Pairwise (· < ·)
instance (l:List nU):Decidable (yo l):=by unfold yo;infer_instance
def D9(l:List nU):Bool:=decide (yo l)
theorem Yy{l:List nU}{i:Nat}(hi:i<l.length)(h:¬((1<=l[i].1/\l[i].1<=8)/\l[i].2.1≠0)):D9 l=false:=an λj=>h (j.1 _ (aF hi))
theorem amV{l:List nU}{i:Nat}(hi:i<l.length)(y:0<i)(h:¬(l[i-1]'(by omega)).1<l[i].1):D9 l=false:=an λj=>h (by have:=bP.1 j.2 (i-1) i (by simp;omega) (by simpa using hi) (by omega);simpa using this)
theorem amW{l:List nU}{i:Nat}(hi:i<l.length)(inv:yo (l.take i))(V:(1<=l[i].1/\l[i].1<=8)/\l[i].2.1≠0)(R:∀W:0<i,(l[i-1]'(by omega)).1<l[i].1):yo (l.take (i+1)):=by
 rw[aw hi];refine⟨λx j=>?_,?_⟩
 .rcases aX.1 j with j|j
  .exact inv.1 x j
  .simp only[ax]at j;rw[j];exact V
 .rw[cC];refine dv.2 ⟨inv.2,by simp,λa K b hb=>?_⟩;simp only[bK,nQ,ax]at hb;subst hb;have⟨k,F,y⟩:=dr.1 K;have J:k<i:=by simp at F;omega
  have H:=R (by omega);by_cases C:k=i-1
  .subst C;rw[<-y];simpa using H
  .have G:=bP.1 inv.2 k (i-1) (by simpa using F) (by simp;omega) (by omega);rw[y]at G;refine E6 G ?_;simpa using H
theorem aq4{l:List nU}(h:yo (l.take l.length)):D9 l=true:=by rw[bq]at h;exact ap h
def Pc(l:List nU)(i:Nat):Int:=if h:0<i/\i<=l.length then(l[i-1]'(by omega)).1 else 0
theorem aq5{l:List nU}{i:Nat}(h:i<l.length):Pc l (i+1)=l[i].1:=by unfold Pc;rw[zo ⟨by omega,by omega⟩];rfl
theorem agu{l:List nU}(hl:l.length<=1000000):auM l=some (D9 l):=by
 refine aq3 (N:=l.length) (by omega) (λi=>(Pc l i,(i:Int),())) (λi=>yo (l.take i)) (some (D9 l)) (by unfold Pc;simp) (by simp[yo]) ?_ ?_
 .intro h j;refine FQ ?_;rw[aq4 h]
 .intro i hi inv j R;refine Ii hi ?_;rw[bN hi];refine bB λk J=>?_
  have H:k (true,())=some false:=by subst J;rfl
  have K:k (false,())=j (Pc l (i+1),((i+1:Nat):Int),()):=by rw[<-cJ i,aq5 hi];subst J;rfl
  refine dh (λy=>?_) λy=>?_
  .rw[H];unfold Pc at y;by_cases C:0<i
   .rw[zo ⟨C,by omega⟩]at y;rw[amV hi C (by omega)]
   .rw[dif_neg (by omega)]at y;rw[Yy hi (by omega)]
  .refine dh (λV=>?_) λV=>?_
   .rw[H,Yy hi (by omega)]
   .by_cases G:l[i].2.1=0
    .rw[show(l[i].2.1==0)=true by simpa using G,H,Yy hi (by simp[G])]
    .rw[show(l[i].2.1==0)=false by simpa using G,K]
     have F:1<=l[i].1:=by
      unfold Pc at y;by_cases C:0<i
      .rw[zo ⟨C,by omega⟩]at y;have:=(inv.1 (l[i-1]'(by omega)) (dr.2 ⟨i-1,by simp;omega,by simp⟩)).1.1;omega
      .rw[dif_neg (by omega)]at y;omega
     refine R (amW hi inv ⟨⟨F,by omega⟩,G⟩ λC=>?_);unfold Pc at y;rw[zo ⟨C,by omega⟩]at y;omega
def Yz(i:bH)(q:Int):Int:=(i.2.2.2.1-i.2.2.1)*i.2.1*q
theorem L2{a b A B}(C : -A<=a/\a<=A)(hb : -B<=b/\b<=B) : -(A*B)<=a*b/\a*b<=A*B:=by
 have y:a.natAbs<=A.toNat:=by omega
 have j:b.natAbs<=B.toNat:=by omega
 have G:(a*b).natAbs<=A.toNat*B.toNat:=by rw[Int.natAbs_mul];exact Nat.mul_le_mul y j
 have F:((A.toNat*B.toNat:Nat):Int)=A*B:=by rw[mU,rX (by omega),rX (by omega)]
 omega
theorem ag3{i}(h:okI i) : -140737488355328<=(i.2.2.2.1-i.2.2.1)*i.2.1/\(i.2.2.2.1-i.2.2.1)*i.2.1<=140737488355328:=by have⟨C,y,j,_⟩:=h;exact L2 (A:=2147483648) (B:=65536) (by omega) (by omega)
theorem aq6{i}(h:okI i){q:Int}(j:cy q) : -1298074214633706907132624082305024<=Yz i q/\Yz i q<=1298074214633706907132624082305024:=by unfold cy at j;exact L2 (A:=140737488355328) (B:=9223372036854775808) (ag3 h) (by omega)
theorem Wo{t}{id}{i}(h:oE t id=some i):i∈t:=bV h
theorem Uq.len{t}(h:Uq t):t.length<=1000000:=by have:=h.2;omega
def GI(t:List bH):List nU->Option Int
 |[]=>some 0
 |x::l=>match oE t x.1 with
  |none=>none
  |some i=>match GI t l with
   |none=>none
   |some z=>some (Yz i x.2.1+z)
def uL(t:List bH)(l:List nU):Int×Int×Unit:=if D9 l=true then(match GI t l with|none=>(0,11,())|some z=>cP z)else(0,3,())
def Rw(l:List nU):Prop:=∀x∈l,cy x.2.1
theorem awZ{t}(j:Uq t){x:nU}(y:cy x.2.1):amX t x=some (match oE t x.1 with|some i=>(wide (Yz i x.2.1),0,())|none=>((0,0,()),11,())):=by
 show Dx aj t x=_;unfold Dx;rw[ai (Xd j.len λi hi=>by have:=(j.1 i hi).2.2.2;omega)];cases h:oE t x.1 with
 |none=>exact aQ (by decide) _ _
 |some i=>have hi:=j.1 i (Wo h);have hb:=ag3 hi;show aj.af (!true) _ (aj.ae (C0 (i64.wrap (i.2.2.2.1-i.2.2.1)) i.2.1) _)=_;have⟨G,F,C,_⟩:=hi;rw[aB (by decide),bF _ (by omega),ai (Ee (by unfold cy;omega) (by unfold cy;omega)),ai (aaH (by unfold cy;omega) y)];rfl
theorem auN{t}(V:Uq t){l:List nU}(W:Rw l)(hl:l.length<=1000):ai8 t l=some (uL t l):=by
 show Av aj t l=_;unfold Av uL;rw[ai (agu (by omega))];by_cases hv:D9 l=true
 .rw[hv,aB (by decide),ah rfl];have e0:(match GI t l with|none=>(0,11,())|some z=>cP z)=(match GI t l with|none=>(0,11,())|some z=>cP (0+z)):=by cases GI t l<;>simp
  rw[e0];refine gB (l:=l) (by omega) (λi (s:List bW×Unit)=>s.1.length=i/\(∀w∈s.1,EI w) /\ -(1298074214633706907132624082305024*(i:Int))<=q' s.1/\q' s.1<=1298074214633706907132624082305024*(i:Int)) (s0:=(([]:List bW),())) (λl' (s:List bW×Unit)=>some (match GI t l' with|none=>(0,11,())|some z=>cP (q' s.1+z))) ⟨rfl,by simp,by simp[q'],by simp[q']⟩ ?_ ?_
  .rintro⟨j,⟨⟩⟩ y ⟨J,H,R,K⟩;simp only at J H R K;have G:eB (q' j):=by unfold eB;omega
   have ea:zN j=some (wide (q' j),0,()):=by rw[Rr j H (by omega)];unfold fit;rw[ah G]
   rw[dT];show aj.ae (zN j) _=some (cP (q' j+0));rw[ai ea,vp];show aj.af ((0:Int) != 0) _ (aj.ae (L3 (wide (q' j))) _)=_;rw[aB (by decide),ai (I9 G)]
  .rintro i hi ⟨j,⟨⟩⟩ ⟨J,H,R,K⟩ y Y;simp only at J H R K;have F:=W _ (aF hi);rw[dk hi,bN hi,ai (awZ V F)];show _=some (match GI t (l[i]::l.drop (i+1))with|none=>(0,11,())|some z=>cP (q' j+z));rw[GI];cases X:oE t l[i].1 with
   |none=>show aj.af ((11:Int) != 0) _ _=_;rw[aQ (by decide)]
   |some x=>
    have hb:=aq6 (V.1 x (Wo X)) F;have hI:eB (Yz x l[i].2.1):=by unfold eB;omega
    show aj.af ((0:Int) != 0) _ (aj.bg (j.length+1) 16 (y (i64.wrap ((i:Int)+1),j++[wide (Yz x l[i].2.1)],())))=_;have hs:q' (j++[wide (Yz x l[i].2.1)])=q' j+Yz x l[i].2.1:=by rw[aaQ,aaR,sG]
    rw[aB (by decide),c9,cJ i,Y (j++[wide (Yz x l[i].2.1)],()) ⟨by simp[J],λw C=>?_,by simp only[hs];omega,by simp only[hs];omega⟩]
    .dsimp only;rw[hs];cases GI t (l.drop (i+1))with
     |none=>rfl
     |some z=>dsimp only;rw[Int.add_assoc]
    .rcases aX.1 C with C|C
     .exact H w C
     .simp only[ax]at C;exact C▸mX _ hI
 .have hv:D9 l=false:=by simpa using hv
  rw[hv,aQ (by decide),ag (by simp)]
def C5(l:List bC):Prop:=(∀p∈l,p.2.1≠[]/\yo p.2.1)/\jP (l.map (·.1))
instance (l:List bC):Decidable (C5 l):=by unfold C5 jP;infer_instance
def r'(l:List bC):Bool:=decide (C5 l)
theorem aaS{l:List bC}{i:Nat}(hi:i<l.length)(h:¬(l[i].2.1≠[]/\yo l[i].2.1)):r' l=false:=an λj=>h (j.1 _ (aF hi))
theorem amY{l:List bC}{i:Nat}(hi:i<l.length)(y:0<i)(h:¬nV (l[i-1]'(by omega)).1 l[i].1):r' l=false:=an λj=>h (by have:=bP.1 j.2 (i-1) i (by simp;omega) (by simpa using hi) (by omega);simpa using this)
theorem aaT{l:List bC}{i:Nat}(hi:i<l.length)(inv:C5 (l.take i))(V:l[i].2.1≠[]/\yo l[i].2.1)(R:∀W:0<i,nV (l[i-1]'(by omega)).1 l[i].1):C5 (l.take (i+1)):=by
 rw[aw hi];refine⟨λx j=>?_,?_⟩
 .rcases aX.1 j with j|j
  .exact inv.1 x j
  .simp only[ax]at j;rw[j];exact V
 .rw[cC];refine dv.2 ⟨inv.2,by simp,λa K b hb=>?_⟩;simp only[bK,nQ,ax]at hb;subst hb;have⟨k,F,y⟩:=dr.1 K;have J:k<i:=by simp at F;omega
  have H:=R (by omega);by_cases C:k=i-1
  .subst C;rw[<-y];simpa using H
  .have G:=bP.1 inv.2 k (i-1) (by simpa using F) (by simp;omega) (by omega);rw[y]at G;refine rS G ?_;simpa using H
theorem aq7{l:List bC}(h:C5 (l.take l.length)):r' l=true:=by rw[bq]at h;exact ap h
def okB(l:List bC):Prop:=(∀p∈l,Rw p.2.1/\p.2.1.length<=100)/\l.length<=100
theorem FW{l:List bC}(hb:okB l):W7 l=some (r' l):=by
 have hl:=hb.2;refine Et (N:=l.length) (by omega) (λi _=>C5 (l.take i)) (some (r' l)) (by simp[C5]) ?_ ?_
 .rintro _ j h;rw[dT,aq7 h]
 .rintro i hi _ inv j K;rw[dk hi,bN hi];refine bB λk J=>?_
  have F:k (true,())=some false:=by subst J;rfl
  have H:k (false,())=j (((i+1:Nat):Int),()):=by rw[<-cJ i];subst J;rfl
  have R:=(hb.1 _ (aF hi)).2;by_cases y:l[i].2.1=[]
  .rw[aQ (by simp[y]),iW,F,aaS hi (by simp[y])]
  rw[aB (by simpa using y),ai (agu (by omega))];by_cases hv:yo l[i].2.1
  .rw[show D9 l[i].2.1=true from ap hv,aB (by decide)];by_cases G:0<i
   .rw[eA (by omega),Aq i G (by rw[gC];omega),bN,ai (BJ _ _),iW];by_cases C:nV (l[i-1]'(by omega)).1 l[i].1
    .rw[ap C];exact H.trans (K _ (aaT hi inv ⟨y,hv⟩ λ_=>C))
    .rw[an C,amY hi G C];exact F
   .rw[cQ (by omega),iW];exact H.trans (K _ (aaT hi inv ⟨y,hv⟩ λh=>absurd h G))
  .rw[show D9 l[i].2.1=false from an hv,aQ (by decide),iW,F,aaS hi λh=>hv h.2]
def qv(t:List bH):List bC->List aU->List aU×Int×Unit
 |[],acc=>(acc,0,())
 |p::l,acc=>if(uL t p.2.1).2.1=0 then(if(uL t p.2.1).1=0 then qv t l acc else qv t l (acc++[(p.1,(uL t p.2.1).1,())]))else([],(uL t p.2.1).2)
def rW(t:List bH)(l:List bC):List aU×Int×Unit:=if r' l=true then qv t l []else([],3,())
theorem Wp{z}(h:(cP z).2.1=0):(cP z).1=z/\cy z:=by
 unfold cP at h ⊢;by_cases j:cy z
 .rw[ah j];exact⟨rfl,j⟩
 .rw[ag j]at h;simp at h
theorem aq8{t}{l}(h:(uL t l).2.1=0):∃z,D9 l=true/\GI t l=some z/\(uL t l).1=z/\cy z:=by
 unfold uL at h ⊢;by_cases hv:D9 l=true
 .rw[ah hv]at h ⊢;cases j:GI t l with
  |none=>rw[j]at h;simp at h
  |some z=>rw[j]at h;have⟨C,y⟩:=Wp h;exact⟨z,hv,rfl,C,y⟩
 .rw[ag hv]at h;simp at h
def gv(t:List bH)(p:bC):Int:=(uL t p.2.1).1
def gF(t:List bH)(p:bC):aU:=(p.1,gv t p,())
def gFs(t:List bH)(l:List bC):List aU:=(l.filter λp=>decide (gv t p≠0)).map (gF t)
theorem JE(t):∀(l:List bC) (acc:List aU),(qv t l acc).2.1=0->(qv t l acc).1=acc++gFs t l/\∀p∈l,(uL t p.2.1).2.1=0
 |[],acc,_=>by simp[qv,gFs]
 |p::l,acc,h=>by
  unfold qv at h ⊢;by_cases y:(uL t p.2.1).2.1=0
  .rw[ah y]at h ⊢;by_cases C:(uL t p.2.1).1=0
   .rw[ah C]at h ⊢;have⟨G,F⟩:=JE t l _ h;refine⟨?_,λx j=>?_⟩
    .rw[G];unfold gFs;rw[bw,ag (by unfold gv;simp[C])]
    .rcases aG.1 j with rfl|j
     .exact y
     .exact F x j
   .rw[ag C]at h ⊢;have⟨G,F⟩:=JE t l _ h;refine⟨?_,λx j=>?_⟩
    .rw[G];unfold gFs;rw[bw,ah (by unfold gv;simp[C])];simp;rfl
    .rcases aG.1 j with rfl|j
     .exact y
     .exact F x j
  .rw[ag y]at h;exact absurd h y
theorem GJ(t):∀(l:List bC) (acc:List aU),(qv t l acc).1.length<=acc.length+l.length
 |[],acc=>by simp[qv]
 |p::l,acc=>by
  unfold qv;split
  .split
   .have:=GJ t l acc;simp;omega
   .have:=GJ t l (acc++[(p.1,(uL t p.2.1).1,())]);simp at this ⊢;omega
  .simp
theorem g_{t}{l}(h:(rW t l).2.1=0):r' l=true/\(rW t l).1=gFs t l/\∀p∈l,(uL t p.2.1).2.1=0:=by
 unfold rW at h ⊢;by_cases j:r' l=true
 .rw[ah j]at h ⊢;have⟨C,y⟩:=JE t l _ h;exact⟨j,by rw[C,da],y⟩
 .rw[ag j]at h;simp at h
theorem ai9(t)(l):(rW t l).1.length<=l.length:=by
 unfold rW;split
 .have:=GJ t l [];simpa using this
 .simp
theorem aiA{t}{l}(h:(rW t l).2.1=0):tT (rW t l).1:=by have⟨_,H,G⟩:=g_ h;rw[H];intro x j;obtain⟨p,y,rfl⟩:=aN.1 j;have⟨z,_,_,F,C⟩:=aq8 (G p (aM.1 y).1);show cy (uL t p.2.1).1;rw[F];exact C
def y6(t:List bH)(l:List bC)(p:List aU):List aU×Int×Unit:=if xb p=true then(if(rW t l).2.1=0 then qJ p (rW t l).1 else([],(rW t l).2))else([],3,())
theorem ahy{t}{l}{p}(h:(y6 t l p).2.1=0):xb p=true/\(rW t l).2.1=0/\y6 t l p=qJ p (rW t l).1:=by
 unfold y6 at h ⊢;by_cases y:xb p=true
 .rw[ah y]at h ⊢;by_cases j:(rW t l).2.1=0
  .exact⟨y,j,by rw[ah j]⟩
  .rw[ag j]at h;exact absurd h j
 .rw[ag y]at h;simp at h
theorem aq9{t}{l}(J:Uq t)(hb:okB l):adK t l=some (rW t l):=by
 have hl:=hb.2;show xN aj t l=_;unfold xN rW;rw[ai (FW hb)];by_cases C:r' l=true
 .rw[C,aB (by decide),ah rfl];refine gB (l:=l) (by omega) (s0:=(([]:List aU),())) (λi (s:List aU×Unit)=>s.1.length<=i) (λl' (s:List aU×Unit)=>some (qv t l' s.1)) (au _) ?_ ?_
  .rintro⟨acc,⟨⟩⟩ j _;rw[dT];rfl
  .rintro i hi ⟨acc,⟨⟩⟩ y j R;simp only at y;rw[dk hi];refine bB λk K=>?_
   have H:∀v:List aU,v.length<=i+1->k (v,())=some (qv t (l.drop (i+1)) v):=by intro v hv;subst K;dsimp only;rw[cJ i];exact R (v,()) hv
   have⟨V,W⟩:=hb.1 _ (aF hi);rw[bN hi,ai (auN J V (by omega))];show _=some (qv t (l[i]::l.drop (i+1)) acc);rw[qv];by_cases F:(uL t l[i].2.1).2.1=0
   .rw[aB (by simp[F]),ah F];by_cases G:(uL t l[i].2.1).1=0
    .rw[aB (by simp[G]),ah G];exact H acc (by omega)
    .rw[aQ (by simp[G]),ag G];show aj.bg (acc.length+1) 24 (k (acc++[(l[i].1,(uL t l[i].2.1).1,())],()))=_;rw[c9];exact H _ (by simp;omega)
   .rw[aQ (by simp[F]),ag F]
 .have C:r' l=false:=by simpa using C
  rw[C,aQ (by decide),ag (by simp)]
theorem aaU{t}{l}{p}(y:Uq t)(hb:okB l)(C:tT p)(hl:p.length<=1000):GK t l p=some (y6 t l p):=by
 show uM aj t l p=_;unfold uM y6;rw[ai (ZL (by omega))];by_cases h:xb p=true
 .rw[h,aB (by decide),ah rfl,ai (aq9 y hb)];by_cases j:(rW t l).2.1=0
  .have:=ai9 t l;have:=hb.2;rw[aB (by simp[j]),ah j,ai (aaV C (aiA j) (by omega))]
  .rw[aQ (by simp[j]),ag j]
 .have h:xb p=false:=by simpa using h
  rw[h,aQ (by decide),ag (by simp)]
def fM:List nU->Int->Int
 |[],_=>0
 |x::l,k=>if x.1=k then x.2.1 else fM l k
theorem ajz{l}{k}(hl:l.length<=1000000):agx l k=some (fM l k):=by
 refine gB (l:=l) (by omega) (s0:=()) (λ_ _=>True) (λl' _=>some (fM l' k)) trivial ?_ ?_
 .rintro _ j _;rw[dT];rfl
 .rintro i hi _ _ j y;rw[dk hi,bN hi];dsimp only;rw[fM];refine dE (λh=>?_) λh=>?_
  .rw[ah h]
  .rw[ag h];rw[cJ i];exact y _ trivial
theorem agw{l}(h:Rw l)(k):cy (fM l k):=by
 induction l with
 |nil=>show cy 0;unfold cy;omega
 |cons x l j=>
  rw[fM];split
  .exact h x (by simp)
  .exact j λy C=>h y (by simp[C])
def kS(l:List bC)(k:Int):Int:=eQ (λp=>fM p.2.1 k) l
def ks:List Int:=[1,2,3,4,5,6,7,8]
theorem adC(k):k∈ks↔1<=k/\k<=8:=by unfold ks;simp;omega
theorem xF{α}{f g:α->Int}{l:List α}(h:∀x∈l,f x=g x):eQ f l=eQ g l:=by
 induction l with
 |nil=>rfl
 |cons x l j=>rw[dW,dW,h x (by simp),j λy C=>h y (by simp[C])]
theorem auI{l}(h:yo l):(l.map (·.1)).Nodup:=h.2.imp λ{a b} (j:a<b) e=>by omega
theorem Rg{l}(hl:l.length<=1000000):amH l=some (!D9 l):=by show wG aj l=_;unfold wG;rw[ai (agu hl)]
theorem ayu{s}(hs:s.length<=1000000)(hl:∀l∈s,l.length<=1000000):∃i:Int,qh s=some (i,())/\decide (0<=i)=!(s.all D9):=by
 refine nW (λo=>∃i:Int,o=some (i,())/\decide (0<=i)=!(s.all D9)) (λz=>s.length+1-z.1.toNat) (λz=>∃j:Nat,j<=s.length/\z=((j:Int),())/\(s.take j).all D9=true) ⟨0,bE _,rfl,by simp⟩ (by dsimp only;omega) ?_;rintro _ ⟨j,G,rfl,y⟩ C F;by_cases h:j<s.length
 .rw[dk h];show ∃i,aj.aI s (j:Int) _=_/\_;rw[bN h,ai (Rg (hl _ (aF h)))];by_cases hv:D9 s[j]=true
  .rw[hv,aB (by decide)];dsimp only;rw[cJ j];refine F _ ⟨j+1,by omega,rfl,?_⟩ (by dsimp only;omega);rw[aw h,List.all_append,y];simp[hv]
  .have hv:D9 s[j]=false:=by simpa using hv
   rw[hv,aQ (by decide)];refine⟨(j:Int),rfl,?_⟩;have:s.all D9=false:=by rw[List.all_eq_false];exact⟨s[j],aF h,by simp[hv]⟩
   rw[this,ap (by omega)];rfl
 .have:j=s.length:=by omega
  subst this;rw[dT];rw[bq]at y;exact⟨-1,rfl,by rw[y];rfl⟩
theorem ayv{s}(hs:s.length<=1000000)(hl:∀l∈s,l.length<=1000000):o5 s=some (!(s.all D9),()):=by show dp aj s=_;unfold dp;have⟨i,e,h⟩:=ayu hs hl;rw[ai e];dsimp only;rw[h]
def xL(l:List (List nU))(k:Int):Int:=(l.map λv=>fM v k).sum
def Dt(l:List (List nU)):List Int->List nU->List nU×Int×Unit
 |[],acc=>(acc,0,())
 |k::ks,acc=>if cy (xL l k)then(if xL l k=0 then Dt l ks acc else Dt l ks (acc++[(k,xL l k,())]))else([],7,())
def vD(l:List (List nU)):List nU×Int×Unit:=if l.all D9=true then Dt l ks []else([],3,())
theorem aqt{j}(h:j<8):ks.drop j=((j:Int)+1)::ks.drop (j+1):=by
 have:j=0\/j=1\/j=2\/j=3\/j=4\/j=5\/j=6\/j=7:=by omega
 rcases this with rfl|rfl|rfl|rfl|rfl|rfl|rfl|rfl<;>rfl
theorem adB{l}(hs:l.length<=1000)(hl:∀v∈l,v.length<=1000)(ho:∀v∈l,Rw v):agv l=some (vD l):=by
 show Ar aj l=_;unfold Ar vD;rw[ai (ayv (by omega) λv hv=>by have:=hl v hv;omega)];by_cases hv:l.all D9=true
 .rw[hv,aB (by decide),ah rfl];refine(fR (λz=>10-z.1.toNat) (λz=>∃(j:Nat) (acc:List nU),j<=8/\acc.length<=j/\z=((j:Int)+1,acc,())) (λz=>some (Dt l (ks.drop (z.1.toNat-1)) z.2.1)) ⟨0,[],by omega,au _,rfl⟩ (by dsimp only;omega) ?_);rintro _ ⟨j,acc,hj,V,rfl⟩ K ha;have ej:(((j:Int)+1).toNat-1)=j:=by omega
  show aj.af (decide ((j:Int)+1<=8)) _ _=some (Dt l (ks.drop (((j:Int)+1).toNat-1)) acc);rw[ej];by_cases h8:j<8
  .rw[eA (by omega),aqt h8];refine bB λC Y=>?_
   have R:∀v:List nU,v.length<=j+1->C (v,())=some (Dt l (ks.drop (j+1)) v):=by
    intro v hv;subst Y;dsimp only;have e1:i64.wrap ((j:Int)+1+1)=((j+1:Nat):Int)+1:=by rw[bF _ (by omega)];omega
    rw[e1,ha _ ⟨j+1,v,by omega,hv,rfl⟩ (by dsimp only;omega)];dsimp only;rw[show(((j+1:Nat):Int)+1).toNat-1=j+1 by omega]
   rw[Dt];have F:∀x∈l.map (λv=>fM v ((j:Int)+1)),cy x:=by intro x X;obtain⟨v,hv,rfl⟩:=aN.1 X;exact agw (ho v hv) _
   refine qp (N:=l.length) (by omega) (λi=>((i:Int),acc,(l.take i).map λv=>fM v ((j:Int)+1),())) _ rfl ?_ ?_
   .intro y;show aj.af (decide ((l.length:Int)<(l.length:Int))) _ (aj.ae (Hr ((l.take l.length).map λv=>fM v ((j:Int)+1))) _)=_;rw[dT,bq,ai (sR F (by rw[bp];omega))];show aj.af ((cP (xL l ((j:Int)+1))).2.1 != 0) (some ([],(cP (xL l ((j:Int)+1))).2)) (aj.af ((cP (xL l ((j:Int)+1))).1 != 0) (aj.bg (acc.length+1) 16 (C (acc++[((j:Int)+1,(cP (xL l ((j:Int)+1))).1,())],()))) (C (acc,())))=_;unfold cP;by_cases H:cy (xL l ((j:Int)+1))
    .rw[ah H,ah H];show aj.af ((0:Int) != 0) _ (aj.af (xL l ((j:Int)+1) != 0) (aj.bg (acc.length+1) 16 (C (acc++[((j:Int)+1,xL l ((j:Int)+1),())],()))) (C (acc,())))=_;rw[aB (by decide)];by_cases J:xL l ((j:Int)+1)=0
     .rw[aB (by simp[J]),ah J];exact R acc (by omega)
     .rw[aQ (by simp[J]),ag J,c9];exact R _ (by simp;omega)
    .rw[ag H,ag H];show aj.af ((7:Int) != 0) _ _=_;rw[aQ (by decide)]
   .intro i hi y G;show aj.af (decide ((i:Int)<(l.length:Int))) (aj.aI l (i:Int) λW=>aj.ae (agx W ((j:Int)+1)) λv9=>aj.bg (((l.take i).map λv=>fM v ((j:Int)+1)).length+1) 8 (y (i64.wrap ((i:Int)+1),acc,((l.take i).map λv=>fM v ((j:Int)+1))++[v9],()))) _=_;have h2:=hl _ (aF hi);rw[dk hi,bN hi,ai (ajz (by omega))];have:((l.take i).map λv=>fM v ((j:Int)+1)).length<=1000:=by rw[bp,aY];omega
    rw[c9,cJ i];rw[aw hi,cC]at G;exact G
  .have:j=8:=by omega
   subst this;rw[cQ (by omega)];rfl
 .have hv:l.all D9=false:=by simpa using hv
  rw[hv,aQ (by decide),ag (by simp)]
theorem S7(l):∀(us:List Int) (acc:List nU),(Dt l us acc).2.1=0->
 (Dt l us acc).1=acc++(us.filter λu=>decide (xL l u≠0)).map (λu=>((u,xL l u,()):nU))/\∀u∈us,cy (xL l u)
 |[],acc,_=>by simp[Dt]
 |u::us,acc,h=>by
  unfold Dt at h ⊢;by_cases y:cy (xL l u)
  .rw[ah y]at h ⊢;by_cases C:xL l u=0
   .rw[ah C]at h ⊢;have⟨G,F⟩:=S7 l us _ h;refine⟨?_,λx j=>?_⟩
    .rw[G,bw,ag (by simp[C])]
    .rcases aG.1 j with rfl|j
     .exact y
     .exact F x j
   .rw[ag C]at h ⊢;have⟨G,F⟩:=S7 l us _ h;refine⟨?_,λx j=>?_⟩
    .rw[G,bw,ah (by simp[C])];simp
    .rcases aG.1 j with rfl|j
     .exact y
     .exact F x j
  .rw[ag y]at h;simp at h
def S'(f:Int->Int):List nU:=(ks.filter λu=>decide (f u≠0)).map λu=>((u,f u,()):nU)
theorem Ta(f):(S' f).length<=8:=by unfold S';rw[bp];exact bU (cR _ _) (by decide)
theorem ai0:ks.Pairwise (· < ·):=by decide
theorem Xv(f):yo (S' f):=by
 refine⟨λx y=>?_,?_⟩
 .obtain⟨u,C,rfl⟩:=aN.1 y;have⟨F,j⟩:=aM.1 C;simp only[bc]at j;exact⟨(adC u).1 F,j⟩
 .unfold S';rw[gQ];have:((λx:nU=>x.1) ∘ λu=>((u,f u,()):nU))=id:=rfl;rw[this,tH];exact ai0.filter _
theorem Hy{l}{k}(h:∀x∈l,x.1≠k):fM l k=0:=by
 induction l with
 |nil=>rfl
 |cons x l j=>rw[fM,ag (h x (by simp)),j λy C=>h y (by simp[C])]
theorem Tb{l}(h:yo l){k:Int}(y:k∉ks):fM l k=0:=by
 refine Hy λx j e=>y ?_
 rw[<-e,adC];exact(h.1 x j).1
theorem amI(f:Int->Int)(us:List Int)(k:Int):fM (us.map λu=>((u,f u,()):nU)) k=if k∈us then f k else 0:=by
 induction us with
 |nil=>rfl
 |cons u us j=>
  rw[bK,fM,j];by_cases h:u=k
  .subst h;simp
  .rw[ag h];by_cases hm:k∈us
   .rw[ah hm,ah (by simp[hm])]
   .rw[ag hm,ag (by simp[hm,ga h])]
theorem Tc(f:Int->Int)(k:Int)(y:k∉ks->f k=0):fM (S' f) k=f k:=by
 unfold S';rw[amI];by_cases h:k∈ks
 .by_cases j:f k=0
  .rw[ag (by simp[j]),j]
  .rw[ah (by simp[h,j])]
 .rw[ag (by simp[h]),y h]
theorem aaB{α}{lt}(j:∀a,¬lt a a)(G:∀a b c,lt a b->lt b c->lt a c):∀{l m:List α},l.Pairwise lt->m.Pairwise lt->(∀x,x∈l↔x∈m)->l=m
 |[],[],_,_,_=>rfl
 |[],b::m,_,_,h=>absurd ((h b).2 (by simp)) (by simp)
 |a::l,[],_,_,h=>absurd ((h a).1 (by simp)) (by simp)
 |a::l,b::m,hl,hm,h=>by
  have⟨J,R⟩:=bz.1 hl;have⟨H,K⟩:=bz.1 hm
  have C:a=b:=by
   rcases aG.1 ((h a).1 (by simp))with e|e
   .exact e
   .rcases aG.1 ((h b).2 (by simp))with F|F
    .exact F.symm
    .exact absurd (G _ _ _ (H a e) (J b F)) (j b)
  subst C;congr 1;refine aaB j G R K λx=>?_
  constructor
  .intro y;rcases aG.1 ((h x).1 (by simp[y]))with e|e
   .subst e;exact absurd (J x y) (j x)
   .exact e
  .intro y;rcases aG.1 ((h x).2 (by simp[y]))with e|e
   .subst e;exact absurd (H x y) (j x)
   .exact e
theorem adD{l:List nU}(C:(l.map (·.1)).Nodup):l=(l.map (·.1)).map λu=>((u,fM l u,()):nU):=by
 induction l with
 |nil=>rfl
 |cons x l j=>
  have⟨G,F⟩:=fw.1 C;rw[bK,bK,fM,ah rfl];congr 1
  have:(l.map (·.1)).map (λu=>((u,fM (x::l) u,()):nU))=(l.map (·.1)).map λu=>((u,fM l u,()):nU):=by
   refine ln λu y=>?_
   rw[fM,ag λe=>G (by show x.1∈_;rw[e];exact y)]
  rw[this];exact j F
theorem asD{l}(h:yo l)(u:Int):u∈l.map (·.1)↔fM l u≠0:=by
 constructor
 .intro C e;obtain⟨x,j,rfl⟩:=aN.1 C;have H:=adD (auI h);have F:=(h.1 x j).2;rw[H]at j;have⟨v,hv,y⟩:=aN.1 j;rw[<-y]at F e;exact F e
 .intro C;refine cT λG=>C (Hy λx j e=>G (aN.2 ⟨x,j,e⟩))
theorem VT{a b}(j:yo a)(hb:yo b)(h:∀u,fM a u=fM b u):a=b:=by
 have e:=aaB (lt:=λx y:Int=>x<y) (λa=>Int.lt_irrefl a) (λa b c=>E6) j.2 hb.2 λu=>by rw[asD j,asD hb,h]
 rw[adD (auI j),adD (auI hb),e];exact ln λu _=>by rw[h]
theorem Qz{l:List (List nU)}(h:(vD l).2.1=0):l.all D9=true/\(vD l).1=S' (xL l)/\(∀k∈ks,cy (xL l k))/\∀k,fM (vD l).1 k=xL l k:=by
 unfold vD at h ⊢;by_cases hv:l.all D9=true
 .rw[ah hv]at h ⊢;have⟨C,K⟩:=S7 l ks [] h;rw[da]at C;refine⟨hv,C,K,λk=>?_⟩;rw[C];refine Tc _ k λJ=>?_
  unfold xL;have:∀x∈l.map (λv=>fM v k),x=0:=by intro x H;obtain⟨v,j,rfl⟩:=aN.1 H;exact Tb (bD (lZ.1 hv v j)) J
  generalize l.map (λv=>fM v k)=m at this;induction m with
  |nil=>rfl
  |cons x m F=>rw[gG,this x (by simp),F λy G=>this y (by simp[G])];rfl
 .rw[ag hv]at h;simp at h
theorem aj1{k q}(G:1<=k/\k<=8)(F:q≠0)(J:cy q)(y:cy (-q)):Xe [(k,q,())]=some ([(k,-q,())],0,()):=by
 show sd aj [(k,q,())]=_;unfold sd;have hv:D9 [((k,q,()):nU)]=true:=ap ⟨by intro x C;simp only[ax]at C;subst C;exact⟨G,F⟩,by simp⟩;rw[ai (Rg (by simp)),hv,aB (by decide)];refine qp (N:=1) (by omega) (λi=>((i:Int),([((k,-q,()):nU)]).take i,())) _ rfl ?_ ?_
 .intro j;show aj.af (decide ((1:Int)<(1:Int))) _ _=_;rw[aB (by decide)];rfl
 .intro i hi j H;have:i=0:=by omega
  subst this;have e:=I1 (a:=0) (b:=q) (by unfold cy;omega) J;rw[show(0:Int)-q = -q by omega]at e;show aj.af (decide ((0:Int)<(1:Int))) (aj.ae (Yu 0 q) _) _=_;rw[aQ (by decide),ai e];unfold cP;rw[ah y];show aj.af ((0:Int) != 0) _ (aj.bg 1 16 (j (i64.wrap (0+1),[(k,-q,())],())))=_;rw[aB (by decide),c9];exact H
def kc:List bC->ar->List nU
 |[],_=>[]
 |p::l,u=>if p.1=u then p.2.1 else kc l u
theorem aaC{s}(h:s.length<=1000000):qu s=some s:=by
 show fo aj s=_;unfold fo;rw[CA];refine xj ?_ λj=>?_
 .refine zp (by decide) ?_;rw[c9];rfl
 .have:s=[]:=by simpa using j
  subst this;rfl
theorem Rf{l}{u}(hb:okB l):KO l u=some (kc l u):=by
 have hl:=hb.2;refine gB (l:=l) (by omega) (s0:=()) (λ_ _=>True) (λl' _=>some (kc l' u)) trivial ?_ ?_
 .rintro _ j _;rw[dT];rfl
 .rintro i hi _ _ j y;have C:=(hb.1 _ (aF hi)).2;rw[dk hi,bN hi,Td,eqA];rw[kc];refine dh (λh=>?_) λh=>?_
  .rw[ah h,ai (aaC (by omega))]
  .rw[ag h];dsimp only;rw[cJ i];exact y _ trivial
theorem amJ{l}(hb:okB l):aaD l=some l:=by
 have hl:=hb.2;show zc aj l=_;refine qp (N:=l.length) (by omega) (λi=>((i:Int),l.take i,())) _ rfl ?_ ?_
 .intro j;refine FQ ?_;rw[bq]
 .intro i hi j C;have F:=(hb.1 _ (aF hi)).2;show aj.af (decide ((i:Int)<(l.length:Int))) (aj.aI l (i:Int) λy=>aj.ae (qu y.2.1) λv4=>aj.bg ((l.take i).length+1) 40 (j (i64.wrap ((i:Int)+1),l.take i++[(y.1,v4,())],()))) _=_;have:(l.take i).length<=100:=by rw[aY];omega
  rw[dk hi,bN hi,ai (aaC (by omega)),c9,cJ i];rw[aw hi]at C;exact C
def ot(u:ar)(l:List bC):List bC:=l.filter λp=>decide (nV p.1 u)
def Is(u:ar)(l:List bC):List bC:=l.filter λp=>decide (p.1=u)
def vT(u:ar)(l:List bC):List bC:=l.filter λp=>decide (nV u p.1)
theorem amK(u):∀{l:List bC},jP (l.map (·.1))->l=ot u l++(Is u l++vT u l)
 |[],_=>rfl
 |p::l,h=>by
  have⟨y,R⟩:=bz.1 h;have y:∀x∈l,nV p.1 x.1:=λx j=>y _ (db j)
  have J:=amK u (l:=l) R;unfold ot Is vT at J ⊢;rw[bw,bw,bw];by_cases G:nV p.1 u
  .have V:¬p.1=u:=λe=>jm u (by rw[e]at G;exact G)
   have C:¬nV u p.1:=λe=>CB G e
   rw[ah (by simpa using G),ag (by simpa using V),ag (by simpa using C),jk,<-J]
  .by_cases F:p.1=u
   .have C:¬nV u p.1:=by rw[F];exact jm u
    have H:∀x∈l,decide (nV x.1 u)=false:=λx j=>an λe=>CB e (by rw[<-F];exact y x j)
    have a2:∀x∈l,decide (x.1=u)=false:=λx j=>an λe=>jm u (by have:=y x j;rw[F,e]at this;exact this)
    have a3:∀x∈l,decide (nV u x.1)=true:=λx j=>ap (by rw[<-F];exact y x j)
    rw[ag (by simpa using G),ah (by simpa using F),ag (by simpa using C),jO H,jO a2,Bx a3];rfl
   .have C:=cT λK=>F (Eo G K)
    have H:∀x∈l,decide (nV x.1 u)=false:=λx j=>an λe=>CB (rS C (y x j)) e
    have a2:∀x∈l,decide (x.1=u)=false:=λx j=>an λe=>jm u (by have:=rS C (y x j);rw[e]at this;exact this)
    have a3:∀x∈l,decide (nV u x.1)=true:=λx j=>ap (rS C (y x j))
    rw[ag (by simpa using G),ag (by simpa using F),ah (by simpa using C),jO H,jO a2,Bx a3];rfl
theorem ahz{l:List bC}(h:jP (l.map (·.1))):(l.map (·.1)).Nodup:=Nl h
theorem QO{l}(h:(l.map (·.1)).Nodup){p}(j:p∈l):kc l p.1=p.2.1:=by
 induction l with
 |nil=>cases j
 |cons x l y=>
  have⟨F,C⟩:=fw.1 h;rw[kc];rcases aG.1 j with rfl|j
  .rw[ah rfl]
  .rw[ag λe=>F (by show x.1∈_;rw[e];exact db j),y C j]
theorem Gk{l}{u}(h:∀p∈l,p.1≠u):kc l u=[]:=by
 induction l with
 |nil=>rfl
 |cons x l j=>rw[kc,ag (h x (by simp)),j λy C=>h y (by simp[C])]
theorem N4{l:List bC}(h:jP (l.map (·.1)))(u:ar):(Is u l=[]/\(∀p∈l,p.1≠u)/\kc l u=[])\/(Is u l=[(u,kc l u,())]/\(u,kc l u,())∈l):=by
 by_cases F:∃p∈l,p.1=u
 .right;obtain⟨p,j,rfl⟩:=F;have e:=QO (ahz h) j;have J:((p.1,kc l p.1,()):bC)=p:=by rw[e]
  rw[J];refine⟨?_,j⟩;have R:=ahz h;clear h e J;induction l with
  |nil=>cases j
  |cons x l G=>
   have⟨H,V⟩:=fw.1 R;unfold Is at G ⊢;rw[bw];rcases aG.1 j with rfl|j
   .rw[ah (by simp),jO λy K=>an λe=>H (by show p.1∈_;rw[<-e];exact db K)]
   .rw[ag (by simpa using λe=>H (by show x.1∈_;rw[e];exact db j)),G j V]
 .left;have C:∀p∈l,p.1≠u:=λp j e=>F ⟨p,j,e⟩
  exact⟨jO λp j=>an (C p j),C,Gk C⟩
def adE(l:List bC)(u:ar):Bool:=!(Is u l).isEmpty
theorem aqu{l}{u:ar}(hb:okB l)(h:jP (l.map (·.1))):adF l u=some (((ot u l).length:Int),adE l u,()):=by
 have hl:=hb.2;have X:=amK u h;have K:∀p∈ot u l,nV p.1 u:=λp F=>by simpa using(aM.1 F).2
 have G:∀p∈Is u l++vT u l,¬nV p.1 u:=λp F=>by
  rcases aX.1 F with F|F
  .have:p.1=u:=by simpa using(aM.1 F).2
   rw[this];exact jm u
  .have:nV u p.1:=by simpa using(aM.1 F).2
   exact λe=>CB this e
 have hll:(ot u l).length+(Is u l++vT u l).length=l.length:=by rw[<-aq,<-X]
 have J:∀i (hi:i<l.length),i<(ot u l).length->nV l[i].1 u:=λi hi C=>by
  refine K _ ?_;have:l[i]?=(ot u l++(Is u l++vT u l))[i]?:=by rw[<-X]
  rw[bG C,ay hi,ay C]at this;rw[cG this];exact aF C
 have H:∀(hi:(ot u l).length<l.length),(Is u l++vT u l)[0]?=some l[(ot u l).length]:=λhi=>by
  have:l[(ot u l).length]?=(ot u l++(Is u l++vT u l))[(ot u l).length]?:=by rw[<-X]
  rw[dJ (au _),zn,ay hi]at this;exact this.symm
 refine(fR (λz=>l.length+1-z.1.toNat) (λz=>∃i:Nat,i<=(ot u l).length/\z=((i:Int),())) (λ_=>some (((ot u l).length:Int),adE l u,())) ⟨0,bE _,rfl⟩ (by dsimp only;omega) ?_);rintro _ ⟨i,hi,rfl⟩ Y ha;by_cases C:i<(ot u l).length
 .have j:i<l.length:=by omega
  rw[dk j,bN j,ai (BJ _ _),ap (J i j C),aB (by decide)];dsimp only;rw[cJ i];exact ha _ ⟨i+1,by omega,rfl⟩ (by dsimp only;omega)
 .have V:i=(ot u l).length:=by omega
  by_cases j:i<l.length
  .subst V;have W:=H j;have hm:=G l[(ot u l).length] (kB W);rw[dk j,bN j,ai (BJ _ _),an hm,aQ (by decide),Td,eqA];congr 3;unfold adE;cases y:Is u l with
   |nil=>
    rw[y,da]at W;have:=kB W;have:nV u l[(ot u l).length].1:=by simpa using(aM.1 this).2
    rw[an λe=>jm u (by rw[e]at this;exact this)];rfl
   |cons p m=>
    rw[y]at W;have e:p=l[(ot u l).length]:=by simpa using W
    have F:p∈Is u l:=by rw[y];simp
    have:p.1=u:=by simpa using(aM.1 F).2
    rw[<-e,ap this];rfl
  .have R:i=l.length:=by omega
   have:Is u l++vT u l=[]:=ff (by omega);have hm:=(List.append_eq_nil_iff.1 this).1;rw[cQ (by omega)];unfold adE;rw[hm,<-V,R];rfl
def L1(l:List bC)(u:ar)(j:List nU):List bC:=ot u l++((if j=[]then[]else[(u,j,())])++vT u l)
theorem aaE{l}(h:jP (l.map (·.1)))(u:ar)(j:List nU):(L1 l u j).length<=l.length+1:=by have y:=bQ List.length (amK u h);unfold L1;rw[aq,aq]at y;rw[aq,aq];split<;>simp<;>omega
theorem uq{l}{u}{now}{p}:p∈L1 l u now↔(p∈l/\p.1≠u)\/(now≠[]/\p=(u,now,())):=by
 unfold L1 ot vT;rw[aX,aX,aM,aM];constructor
 .rintro(⟨y,j⟩|h|⟨y,j⟩)
  .exact .inl ⟨y,λe=>jm u (by simp only[bc]at j;rw[e]at j;exact j)⟩
  .split at h
   .cases h
   .rename_i G;exact .inr ⟨G,by simpa using h⟩
  .exact .inl ⟨y,λe=>jm u (by simp only[bc]at j;rw[e]at j;exact j)⟩
 .rintro(⟨y,j⟩|⟨G,rfl⟩)
  .by_cases C:nV p.1 u
   .exact .inl ⟨y,by simpa using C⟩
   .by_cases F:nV u p.1
    .exact .inr (.inr ⟨y,by simpa using F⟩)
    .exact absurd (Eo C F) j
  .rw[ag G];exact .inr (.inl (by simp))
theorem aaF{l}(h:jP (l.map (·.1)))(u:ar)(F:List nU):jP ((L1 l u F).map (·.1)):=by
 unfold L1;rw[cC,cC];have C:∀x∈(ot u l).map (·.1),nV x u:=λx G=>by obtain⟨p,J,rfl⟩:=aN.1 G;simpa using(aM.1 J).2
 have j:∀x∈(vT u l).map (·.1),nV u x:=λx G=>by obtain⟨p,J,rfl⟩:=aN.1 G;simpa using(aM.1 J).2
 have R:jP ((ot u l).map (·.1)):=de ((fh).map _) h;have K:jP ((vT u l).map (·.1)):=de ((fh).map _) h
 have y:∀x∈(if F=[]then([]:List bC)else[(u,F,())]).map (·.1),x=u:=λx G=>by
  split at G
  .cases G
  .simpa using G
 refine dv.2 ⟨R,dv.2 ⟨?_,K,λa H b hb=>?_⟩,λa H b hb=>?_⟩
 .split<;>simp
 .rw[y a H];exact j b hb
 .rcases aX.1 hb with hb|hb
  .rw[y b hb];exact C a H
  .exact rS (C a H) (j b hb)
theorem akn{l}(h:C5 l)(u:ar){j:List nU}(hv:yo j):C5 (L1 l u j):=
 ⟨λp y=>by
  rcases uq.1 y with⟨h1,_⟩|⟨C,rfl⟩
  .exact h.1 p h1
  .exact⟨C,hv⟩,aaF h.2 u j⟩
theorem agy{l}(h:jP (l.map (·.1)))(u:ar)(j:List nU)(x:ar):kc (L1 l u j) x=if x=u then j else kc l x:=by
 have J:=ahz (aaF h u j);by_cases G:x=u
 .subst G;rw[ah rfl];by_cases K:j=[]
  .rw[K];refine Gk λp y=>?_
   rcases uq.1 y with⟨_,H⟩|⟨H,_⟩
   .exact H
   .exact absurd rfl H
  .exact QO J (p:=(x,j,())) (uq.2 (.inr ⟨K,rfl⟩))
 .rw[ag G];by_cases F:∃p∈l,p.1=x
  .obtain⟨p,y,rfl⟩:=F;rw[QO (ahz h) y,QO J (uq.2 (.inl ⟨y,G⟩))]
  .have C:∀p∈l,p.1≠x:=λp y e=>F ⟨p,y,e⟩
   rw[Gk C];refine Gk λp y=>?_
   rcases uq.1 y with⟨h1,_⟩|⟨_,rfl⟩
   .exact C p h1
   .exact ga G
theorem aqv{l}(h:jP (l.map (·.1)))(u:ar)(j:List nU)(k:Int):kS (L1 l u j) k=kS l k-fM (kc l u) k+fM j k:=by
 have e:kS l k=kS (ot u l) k+(kS (Is u l) k+kS (vT u l) k):=by have:=bQ (λm=>kS m k) (amK u h);unfold kS at this ⊢;rw[qa,qa]at this;exact this
 have G:kS (Is u l) k=fM (kc l u) k:=by
  rcases N4 h u with⟨h1,_,C⟩|⟨h1,_⟩
  .rw[h1,C];rfl
  .rw[h1];show fM (kc l u) k+0=_;omega
 have F:kS (L1 l u j) k=kS (ot u l) k+(fM j k+kS (vT u l) k):=by
  unfold L1 kS;rw[qa,qa];by_cases y:j=[]
  .rw[ah y,y];rfl
  .rw[ag y];show _+((fM j k+0)+_)=_;omega
 rw[F,e,G];omega
def fm(l:List bC)(u:ar)(j:List nU):List bC×Int×Unit:=if r' l=true then(if(vD [kc l u,j]).2.1=0 then(L1 l u (vD [kc l u,j]).1,0,())else([],(vD [kc l u,j]).2))else([],3,())
theorem M5{l}(hb:okB l)(u):Rw (kc l u)/\(kc l u).length<=100:=by
 have:∀l:List bC,(∀p∈l,Rw p.2.1/\p.2.1.length<=100)->Rw (kc l u)/\(kc l u).length<=100:=by
  intro l;induction l with
  |nil=>intro _;exact⟨(λx y=>by cases y),by simp[kc]⟩
  |cons p l j=>
   intro h;rw[kc];split
   .exact h p (by simp)
   .exact j λq C=>h q (by simp[C])
 exact this l hb.1
theorem Ec{l}{u:ar}{j:List nU}(hb:okB l)(hl:l.length<=90)(ho:Rw j)(hg:j.length<=100):wc l u j=some (fm l u j):=by
 show nf aj l u j=_;unfold nf fm;rw[ai (FW hb)];by_cases J:r' l=true
 .have hB:=bD J;have⟨h1,h2⟩:=M5 hb u
  rw[J,aB (by decide),ah rfl,ai (Rf hb),ai (adB (l:=[kc l u,j]) (by simp) (λv hv=>by
   simp only[aG,dN,lk]at hv;rcases hv with rfl|rfl<;>omega) λv hv=>by
   simp only[aG,dN,lk]at hv;rcases hv with rfl|rfl
   .exact h1
   .exact ho)]
  by_cases R:(vD [kc l u,j]).2.1=0
  .have K:=(Qz R).2.1;have hnl:=Ta (xL [kc l u,j]);rw[<-K]at hnl;rw[aB (by simp[R]),ah R,ai (aqu hb hB.2),ai (amJ hb)];have G:=amK u hB.2;have C:=bQ List.length G;rw[aq,aq]at C;refine bB λF hk=>?_
   have kk:∀o:List bC,o=ot u l++vT u l->F ((vD [kc l u,j]).1,o,())=some (L1 l u (vD [kc l u,j]).1,0,()):=by
    intro o y;subst hk;refine bB λk8 hk8=>?_
    have H:∀Y,k8 (Y,())=some (Y,0,()):=by intro Y;subst hk8;rfl
    show aj.af (decide ((0:Int)<((vD [kc l u,j]).1.length:Int))) (aj.ae (HG o ((ot u l).length:Int) [(u,(vD [kc l u,j]).1,())]) λv9=>k8 (v9.1,())) (k8 (o,()))=_;unfold L1;by_cases W:(vD [kc l u,j]).1=[]
    .rw[cQ (by rw[W];simp),H,ah W,y];rfl
    .have atp:=fQ.2 W;have e:HG o ((ot u l).length:Int) [(u,(vD [kc l u,j]).1,())]=some (ot u l++(u,(vD [kc l u,j]).1,())::vT u l,()):=by have:=N5 (n:=40) (l:=o) (k:=(ot u l).length) (x:=(u,(vD [kc l u,j]).1,())) (by rw[y,aq];omega) (by rw[y,aq];omega);rw[y,List.take_left,List.drop_left]at this;rw[y];exact this
     rw[eA (by omega),ai e,ag W];exact H _
   show aj.af (adE l u) (aj.ae (HF l ((ot u l).length:Int) (i64.wrap (((ot u l).length:Int)+1))) λX=>F ((vD [kc l u,j]).1,X.1,())) (F ((vD [kc l u,j]).1,l,()))=_;rcases N4 hB.2 u with⟨V,_,_⟩|⟨V,_⟩
   .rw[aB (by unfold adE;rw[V];rfl)];rw[V,da]at G;exact kk l G
   .rw[V]at G C;rw[aQ (by unfold adE;rw[V];rfl),cJ _ (by simp at C;omega)]
    have e:HF l ((ot u l).length:Int) (((ot u l).length+1:Nat):Int)=some (ot u l++vT u l,()):=by
     refine(auJ (l:=l) (a:=(ot u l).length) (b:=(ot u l).length+1) (by omega) (by simp at C;omega)).trans ?_;congr 2
     have e1:l.take (ot u l).length=ot u l:=by
      have:=bQ (List.take (ot u l).length) G
      rwa [List.take_left]at this
     have e2:l.drop ((ot u l).length+1)=vT u l:=by have:=bQ (List.drop ((ot u l).length+1)) G;rw[D8,iy (Nat.le_succ _),Nat.add_sub_cancel_left]at this;exact this
     rw[e1,e2]
    rw[ai e];exact kk _ rfl
  .rw[aQ (by simp[R]),ag R]
 .have J:r' l=false:=by simpa using J
  rw[J,aQ (by decide),ag (by simp)]
theorem GC(p):aaG p=some (decide (0<=p/\p<=2147483647)):=by
 refine dh (λh=>?_) λh=>?_
 .congr 1;exact dM.2 (by omega)
 .rw[an (by omega)]
def RA(m:Int):Bool:=decide (m < -2147483647)||decide (2147483647<m)
theorem awR(m):amL m=some (RA m):=by
 show Du aj m=_;unfold Du RA;refine dh (λh=>?_) λh=>?_
 .rw[ap h];rfl
 .rw[an h];rfl
theorem awS{s}(hs:s.length<=1000000):∃i:Int,rV s=some (i,())/\decide (0<=i)=s.any RA:=by
 refine nW (λo=>∃i:Int,o=some (i,())/\decide (0<=i)=s.any RA) (λz=>s.length+1-z.1.toNat) (λz=>∃j:Nat,j<=s.length/\z=((j:Int),())/\(s.take j).any RA=false) ⟨0,bE _,rfl,by simp⟩ (by dsimp only;omega) ?_;rintro _ ⟨j,G,rfl,y⟩ C F;by_cases h:j<s.length
 .rw[dk h];show ∃i,aj.aI s (j:Int) _=_/\_;rw[bN h,ai (awR _)];cases hv:RA s[j]with
  |false=>rw[aB rfl];dsimp only;rw[cJ j];refine F _ ⟨j+1,by omega,rfl,?_⟩ (by dsimp only;omega);rw[aw h,List.any_append,y];simp[hv]
  |true=>rw[aQ rfl];refine⟨(j:Int),rfl,?_⟩;have:=j9.2 ⟨s[j],aF h,hv⟩;rw[this,ap (by omega)]
 .have:j=s.length:=by omega
  subst this;rw[dT];rw[bq]at y;exact⟨-1,rfl,by rw[y];rfl⟩
theorem awT{s}(hs:s.length<=1000000):qA s=some (s.any RA,()):=by show dU aj s=_;unfold dU;have⟨i,e,h⟩:=awS hs;rw[ai e];dsimp only;rw[h]
def Ql(i:bH):Prop:=(1<=i.1/\i.1<=8)/\(1<=i.2.1/\i.2.1<=65536)/\(0<=i.2.2.1/\i.2.2.1<=2147483647)/\(0<=i.2.2.2.1/\i.2.2.2.1<=2147483647)/\i.2.2.2.2.1.length<=8/\i.2.2.2.2.1.any RA=false
instance (i:bH):Decidable (Ql i):=by unfold Ql;infer_instance
theorem QP{i}(hm:i.2.2.2.2.1.length<=1000000):adG i=some (if Ql i then 0 else 2):=by
 refine bB λk7 J=>?_
 have y:¬Ql i->(2:Int)=if Ql i then 0 else 2:=λh=>(ag h).symm
 have C:¬Ql i->k7 (false,())=some (if Ql i then 0 else 2):=by
  intro h;rw[<-y h];subst J;refine bB λK F=>?_
  have j:K (true,())=some 2:=by subst F;rfl
  refine Um rfl ?_;rw[j]
 have R:(1<=i.1/\i.1<=8)->(1<=i.2.1/\i.2.1<=65536)->k7 (true,())=some (if Ql i then 0 else 2):=by
  intro c1 c2;subst J;refine bB λK F=>?_
  have j:K (true,())=some 2:=by subst F;rfl
  have V:K (false,())=some 0:=by subst F;rfl
  refine zp rfl ?_;rw[ai (GC _)];by_cases H:0<=i.2.2.1/\i.2.2.1<=2147483647
  .rw[ap H,aB (by decide),ai (GC _)];by_cases G:0<=i.2.2.2.1/\i.2.2.2.1<=2147483647
   .rw[ap G,aB (by decide)];by_cases h5:i.2.2.2.2.1.length<=8
    .rw[cQ (by omega),ai (awT hm)];cases W:i.2.2.2.2.1.any RA with
     |true=>rw[<-y λh=>by rw[h.2.2.2.2.2]at W;cases W];exact j
     |false=>rw[ah ⟨c1,c2,H,G,h5,W⟩];exact V
    .rw[eA (by omega),j,<-y λh=>h5 h.2.2.2.2.1]
   .rw[an G,aQ (by decide),j,<-y λh=>G h.2.2.2.1]
  .rw[an H,aQ (by decide),j,<-y λh=>H h.2.2.1]
 refine dh (λY=>?_) λY=>?_
 .refine dh (λX=>?_) λX=>?_
  .refine dh (λH=>?_) λH=>?_
   .by_cases G:i.2.1<=65536
    .rw[ap G];exact R ⟨Y,X⟩ ⟨H,G⟩
    .rw[an G];exact C λh=>G h.2.1.2
   .exact C λh=>H h.2.1.1
  .exact C λh=>X h.1.2
 .exact C λh=>Y h.1.1
def GD(i:bH)(q p:Int):Prop:=Ql i/\(0<=p/\p<=2147483647)/\q≠0 /\ -1099511627776<=q/\q<=1099511627776
instance (i:bH) (q p:Int):Decidable (GD i q p):=by unfold GD;infer_instance
def gZ(i:bH)(q a b:Int):Int:=(b-a)*i.2.1*q
theorem awU{i}(h:Ql i){q a b:Int}(j:cy q)(C:0<=a/\a<=2147483647)(hb:0<=b/\b<=2147483647) : -1298074214633706907132624082305024<=gZ i q a b/\gZ i q a b<=1298074214633706907132624082305024:=by unfold cy at j;have⟨_,F,_⟩:=h;have y : -140737488355328<=(b-a)*i.2.1/\(b-a)*i.2.1<=140737488355328:=L2 (A:=2147483648) (B:=65536) (by omega) (by omega);exact L2 (A:=140737488355328) (B:=9223372036854775808) y (by omega)
theorem aeV{i}{q a b:Int}(hm:i.2.2.2.2.1.length<=1000000)(h:Ql i)(j:cy q)(y:0<=a/\a<=2147483647)(hb:0<=b/\b<=2147483647):ai1 i q a b=some (cP (gZ i q a b)):=by
 have e:=QP hm;have H:=awU h j y hb;have J:=h.2.1;have K : -140737488355328<=(b-a)*i.2.1/\(b-a)*i.2.1<=140737488355328:=L2 (A:=2147483648) (B:=65536) (by omega) (by omega);refine bB λF G=>?_
 have C:F (false,())=some (cP (gZ i q a b)):=by subst G;refine zp rfl ?_;rw[bF _ (by omega),ai (Ee (by unfold cy;omega) (by unfold cy;omega)),ai (aaH (by unfold cy;omega) j)];show aj.af ((0:Int) != 0) _ (aj.ae (L3 (wide (gZ i q a b))) _)=_;rw[aB (by decide),ai (I9 (by unfold eB;omega))]
 rw[ai e,ah h,aB (by decide),ai (GC _),ap y,aB (by decide),ai (GC _),ap hb];exact C
structure ayw(l l':List bC)(u:ar)(awV:List nU):Prop where
 inv:C5 l
 atB:C5 l'
 other:∀x,x≠u->kc l' x=kc l x
 own:∀j,fM (kc l' u) j=fM (kc l u) j+fM awV j
 opn:∀j,kS l' j=kS l j+fM awV j
 len:l'.length<=l.length+1
 ok:okB l->l.length<=99->okB l'
theorem ako(a b)(k):xL [a,b] k=fM a k+fM b k:=by show fM a k+(fM b k+0)=_;omega
theorem l6{l}{u}{y}(h:(fm l u y).2.1=0):ayw l (fm l u y).1 u y:=by
 unfold fm at h ⊢;by_cases G:r' l=true
 .have C:=bD G;rw[ah G]at h ⊢;by_cases H:(vD [kc l u,y]).2.1=0
  .rw[ah H]at h ⊢;have⟨X,J,W,K⟩:=Qz H;have R:yo (vD [kc l u,y]).1:=by rw[J];exact Xv _
   refine⟨C,akn C u R,λx F=>by rw[agy C.2,ag F],λj=>by rw[agy C.2,ah rfl,K,ako],λj=>by rw[aqv C.2,K,ako];omega,aaE C.2 u _,λhb hl=>⟨λp G=>?_,by dsimp only;have:=aaE C.2 u (vD [kc l u,y]).1;omega⟩⟩;rcases uq.1 G with⟨V,_⟩|⟨_,rfl⟩
   .exact hb.1 p V
   .refine⟨λx F=>?_,?_⟩
    .have F:=F;rw[J]at F;obtain⟨v,hv,rfl⟩:=aN.1 F;exact W v (aM.1 hv).1
    .dsimp only;rw[J];exact bU (Ta _) (by decide)
  .rw[ag H]at h;exact absurd h H
 .rw[ag G]at h;simp at h
def yH(l:List bC)(f t:ar)(k q:Int):List bC×Int×Unit:=if r' l=true then(if(fm l f [(k,-q,())]).2.1=0 then fm (fm l f [(k,-q,())]).1 t [(k,q,())]else([],(fm l f [(k,-q,())]).2))else([],3,())
theorem aoC{k q}(h:cy q):Rw [((k,q,()):nU)]:=λx j=>by simp only[ax]at j;subst j;exact h
theorem aqw{l}{f t}{k q:Int}(hb:okB l)(hl:l.length<=80)(J:1<=k/\k<=8)(H:q≠0)(G:cy q)(y:cy (-q)):HX l f t [(k,q,())]=some (yH l f t k q):=by
 show qO aj l f t [(k,q,())]=_;unfold qO yH;rw[ai (FW hb)];by_cases C:r' l=true
 .rw[C,aB (by decide),ah rfl,ai (aj1 J H G y)];show aj.af ((0:Int) != 0) _ (aj.ae (wc l f [(k,-q,())]) _)=_;rw[aB (by decide),ai (Ec hb (by omega) (aoC y) (by simp))];by_cases j:(fm l f [(k,-q,())]).2.1=0
  .have S:=l6 j;have F:=S.len;rw[aB (by simp[j]),ah j,ai (Ec (S.ok hb (by omega)) (by omega) (aoC G) (by simp))]
  .rw[aQ (by simp[j]),ag j]
 .have C:r' l=false:=by simpa using C
  rw[C,aQ (by decide),ag (by simp)]
structure awW(l l':List bC)(f t:ar)(k q:Int):Prop where
 inv:C5 l
 atB:C5 l'
 of:∀x j,fM (kc l' x) j=fM (kc l x) j+(if x=f then fM [((k,-q,()):nU)] j else 0)+(if x=t then fM [((k,q,()):nU)] j else 0)
 other:∀x,x≠f->x≠t->kc l' x=kc l x
 opn:∀j,kS l' j=kS l j
 len:l'.length<=l.length+2
 ok:okB l->l.length<=90->okB l'
theorem aft{l}{f t}{k q}(h:(yH l f t k q).2.1=0):awW l (yH l f t k q).1 f t k q:=by
 unfold yH at h ⊢;by_cases G:r' l=true
 .rw[ah G]at h ⊢;by_cases C:(fm l f [(k,-q,())]).2.1=0
  .rw[ah C]at h ⊢;have S:=l6 C;have T:=l6 h;refine⟨S.inv,T.atB,λx j=>?_,λx J H=>by rw[T.other x H,S.other x J],λj=>?_,by have:=S.len;have:=T.len;omega,λhb hl=>T.ok (S.ok hb (by omega)) (by have:=S.len;omega)⟩
   .by_cases F:x=t
    .subst F;rw[T.own,ah rfl];by_cases y:x=f
     .subst y;rw[S.own,ah rfl]
     .rw[S.other x y,ag y];omega
    .rw[T.other x F,ag F];by_cases y:x=f
     .subst y;rw[S.own,ah rfl];omega
     .rw[S.other x y,ag y];omega
   .rw[T.opn,S.opn];have:fM [((k,-q,()):nU)] j+fM [((k,q,()):nU)] j=0:=by simp only[fM];split<;>omega
    omega
  .rw[ag C]at h;exact absurd h C
 .rw[ag G]at h;simp at h
theorem amM{i}{q p}(hm:i.2.2.2.2.1.length<=1000000):Te i q p=some (decide (GD i q p)):=by
 show xM aj i q p=_;unfold xM;have e:=QP hm;rw[ai e];by_cases C:Ql i
 .rw[ah C,aQ (by decide)];refine dh (λG=>?_) λG=>?_
  .refine dh (λF=>?_) λF=>?_
   .by_cases y:q=0
    .rw[aB (by simp[y]),an λh=>h.2.2.1 y]
    .rw[aQ (by simp[y])];by_cases j : -1099511627776<=q
     .rw[eA j];congr 1;exact dM.2 ⟨λh=>⟨C,⟨G,F⟩,y,j,h⟩,λh=>h.2.2.2.2⟩
     .rw[cQ j,an λh=>j h.2.2.2.1]
   .rw[an λh=>F h.2.1.2]
  .rw[an λh=>G h.2.1.1]
 .rw[ag C,aB (by decide),an λh=>C h.1]
def noD:tm:=([],[],())
def atP(d:tm)(i:bH)(f t:ar)(q p:Int):tm×Int×Unit:=if r' d.1=true/\xb d.2.1=true then(if GD i q p then(if f=t then(noD,24,())else(if cy (gZ i q p i.2.2.1)then(if(yH d.1 f t i.1 q).2.1=0 then(if(ja d.2.1 f t (gZ i q p i.2.2.1)).2.1=0 then(((yH d.1 f t i.1 q).1,(ja d.2.1 f t (gZ i q p i.2.2.1)).1,()),0,())else(noD,(ja d.2.1 f t (gZ i q p i.2.2.1)).2))else(noD,(yH d.1 f t i.1 q).2))else(noD,7,())))else(noD,2,()))else(noD,3,())
def ayx(d:tm)(n:Nat):Prop:=(okB d.1/\d.1.length<=n)/\(tT d.2.1/\d.2.1.length<=n)
theorem amN{d}(j:ayx d 100):aqx d=some (r' d.1&&xb d.2.1):=by
 show GF aj d=_;unfold GF;rw[ai (FW j.1.1)];cases r' d.1 with
 |true=>rw[aQ rfl,ai (ZL (by have:=j.2.2;omega))];rfl
 |false=>rw[aB rfl];rfl
theorem ayy{d}{i}{f t:ar}{q p:Int}(X:(okB d.1/\d.1.length<=64)/\(tT d.2.1/\d.2.1.length<=94))(hm:i.2.2.2.2.1.length<=1000000)(K:cy q):agz d i f t q p=some (atP d i f t q p):=by
 show GG aj d i f t q p=_;unfold GG atP;have⟨⟨hb,Y⟩,R,W⟩:=X;have e1:=amN (d:=d) ⟨⟨hb,by omega⟩,R,by omega⟩;have e2:Te i q p=some (decide (GD i q p)):=amM hm;rw[ai e1];by_cases H:r' d.1=true/\xb d.2.1=true
 .rw[ah H,H.1,H.2,aB (by decide),ai e2];by_cases j:GD i q p
  .rw[ah j,ap j,aB (by decide),Td,eqA];by_cases G:f=t
   .rw[ah G,eA G];rfl
   .have e3:=aeV hm j.1 K j.2.1 j.1.2.2.1;rw[ag G,cQ G,ai e3];unfold cP;by_cases y:cy (gZ i q p i.2.2.1)
    .rw[ah y,ah y];show aj.af ((0:Int) != 0) _ (aj.ae (HX d.1 f t [(i.1,q,())]) λv4=>aj.af (v4.2.1 != 0) (some (noD,v4.2)) (aj.ae (qE d.2.1 f t (gZ i q p i.2.2.1)) λJ=>aj.af (J.2.1 != 0) (some (noD,J.2)) (some ((v4.1,J.1,()),0,()))))=_;rw[aB (by decide),ai (aqw hb (by omega) j.1.1 j.2.2.1 K (by have:=j.2.2.2;unfold cy;omega))];by_cases F:(yH d.1 f t i.1 q).2.1=0
     .rw[ah F,aB (by simp[F]),ai (M6 R y (by omega))];by_cases C:(ja d.2.1 f t (gZ i q p i.2.2.1)).2.1=0
      .rw[ah C,aB (by simp[C])]
      .rw[ag C,aQ (by simp[C])]
     .rw[ag F,aQ (by simp[F])]
    .rw[ag y,ag y];exact Um (by decide) rfl
  .rw[ag j,an j,aQ (by decide)];rfl
 .have e:(r' d.1&&xb d.2.1)=false:=by cases hb':r' d.1<;>cases V:xb d.2.1<;>simp_all
  rw[ag H,e,aQ (by decide)];rfl
structure ayz(d d':tm)(i:bH)(f t:ar)(q p:Int):Prop where
 right:GD i q p
 ne:f≠t
 fit:cy (gZ i q p i.2.2.1)
 bk:awW d.1 d'.1 f t i.1 q
 ip:xb d.2.1=true
 ip':xb d'.2.1=true
 get:∀x,hJ d'.2.1 x=hJ d.2.1 x+(if x=f then -(gZ i q p i.2.2.1)else 0)+(if x=t then gZ i q p i.2.2.1 else 0)
 tot:eQ Ul d'.2.1=eQ Ul d.2.1
 SO:tT d'.2.1
 len:d'.2.1.length<=d.2.1.length+2
theorem ak3{d}{i}{f t}{q p}(h:(atP d i f t q p).2.1=0):ayz d (atP d i f t q p).1 i f t q p:=by
 unfold atP at h ⊢;by_cases V:r' d.1=true/\xb d.2.1=true
 .rw[ah V]at h ⊢;by_cases R:GD i q p
  .rw[ah R]at h ⊢;by_cases K:f=t
   .rw[ah K]at h;simp at h
   .rw[ag K]at h ⊢;by_cases H:cy (gZ i q p i.2.2.1)
    .rw[ah H]at h ⊢;by_cases G:(yH d.1 f t i.1 q).2.1=0
     .rw[ah G]at h ⊢;by_cases j:(ja d.2.1 f t (gZ i q p i.2.2.1)).2.1=0
      .rw[ah j]at h ⊢;have y:∃g,g=gZ i q p i.2.2.1:=⟨_,rfl⟩;have⟨g,y⟩:=y;rw[<-y]at H j ⊢
       have J:ja d.2.1 f t g=qJ d.2.1 [(f,-g,()),(t,g,())]:=by
        unfold ja at j ⊢;by_cases W:cy (-g)
        .rw[ah W]
        .rw[ag W]at j;split at j<;>simp at j
       rw[J]at j ⊢;have⟨Y,F,X⟩:=Qs j;have C:(qJ d.2.1 [(f,-g,()),(t,g,())]).1.length<=d.2.1.length+2:=Rv _ _;refine⟨R,K,y▸H,aft G,V.2,?_,λx=>?_,?_,?_,C⟩
       .dsimp only;rw[F];exact Qy (wo _)
       .dsimp only;rw[F,aaI,aaJ,tn,tn,L4 (Xu Y),<-y];show _+((if f=x then -g else 0)+((if t=x then g else 0)+0))=_
        have e1:(if f=x then -g else 0)=if x=f then -g else 0:=by
         by_cases e:f=x
         .rw[ah e,ah e.symm]
         .rw[ag e,ag (ga e)]
        have e2:(if t=x then g else 0)=if x=t then g else 0:=by
         by_cases e:t=x
         .rw[ah e,ah e.symm]
         .rw[ag e,ag (ga e)]
        rw[e1,e2];omega
       .dsimp only;rw[F,aaK,qa,dW,dW,zx];show eQ Ul d.2.1+(-g+(g+0))=eQ Ul d.2.1;omega
       .dsimp only;rw[F];exact Xt X
      .rw[ag j]at h;exact absurd h j
     .rw[ag G]at h;exact absurd h G
    .rw[ag H]at h;simp at h
  .rw[ag R]at h;simp at h
 .rw[ag V]at h;simp at h
theorem OV{l}(h:C5 l)(u:ar):yo (kc l u):=by
 rcases N4 h.2 u with⟨_,_,j⟩|⟨_,j⟩
 .rw[j];exact⟨λx y=>(by cases y),by simp⟩
 .exact(h.1 _ j).2
theorem HY{p}(h:tT p)(u):cy (hJ p u):=by
 induction p with
 |nil=>show cy 0;unfold cy;omega
 |cons x p j=>
  rw[hJ];split
  .exact h x (by simp)
  .exact j λy C=>h y (by simp[C])
def goV(f:Int->Int):List Int->List nU->List nU×Int×Unit
 |[],acc=>(acc,0,())
 |k::us,acc=>if cy (f k)then(if f k=0 then goV f us acc else goV f us (acc++[(k,f k,())]))else([],7,())
theorem Yv(l):∀(us:List Int) (acc:List nU),goV (xL l) us acc=Dt l us acc
 |[],_=>rfl
 |k::us,acc=>by rw[goV,Dt,Yv l us,Yv l us]
def bk(s:aV):List bC:=s.2.2.2.2.2.2.2.2.1
def sa(s:aV):List bC:=s.2.2.2.2.2.2.2.2.2.1
def IX:aV:=(0,[],[],[],[],[],[],[],[],[],[],[],())
def ajr(s:aV)(b a:List bC)(p:List aU):aV:=(s.1,s.2.1,s.2.2.1,s.2.2.2.1,s.2.2.2.2.1,s.2.2.2.2.2.1,s.2.2.2.2.2.2.1,s.2.2.2.2.2.2.2.1,b,a,p,s.2.2.2.2.2.2.2.2.2.2.2.1,())
def zE(a:az)(u:ar):Bool:=decide (u∈cd a)
def wa(t:List az)(id:Int)(u:ar):Bool:=t.any λa=>p9 id a&&zE a u
def fk(own:ar->Bool):List bC->List bC->List bC->List bC×List bC×Int
 |[],j,stays=>(j,stays,0)
 |p::l,j,stays=>if own p.1=true then(if(fm j p.1 p.2.1).2.1=0 then fk own l (fm j p.1 p.2.1).1 stays else([],[],(fm j p.1 p.2.1).2.1))else fk own l j (stays++[p])
def FV(s:aV)(id:Int):aV×Int×Unit:=if r' (bk s)=true/\r' (sa s)=true then(if(fk (wa s.2.2.2.2.1 id) (bk s) (sa s) []).2.2=0 then(ajr s (fk (wa s.2.2.2.2.1 id) (bk s) (sa s) []).2.1 (fk (wa s.2.2.2.2.1 id) (bk s) (sa s) []).1 (pu s),0,())else(IX,(fk (wa s.2.2.2.2.1 id) (bk s) (sa s) []).2.2,()))else(IX,3,())
def ZI(s:aV)(id:Int):List bC:=(sa s).filter λp=>wa s.2.2.2.2.1 id p.1
theorem ajs(a b)(k):kS (a++b) k=kS a k+kS b k:=by unfold kS;rw[qa]
theorem M1(p)(b)(k):kS (p::b) k=fM p.2.1 k+kS b k:=by unfold kS;rw[dW]
theorem ar8{s}{u}(hl:s.length<=1000000):xr s u=some (yU (λx=>decide (u=x)) s):=by
 refine mz (l:=s) (s0:=()) (by omega) (λi (_:Unit)=>((i:Int),())) (λi _=>∀j,∀h:j<s.length,j<i->decide (u=s[j])=false) (λ_ _=>some (yU (λx=>decide (u=x)) s)) rfl (λj _ h=>by omega) ?_ ?_
 .intro _ y C;refine FQ ?_;have:s.findIdx? (λx=>decide (u=x))=none:=by rw[gg];intro x J;obtain⟨j,F,rfl⟩:=dr.1 J;exact y j F F
  unfold yU;rw[this]
 .intro i hi _ y C R;refine Ii hi ?_;rw[bN hi,tW];refine dh (λH=>?_) λH=>?_
  .have:s.findIdx? (λx=>decide (u=x))=some i:=by rw[ez];exact⟨hi,ap H,λj F=>by rw[y j (by omega) F];simp⟩
   unfold yU;rw[this]
  .dsimp only;rw[cJ i]
   exact R () λj F K=>by
    by_cases G:j=i
    .subst G;exact an H
    .exact y j F (by omega)
theorem ao7(u)(s:List ar):s.any (λx=>decide (u=x))=decide (u∈s):=by
 by_cases h:u∈s
 .rw[ap h];exact j9.2 ⟨u,h,by simp⟩
 .rw[an h,kH];intro x j;simp;rintro rfl;exact h j
theorem Q'{a}{u:ar}(h:a.2.2.2.1.length<=1000):ajt a u=some (zE a u):=by
 show q7 aj a u=_;unfold q7;have hl:=Eb h;have e:mW (cd a) u=some (zE a u):=by show cN aj (cd a) u=_;unfold cN;rw[ai (ar8 (by omega)),aeS,ao7];rfl
 rw[ai (xt h),ai e]
theorem Ra{α}(p q):∀l:List α,(l.filter p).any q=l.any λx=>p x&&q x
 |[]=>rfl
 |x::l=>by
  rw[bw,List.any_cons,<-Ra p q l];cases h:p x
  .simp
  .simp
theorem aju{s}{id}{u}(h:qC s.2.2.2.2.1):Vp s id u=some (wa s.2.2.2.2.1 id u):=by
 show wb aj s id u=_;unfold wb;have hl:=h.2;have hm:∀a∈s.2.2.2.2.1.filter (p9 id),a.2.2.2.1.length<=1000:=λa C=>h.1 a (aM.1 C).1
 have y:(s.2.2.2.2.1.filter (p9 id)).length<=1000:=bU (cR _ _) hl;rw[ai (ZH h)]
 have e:kK u.1 u.2.1 (s.2.2.2.2.1.filter (p9 id))=some (wa s.2.2.2.2.1 id u,u):=by
  show cK aj _ _ _=_;unfold cK
  have F:lP u.1 u.2.1 (s.2.2.2.2.1.filter (p9 id))=some (yU (λa=>zE a u) (s.2.2.2.2.1.filter (p9 id)),u):=by
   show dx aj _ _ _=_;refine tX (by omega) (λa=>zE a u) (λa (c:ar)=>ZJ c.1 c.2.1 a) u λx j=>?_
   show tY aj u.1 u.2.1 x=_;unfold tY;rw[ai (Q' (hm x j))]
  rw[ai F,aeS,Ra];rfl
 rw[ai e]
theorem aeT{s}(hb:okB (bk s))(hs:okB (sa s)):ac1 s=some (r' (bk s)&&r' (sa s)):=by
 show s9 aj s=_;unfold s9;have y:W7 s.2.2.2.2.2.2.2.2.1=some (r' (bk s)):=FW hb;have j:W7 s.2.2.2.2.2.2.2.2.2.1=some (r' (sa s)):=FW hs;rw[ai y];cases r' (bk s)
 .rfl
 .rw[aQ rfl,ai j];rfl
abbrev StZ:=Int×Int×List aW×List bH×List gK×List az×List bA×List bR×List cj×List bC×List bC×List aU×List bj×List bC×Unit
def stZ(s:aV)(i:Int)(z:List bC×List bC):StZ:=(i,s.1,s.2.1,s.2.2.1,s.2.2.2.1,s.2.2.2.2.1,s.2.2.2.2.2.1,s.2.2.2.2.2.2.1,s.2.2.2.2.2.2.2.1,s.2.2.2.2.2.2.2.2.1,z.1,s.2.2.2.2.2.2.2.2.2.2.1,s.2.2.2.2.2.2.2.2.2.2.2.1,z.2,())
def ar9(s:aV)(a:List bC):aV:=(s.1,s.2.1,s.2.2.1,s.2.2.2.1,s.2.2.2.2.1,s.2.2.2.2.2.1,s.2.2.2.2.2.2.1,s.2.2.2.2.2.2.2.1,s.2.2.2.2.2.2.2.2.1,a,s.2.2.2.2.2.2.2.2.2.2.1,s.2.2.2.2.2.2.2.2.2.2.2.1,())
def ac2(s:aV)(r:List bC×List bC×Int):aV×Int×Unit:=if r.2.2=0 then(ajr s r.2.1 r.1 (pu s),0,())else(IX,r.2.2,())
theorem W8{own}{p}{l j stays}(ho:own p.1=true)(hs:(fm j p.1 p.2.1).2.1≠0):fk own (p::l) j stays=([],[],(fm j p.1 p.2.1).2.1):=by unfold fk;rw[ah ho,ag hs]
theorem W9{own}{p}{l j stays}(ho:own p.1=true)(hs:(fm j p.1 p.2.1).2.1=0):fk own (p::l) j stays=fk own l (fm j p.1 p.2.1).1 stays:=by
 conv=>lhs;unfold fk
 rw[ah ho,ah hs]
theorem Xa{own}{p}{l j stays}(ho:own p.1=false):fk own (p::l) j stays=fk own l j (stays++[p]):=by
 conv=>lhs;unfold fk
 rw[ag (by rw[ho];decide)]
theorem ao8{s}{id}(Y:qC s.2.2.2.2.1)(hb:okB (bk s))(hs:okB (sa s))(X:(bk s).length+(sa s).length<=90):IY s id=some (FV s id):=by
 show xu aj s id=_;unfold xu FV;rw[ai (aeT hb hs)];by_cases F:r' (bk s)=true/\r' (sa s)=true
 .rw[ah F,F.1,F.2,aB (by decide)];refine mz (l:=bk s) (s0:=(sa s,[])) (by omega) (λi z=>stZ s (i:Int) z) (λi z=>okB z.1/\z.1.length<=(sa s).length+i/\z.2.length<=i) (λl z=>some (ac2 s (fk (wa s.2.2.2.2.1 id) l z.1 z.2))) rfl ⟨hs,by dsimp only;omega,au _⟩ ?_ ?_
  .intro z _ j;refine FQ ?_;rfl
  .intro i hi z ⟨G,z2,z3⟩ j W;refine Ii hi ?_;refine bB λk V=>?_
   have J:∀y:List bC×List bC,(okB y.1/\y.1.length<=(sa s).length+(i+1)/\y.2.length<=i+1)->k (stZ s 0 y).2=some (ac2 s (fk (wa s.2.2.2.2.1 id) ((bk s).drop (i+1)) y.1 y.2)):=by intro y H;rw[<-W y H];subst V;show j (IntKind.i64.wrap ((i:Int)+1),(stZ s 0 y).2)=_;rw[cJ i];rfl
   clear V W;show aj.aI (bk s) (i:Int) _=_;have eo:Vp (ar9 s z.1) id (bk s)[i].1=some (wa s.2.2.2.2.1 id (bk s)[i].1):=aju (s:=ar9 s z.1) Y;rw[bN hi];refine vC eo ?_;have K:=hb.1 _ (aF hi);cases ho:wa s.2.2.2.2.1 id (bk s)[i].1 with
   |false=>rw[Xa ho,aQ (by rfl)];show aj.bg (z.2.length+1) 40 (k (stZ s 0 (z.1,z.2++[(bk s)[i]])).2)=_;rw[c9];exact J (z.1,z.2++[(bk s)[i]]) ⟨G,by dsimp only;omega,by rw[aq];simp;omega⟩
   |true=>
    rw[aB (by rfl)];show aj.ae (wc z.1 (bk s)[i].1 (bk s)[i].2.1) _=_;rw[ai (Ec G (by omega) K.1 K.2)];by_cases C:(fm z.1 (bk s)[i].1 (bk s)[i].2.1).2.1=0
    .rw[W9 ho C,aB (by simp[C])];have S:=l6 C;have R:=S.len;exact J ((fm z.1 (bk s)[i].1 (bk s)[i].2.1).1,z.2) ⟨S.ok G (by omega),by dsimp only;omega,by dsimp only;omega⟩
    .rw[W8 ho C,aQ (by simp[C])];unfold ac2;rw[ag C];rfl
 .rw[ag F];have:(r' (bk s)&&r' (sa s))=false:=by cases h1:r' (bk s)<;>cases h2:r' (sa s)<;>simp_all
  rw[this,aQ (by decide)];rfl
theorem asQ{s}{id}(K:qC s.2.2.2.2.1)(G:(sa s).length<=100):M2 s id=some (ZI s id):=by
 show zF aj s id=_;unfold zF ZI;refine(mz (l:=sa s) (s0:=[]) (by omega) (λi (z:List bC)=>((i:Int),z,())) (λi z=>z.length<=i) (λl z=>some (z++l.filter λp=>wa s.2.2.2.2.1 id p.1)) rfl (au _) ?_ ?_).trans (by rw[da])
 .intro z _ j;refine FQ ?_;rw[p8,cz]
 .intro i hi z R j J;refine Ii hi ?_;refine bB λk H=>?_
  have F:∀y:List bC,y.length<=i+1->k (y,())=some (y++((sa s).drop (i+1)).filter λp=>wa s.2.2.2.2.1 id p.1):=by intro y C;rw[<-J y C];subst H;dsimp only;rw[cJ i]
  show aj.aI (sa s) (i:Int) _=_;rw[bN hi,ai (aju K),bw];by_cases ho:wa s.2.2.2.2.1 id (sa s)[i].1=true
  .rw[ho,aQ rfl,ah rfl];show aj.bg (z.length+1) 40 (k (z++[(sa s)[i]],()))=_;rw[c9,F _ (by rw[aq];simp;omega),bn];rfl
  .have ho:wa s.2.2.2.2.1 id (sa s)[i].1=false:=by simpa using ho
   rw[ho,aB rfl,ag (by decide)];exact F z (by omega)
def ao9(t:List bH):Prop:=(∀i∈t,Ql i)/\t.length<=10
theorem Vq{α}(f:α->Int)(x:α)(t:List α)(id:Int):(x::t).find? (λa=>f a==id)=if f x=id then some x else t.find? (λa=>f a==id):=by
 rw[kP];by_cases h:f x=id
 .simp[h]
 .rw[ag h,show(f x==id)=false by simpa using h]
def gX(t:List aW)(id:Int):Option aW:=t.find? λa=>a.1==id
def Br:aW:=(0,0,0,0,())
theorem we(x:aW)(t:List aW)(id:Int):gX (x::t) id=if x.1=id then some x else gX t id:=Vq (λa:aW=>a.1) x t id
theorem ta{t}{id}(hl:t.length<=1000000):Bs t id=some (match gX t id with|some i=>(i,true,())|none=>(Br,false,())):=by
 show im aj t id=_;unfold im;have y:ik id t=some (yU (λm=>m.1==id) t,id,()):=by show cW aj id t=_;exact tX hl (λm=>m.1==id) (λm (c:Int×Unit)=>OG c.1 m) (id,()) λx _=>rfl
 have C:Vr t id=some (yU (λm=>m.1==id) t):=by show pk aj t id=_;unfold pk;rw[ai y]
 rw[ai C];unfold gX;rcases kT (λm:aW=>m.1==id) t with⟨h1,j⟩|⟨k,hk,h1,j,_⟩
 .rw[h1,j,aQ (by decide)];rfl
 .rw[h1,j,cQ (by omega),bN hk]
def Xb(l:List az):Prop:=(l.map (·.1)).Pairwise (· < ·)
def fj(t:List az)(id:Int):Option az:=t.find? λa=>a.1==id
def vN:az:=(0,0,0,[],())
theorem IZ(x:az)(t:List az)(id:Int):fj (x::t) id=if x.1=id then some x else fj t id:=Vq (λa:az=>a.1) x t id
theorem Rb{id}:∀{t:List az},(∀a∈t,id<a.1)->fj t id=none
 |[],_=>rfl
 |x::t,h=>by have:=h x (by simp);rw[IZ,ag (by omega),Rb λa j=>h a (by simp[j])]
theorem ajv{t}{id:Int}(hl:t.length<=1000000)(hs:Xb t):
 (∃k:Nat,∃h:k<t.length,I0 t id=some ((k:Int),true,())/\fj t id=some t[k])\/(∃z,I0 t id=some (z,false,())/\fj t id=none):=by
 refine nW (λo=>(∃k:Nat,∃h:k<t.length,o=some ((k:Int),true,())/\fj t id=some t[k])\/(∃z,o=some (z,false,())/\fj t id=none)) (λz=>t.length+1-z.1.toNat) (λz=>∃j:Nat,j<=t.length/\z=((j:Int),())/\fj t id=fj (t.drop j) id) ⟨0,bE _,rfl,rfl⟩ (by dsimp only;omega) ?_;rintro _ ⟨j,V,rfl,y⟩ H R;by_cases h:j<t.length
 .have J:=cn h;rw[J,IZ]at y;rw[dk h];show(∃k:Nat,∃h:k<t.length,aj.aI t (j:Int) _=_/\_)\/(∃z,aj.aI t (j:Int) _=_/\_);rw[bN h];by_cases K:id<=t[j].1
  .rw[aQ (ap K)];by_cases F:t[j].1=id
   .rw[ah F]at y;refine .inl ⟨j,h,?_,y⟩;rw[show(t[j].1==id)=true by simpa using F]
   .rw[ag F]at y;refine .inr ⟨(j:Int),?_,y.trans (Rb λa G=>?_)⟩
    .rw[show(t[j].1==id)=false by simpa using F]
    .have C:((t.drop j).map (·.1)).Pairwise (· < ·):=by rw[List.map_drop];exact de (B8 _ _) hs
     rw[J,bK]at C;have:=(bz.1 C).1 a.1 (db G);omega
  .rw[aB (an K)];rw[ag (by omega)]at y;dsimp only;rw[cJ j];exact R _ ⟨j+1,by omega,rfl,y⟩ (by dsimp only;omega)
 .have:j=t.length:=by omega
  subst this;rw[fu]at y;rw[dT];exact .inr ⟨_,rfl,y⟩
theorem Hn{t}{id:Int}(y:qC t)(hs:Xb t):M3 t id=some (match fj t id with|some i=>(i,true,())|none=>(vN,false,())):=by
 show l7 aj t id=_;unfold l7;have hl:=y.2;rcases ajv (id:=id) (by omega) hs with⟨k,hk,h1,j⟩|⟨z,h1,j⟩
 .rw[ai h1,j,aB (by rfl)];show aj.aI t (k:Int) _=_;have C:KL t[k]=some t[k]:=by show mS aj t[k]=_;unfold mS;rw[ai (KM (by have:=y.1 _ (aF hk);omega))]
  rw[bN hk,ai C]
 .rw[ai h1,j,aQ (by rfl)];rfl
open Go.Lib
theorem aqy(z)(h : -9223372036854775808<=z/\z<9223372036854775808):i64.wrap z=z:=bF z (by omega)
def Ed(u:Nat):List Int:=if h:u<128 then[(u:Int)]else((u % 128+128:Nat):Int)::Ed (u / 128)
termination_by u
decreasing_by omega
theorem Qo{u:Nat}(h:u<128):Ed u=[(u:Int)]:=by rw[Ed,zo h]
theorem Qp{u:Nat}(h:128<=u):Ed u=((u % 128+128:Nat):Int)::Ed (u / 128):=by rw[Ed,dif_neg (by omega)]
theorem aaL:∀(k u:Nat),u<128 ^ (k+1)->(Ed u).length<=k+1
 |k,u,h=>by
  rcases dI u 128 with hu|hu
  .rw[Qo hu];simp
  .rw[Qp hu];cases k with
   |zero=>simp at h;omega
   |succ k=>have:=aaL k (u / 128) (by rw[pF]at h;omega);simp;omega
theorem Tf{u}(h:u<18446744073709551616):(Ed u).length<=10:=aaL 9 u (by omega)
theorem ay0(z)(h:0<=z/\z<18446744073709551616):u64.wrap z=z:=IntWalk.u64_in z (by omega)
theorem u8c(z)(h:0<=z/\z<256):IntKind.u8.wrap z=z:=IntWalk.u8_in z (by omega)
def fold(n:Int):Nat:=if 0<=n then 2*n.toNat else 2*(-(n+1)).toNat+1
theorem ag0(n)(j : -9223372036854775808<=n/\n<=9223372036854775807):fold n<18446744073709551616:=by unfold fold;split<;>omega
def oj(l:List Int):List Int:=l.flatMap λn=>Ed (fold n)
def tK(n:Int):Prop := -9223372036854775808<=n/\n<=9223372036854775807
def L5(sh u:Nat)(b:Int):Nat:=u ||| (b.toNat % 128*2 ^ sh % 18446744073709551616)
theorem Tg{sh u}{b}(y:u<18446744073709551616):L5 sh u b<18446744073709551616:=by
 have j:b.toNat % 128*2 ^ sh % 18446744073709551616<2 ^ 64:=by omega
 have:=Nat.or_lt_two_pow (show u<2 ^ 64 by omega) j;unfold L5;omega
theorem adH{sh u:Nat}{b:Int}(C:u<18446744073709551616)(hs:sh<=63)(hb:0<=b/\b<256):
 bits BinOp.or u64 (u:Int) (u64.wrap (u64.wrap (bits BinOp.and IntKind.u8 b 127)*2 ^ min (Int.toNat (sh:Int)) u64.bits))=(L5 sh u b:Int):=by
 have h:∀n:Fin 256,bits BinOp.and IntKind.u8 ((n.val:Nat):Int) 127=((n.val % 128:Nat):Int):=by decide +kernel
 have y:=h ⟨b.toNat,by omega⟩;have j:((b.toNat:Nat):Int)=b:=by omega
 dsimp only at y;rw[j]at y
 have hm:min (Int.toNat (sh:Int)) u64.bits=sh:=by
  have:u64.bits=64:=by decide +kernel
  rw[this,aP];exact gz (by omega)
 rw[y,hm,ay0 ((b.toNat % 128:Nat):Int) (by omega),bY]
 have e:(((b.toNat % 128:Nat):Int)*2 ^ sh % 18446744073709551616)=((b.toNat % 128*2 ^ sh % 18446744073709551616:Nat):Int):=by
  have F:((2 ^ sh:Nat):Int)=(2:Int) ^ sh:=by rw[Int.natCast_pow];rfl
  rw[<-F,<-mU];omega
 rw[e,bits_or_u64_nat _ _ C (by omega)];rfl
def tZ:Nat->Nat->List Int->Option Nat×List Int×Int
 |_,_,[]=>(none,[],4)
 |sh,u,b::r=>if 63<sh\/(sh=63/\1<b)\/(b=0/\0<sh)then(none,[],3)else if b<128 then(some (L5 sh u b),r,0)else tZ (sh+7) (L5 sh u b) r
def unf(u:Nat):Int:=if u % 2=0 then((u / 2:Nat):Int)else -((u / 2:Nat):Int)-1
theorem ai2(a:Nat)(h:a<9223372036854775808):bits .xor .i64 (a:Int) 0=(a:Int):=by
 have y:(BitVec.ofInt 64 (a:Int)).toNat=a:=by rw[BitVec.ofInt_natCast,s8];exact ka (by omega)
 show i64.wrap ((BitVec.ofInt 64 (a:Int) ^^^ BitVec.ofInt 64 0).toNat:Int)=_;have j:BitVec.ofInt 64 0=0#64:=by decide
 rw[j,BitVec.xor_zero,y,aqy _ (by omega)]
theorem ai3(a:Nat)(h:a<9223372036854775808):bits .xor .i64 (a:Int) (-1) = -(a:Int)-1:=by
 have y:(BitVec.ofInt 64 (a:Int)).toNat=a:=by rw[BitVec.ofInt_natCast,s8];exact ka (by omega)
 show i64.wrap ((BitVec.ofInt 64 (a:Int) ^^^ BitVec.ofInt 64 (-1)).toNat:Int)=_;have j:BitVec.ofInt 64 (-1)=BitVec.allOnes 64:=by decide
 rw[j,BitVec.xor_allOnes,xa,y,dO];omega
theorem amO(u:Nat)(j:u<18446744073709551616):bits BinOp.xor i64 (i64.wrap ((u:Int).fdiv (2 ^ min (Int.toNat 1) u64.bits))) (i64.wrap (0-i64.wrap (bits BinOp.and u64 (u:Int) 1)))=unf u:=by
 have e:(2:Int) ^ min (Int.toNat 1) u64.bits=2:=by decide +kernel
 have C:bits BinOp.and u64 (u:Int) 1=((u % 2:Nat):Int):=by have:=bits_and_u64_nat u 1 j (by decide);rw[Nat.and_one_is_mod]at this;exact this
 rw[e,C,eE _ (by omega),show(u:Int) / 2=((u / 2:Nat):Int)by omega,aqy ((u / 2:Nat):Int) (by omega),aqy ((u % 2:Nat):Int) (by omega),aqy _ (by omega)];unfold unf;by_cases h:u % 2=0
 .rw[ah h,h];exact ai2 _ (by omega)
 .have y:u % 2=1:=by omega
  rw[ag h,y];exact ai3 _ (by omega)
def vP(y:List Int)(e lo hi:Int):Int×List Int×Int:=
 if e≠0 then(0,y,e)else
 match tZ 0 0 y with
 |(none,r,j)=>(0,r,j)
 |(some u,r,j)=>if unf u<lo\/hi<unf u then(0,[],7)else(unf u,r,j)
theorem Xh:∀(j:List Int) (sh u:Nat),u<18446744073709551616->∀x,(tZ sh u j).1=some x->x<18446744073709551616
 |[],sh,u,hu,x,h=>by simp[tZ]at h
 |b::r,sh,u,hu,x,h=>by
  unfold tZ at h;split at h
  .simp at h
  .split at h
   .simp at h;rw[<-h];exact Tg hu
   .exact Xh r _ _ (Tg hu) x h
theorem auK(acc x k)(h:acc<2 ^ k):acc ||| (x*2 ^ k)=acc+x*2 ^ k:=by rw[jz,Nat.or_comm,<-Nat.two_pow_add_eq_or_of_lt h,Nat.add_comm]
theorem ai4{sh acc b:Nat}(y:acc<2 ^ sh)(j:b % 128*2 ^ sh<18446744073709551616):L5 sh acc (b:Int)=acc+b % 128*2 ^ sh:=by unfold L5;rw[aP,ka j,auK _ _ _ y]
theorem ai5(sh:Nat)(h:sh<=64):2 ^ (64-sh)*2 ^ sh=18446744073709551616:=by rw[<-tG,Nat.sub_add_cancel h]
theorem auL(v P acc:Nat):acc+v % 128*P+v / 128*(128*P)=acc+v*P:=by
 have h:v*P=(128*(v / 128)+v % 128)*P:=by congr 1;omega
 have j:v / 128*(128*P)=128*(v / 128)*P:=by rw[<-xq,jz (v / 128) 128]
 rw[h,j,iN];omega
theorem Th:∀(G:List Int) (k acc u:Nat) (r:List Int) (e:Int),(∀b∈G,0<=b/\b<256)->k<=10->acc<2 ^ (7*k)->tZ (7*k) acc G=(some u,r,e)->
 ∃v,G=Ed v++r/\u=acc+v*2 ^ (7*k)/\(0<k->0<v)/\k<=9/\v<2 ^ (64-7*k)/\e=0
 |[],_,_,_,_,_,_,_,_,h=>by simp[tZ]at h
 |b::G,k,acc,u,r,e,hb,hk,ha,h=>by
  have K:=hb b (by simp);obtain⟨n,rfl⟩:=cm K.1;unfold tZ at h;split at h
  .simp at h
  .rename_i hc;have C:k<=9:=by omega
   have j:n % 128*2 ^ (7*k)<18446744073709551616:=by
    rcases dI k 9 with h9|h9
    .have Y:n % 128*2 ^ (7*k)<=127*2 ^ (7*k):=du _ (by omega);have X:2 ^ (7*k)<=2 ^ 56:=nL (by decide) (by omega);have J:(2:Nat) ^ 56=72057594037927936:=by decide
     omega
    .have:k=9:=by omega
     subst this;have hn1:n<=1:=by omega
     have J:(2:Nat) ^ (7*9)=9223372036854775808:=by decide
     rw[J];omega
   rw[ai4 ha j]at h;split at h
   .rename_i hlt;simp only[bX,ak]at h;obtain⟨rfl,rfl,rfl⟩:=h;have H:n<128:=by omega
    refine⟨n,by rw[Qo H];rfl,by rw[ka H],by omega,C,?_,rfl⟩;rw[ka H,<-ai5 (7*k) (by omega)]at j;exact Nat.lt_of_mul_lt_mul_right j
   .rename_i hge;have H:128<=n/\n<256:=by omega
    have y:2 ^ (7*(k+1))=128*2 ^ (7*k):=by rw[show 7*(k+1)=7+7*k by omega,tG]
    have F:acc+n % 128*2 ^ (7*k)<2 ^ (7*(k+1)):=by rw[y];have:n % 128*2 ^ (7*k)<=127*2 ^ (7*k):=du _ (by omega);omega
    rw[show 7*k+7=7*(k+1)by omega]at h;have⟨v,Y,X,J,h4,h5,h6⟩:=Th G (k+1) _ u r e (λb R=>hb b (by simp[R])) (by omega) F h;have hv0:=J (by omega);refine⟨128*v+(n-128),?_,?_,λ_=>by omega,C,?_,h6⟩
    .rw[Qp (by omega),Y];have W:(128*v+(n-128)) % 128+128=n:=by omega
     have V:(128*v+(n-128)) / 128=v:=by omega
     rw[W,V];rfl
    .rw[X,y];have W:n % 128=(128*v+(n-128)) % 128:=by omega
     have V:v=(128*v+(n-128)) / 128:=by omega
     have:=auL (128*v+(n-128)) (2 ^ (7*k)) acc;rw[<-W,<-V]at this;exact this
    .have h7:2 ^ (64-7*k)=128*2 ^ (64-7*(k+1)):=by rw[show 64-7*k=7+(64-7*(k+1))by omega,tG]
     rw[h7];omega
theorem amP(u):fold (unf u)=u:=by unfold unf fold;split<;>split<;>omega
theorem aj3(u)(h:u<18446744073709551616):tK (unf u):=by unfold unf tK;split<;>omega
theorem M7:∀(j:List Int) (sh u:Nat) (r:List Int),tZ sh u j=(none,r,0)->False
 |[],sh,u,r,h=>by simp[tZ]at h
 |b::j,sh,u,r,h=>by
  unfold tZ at h;split at h
  .simp at h
  .split at h
   .simp at h
   .exact M7 j _ _ r h
theorem aaM(j)(hb:∀b∈j,0<=b/\b<256)(n)(r)(lo hi)(h:vP j 0 lo hi=(n,r,0)):j=Ed (fold n)++r/\tK n:=by
 unfold vP at h;rw[ag (by simp)]at h;cases y:tZ 0 0 j with
 |mk o p=>
  have⟨F,J⟩:=p;rw[y]at h;cases o with
  |none=>simp only[bX]at h;obtain⟨_,rfl,rfl⟩:=h;exfalso;exact M7 j 0 0 _ y
  |some u=>
   simp only at h;split at h
   .simp at h
   .simp only[bX]at h;obtain⟨rfl,rfl,rfl⟩:=h;have⟨v,H,C,_,_,G,_⟩:=Th j 0 0 u F 0 hb (by omega) (by decide) y;simp only[Nat.mul_zero,Nat.pow_zero,Hm,cg]at C;subst C;exact⟨by rw[amP];exact H,aj3 _ (by simpa using G)⟩
theorem Xg(j)(e lo hi)(hb:∀b∈j,0<=b/\b<256)(y:e=0)(h:(vP j e lo hi).2.2=0):j=Ed (fold (vP j e lo hi).1)++(vP j e lo hi).2.1/\tK (vP j e lo hi).1:=by subst y;refine aaM j hb _ _ lo hi ?_;exact iZ rfl (iZ rfl h)
theorem aaN:∀(j:List Int) (sh u:Nat),∀z∈(tZ sh u j).2.1,z∈j
 |[],sh,u,z,h=>by simp[tZ]at h
 |b::j,sh,u,z,h=>by
  unfold tZ at h;split at h
  .simp at h
  .split at h
   .exact aG.2 (.inr h)
   .exact aG.2 (.inr (aaN j _ _ z h))
theorem ZM(y)(e lo hi)(hb:∀z∈y,0<=z/\z<256):∀z∈(vP y e lo hi).2.1,0<=z/\z<256:=by
 intro z j;refine hb z ?_;have hs:=aaN y 0 0 z;unfold vP at j;split at j
 .exact j
 .cases C:tZ 0 0 y with
  |mk o p=>
   rw[C]at j hs;cases o with
   |none=>exact hs j
   |some u=>
    simp only at j;split at j
    .simp at j
    .exact hs j
theorem ahi(j)(e lo hi)(h:(vP j e lo hi).2.2=0):e=0:=by
 unfold vP at h;split at h
 .exact h
 .omega
theorem amQ(x)(h:x<18446744073709551616):x ^^^ 18446744073709551615=18446744073709551615-x:=by
 have y:(BitVec.ofNat 64 x ^^^ BitVec.allOnes 64).toNat=x ^^^ 18446744073709551615:=by rw[BitVec.toNat_xor,s8,BitVec.toNat_allOnes,ka (by simpa using h)]
 have j:BitVec.ofNat 64 x ^^^ BitVec.allOnes 64 = ~~~ BitVec.ofNat 64 x:=by rw[BitVec.xor_allOnes]
 rw[<-y,j,xa,s8,ka (by simpa using h)]
theorem ai6(n)(y:tK n):bits BinOp.xor u64 (u64.wrap (i64.wrap (n*2 ^ min (Int.toNat 1) i64.bits))) (u64.wrap (n.fdiv (2 ^ min (Int.toNat 63) i64.bits)))=(fold n:Int):=by
 have F:(2:Int) ^ min (Int.toNat 1) i64.bits=2:=by decide +kernel
 have C:(2:Int) ^ min (Int.toNat 63) i64.bits=9223372036854775808:=by decide +kernel
 unfold tK at y;rw[F,C,dO,bY,bY,eE _ (by omega)];unfold fold;by_cases h:0<=n
 .rw[ah h];have j:n / 9223372036854775808 % 18446744073709551616=((0:Nat):Int):=by omega
  rw[j,show((n*2+9223372036854775808) % 18446744073709551616-9223372036854775808) % 18446744073709551616=((2*n.toNat:Nat):Int)by omega,bits_xor_u64_nat _ _ (by omega) (by omega),Nat.xor_zero]
 .rw[ag h];have j:n / 9223372036854775808 % 18446744073709551616=((18446744073709551615:Nat):Int):=by omega
  rw[j,show((n*2+9223372036854775808) % 18446744073709551616-9223372036854775808) % 18446744073709551616=(((n*2+18446744073709551616).toNat:Nat):Int)by omega,bits_xor_u64_nat _ _ (by omega) (by omega),amQ _ (by omega)];omega
theorem awX(u:Nat):bits BinOp.or IntKind.u8 (IntKind.u8.wrap (u:Int)) 128=((u % 128+128:Nat):Int):=by
 have h:∀n:Fin 256,bits BinOp.or IntKind.u8 ((n.val:Nat):Int) 128=((n.val % 128+128:Nat):Int):=by decide +kernel
 have j:=h ⟨u % 256,by omega⟩;rw[IntKind.wrap_u8,show(u:Int) % 256=((u % 256:Nat):Int)by omega,j];dsimp only;omega
theorem ag1{β}{k}{f}(b)(h:∀K:Bool×Unit->Option β,f K=K (b,())):aj.aH k f=k (b,()):=h k
theorem awY{α β}{x}{l:List α}(K:α->Option β):aj.aI (x::l) 0 K=K x:=by dsimp only;unfold XV;simp
def Bt(l:List Int):Prop:=∀b∈l,0<=b/\b<256
theorem Ti(u:Nat)(j:u<18446744073709551616):UC (u:Int)=some (unf u):=by show qP aj u=_;unfold qP;rw[ud,amO u j]
theorem amR{n}(j:tK n):aaO n=some (fold n:Int):=by show uK aj n=_;unfold uK;rw[ud,ud,ai6 n j]
def amS(x:Option Nat×List Int×Int):Option ((Int×Bool×Unit)×(Bool×(List Int)×Int×Unit)):=some ((((x.1.getD 0:Nat):Int),x.1.isSome,()),true,x.2.1,x.2.2,())
theorem amT{G}(hb:Bt G)(hl:G.length<9223372036854775807):As true G 0=amS (tZ 0 0 G):=by
 show oz aj true G 0=_;refine(fR (λz=>z.2.2.2.1.length) (λz=>∃(u sh:Nat) (l:List Int),z=((u:Int),(sh:Int),true,l,0,())/\u<18446744073709551616/\sh<=70/\Bt l/\l.length<9223372036854775807) (λz=>amS (tZ z.2.1.toNat z.1.toNat z.2.2.2.1)) ⟨0,0,G,rfl,by omega,by omega,hb,hl⟩ (by dsimp only;omega) ?_);rintro _ ⟨u,sh,l,rfl,V,hsh,J,H⟩ C ha;cases l with
 |nil=>rw[aQ (by rfl),dQ (show Dv true [] 0 4=some ((),true,[],4,())from rfl)];dsimp only;rfl
 |cons b r=>
  have h0:=J b (by simp);have hr:Bt r:=λx hx=>J x (by simp[hx])
  show aj.af (((b::r).length:Int)==0) _ _=amS (tZ sh u (b::r));rw[aB (by simp;omega)];show aj.aI (b::r) 0 _=_;rw[awY,Fb (by omega) (by simp;omega)];refine(ag1 (decide (63<sh\/(sh=63/\1<b)\/(b=0/\0<sh))) λK=>?_).trans ?_
  .show aj.af (decide ((63:Int)<(sh:Int))) _ _=_;by_cases h1:63<sh
   .rw[aQ (by simpa using by omega),ap (.inl h1)]
   .rw[aB (by simpa using by omega)];show aj.af ((sh:Int)==63) _ _=_;by_cases X:sh=63
    .rw[aQ (by simp[X])];refine dh (λW=>?_) λW=>?_
     .rw[ap (.inr (.inl ⟨X,W⟩))]
     .by_cases F:b=0
      .rw[aQ (by simp[F]),ap (show 63<sh\/(sh=63/\1<b)\/(b=0/\0<sh)from .inr (.inr ⟨F,by omega⟩))];show K (decide ((0:Int)<(sh:Int)),())=_;rw[ap (by omega)]
      .rw[aB (by simp[F]),an (by omega)]
    .rw[aB (by simp;omega)];by_cases F:b=0
     .rw[aQ (by simp[F])];show K (decide ((0:Int)<(sh:Int)),())=_;congr 2;apply dM.2;omega
     .rw[aB (by simp[F]),an (by omega)]
  .have Y:(List.take (b::r).length (b::r)).drop (Int.toNat 1)=r:=by simp
   by_cases j:63<sh\/(sh=63/\1<b)\/(b=0/\0<sh)
   .rw[ap j];show aj.af true _ _=_;rw[aQ (by rfl),dQ (show Dv true _ 0 3=some ((),true,[],3,())from rfl)];unfold tZ;rw[ah j];rfl
   .rw[an j];show aj.af false _ _=_;rw[aB (by rfl)];show aj.iV (sh:Int) _=_;rw[ud];unfold tZ;rw[ag j];have R:=adH (sh:=sh) (u:=u) (b:=b) V (by omega) h0;refine dh (λy=>?_) λy=>?_
    .rw[ah y];show some ((Go.bits Go.BinOp.or u64 (u:Int) (u64.wrap ((u64.wrap (Go.bits Go.BinOp.and Go.IntKind.u8 b 127))*(2 ^ (min (Int.toNat (sh:Int)) u64.bits)))),true,()),true,(List.take (b::r).length (b::r)).drop (Int.toNat 1),0,())=_;rw[R,Y];rfl
    .rw[ag y];show C (Go.bits Go.BinOp.or u64 (u:Int) (u64.wrap ((u64.wrap (Go.bits Go.BinOp.and Go.IntKind.u8 b 127))*(2 ^ (min (Int.toNat (sh:Int)) u64.bits)))),i64.wrap ((sh:Int)+7),true,(List.take (b::r).length (b::r)).drop (Int.toNat 1),0,())=_;rw[R,Y];have es:i64.wrap ((sh:Int)+7)=((sh+7:Nat):Int):=by rw[bF _ (by omega)];omega
     rw[es];exact ha _ ⟨L5 sh u b,sh+7,r,rfl,Tg V,by omega,hr,by simp at H;omega⟩ (by show r.length<(b::r).length;simp)
theorem ZN:∀(j:List Int) (sh u:Nat),(tZ sh u j).2.1.length<=j.length
 |[],sh,u=>by simp[tZ]
 |b::r,sh,u=>by
  unfold tZ;split
  .simp
  .split
   .simp
   .have:=ZN r (sh+7) (L5 sh u b);simp;omega
def rd(lo hi:Int)(s:List Int×Int):Int×(List Int×Int):=((vP s.1 s.2 lo hi).1,(vP s.1 s.2 lo hi).2.1,(vP s.1 s.2 lo hi).2.2)
theorem Rm{lo hi}{s:List Int×Int}(hb:Bt s.1)(hl:s.1.length<9223372036854775807):P2 true s.1 s.2 lo hi=some ((rd lo hi s).1,true,(rd lo hi s).2.1,(rd lo hi s).2.2,()):=by
 have⟨y,e⟩:=s;show iq aj true y e lo hi=_;unfold iq rd vP;rw[dQ (show N6 true y e=some (e==0,true,y,e,())from rfl)];by_cases G:e=0
 .subst G;rw[aB (by rfl)];rw[ag (by simp)];show aj.ae (As true y 0) _=_;rw[amT hb hl];have C:=Xh y 0 0 (by decide);rcases H:tZ 0 0 y with⟨_|u,r,F⟩
  .rw[dQ (show amS (none,r,F)=some ((((0:Nat):Int),false,()),true,r,F,())from rfl)];refine(dQ (Ti 0 (by decide)) _).trans ?_;rw[aQ (by rfl)]
  .rw[H]at C;rw[dQ (show amS (some u,r,F)=some (((u:Int),true,()),true,r,F,())from rfl)];refine(dQ (Ti u (C u rfl)) _).trans ?_;rw[aB (by rfl)];refine(ag1 (decide (unf u<lo\/hi<unf u)) λK=>?_).trans ?_
   .refine dh (λj=>?_) λj=>?_
    .rw[ap (.inl j)]
    .congr 2;apply dM.2;simp[j]
   .refine dh (λj=>?_) λj=>?_
    .dsimp only;rw[ah j];rfl
    .dsimp only;rw[ag j]
 .rw[aQ (by simp[G])];rw[ah G]
theorem fd7(u:Nat):(u:Int).fdiv (2 ^ (min (Int.toNat 7) (Go.IntKind.bits Go.IntKind.u64)))=((u / 128:Nat):Int):=by
 have e:(2:Int) ^ (min (Int.toNat 7) (Go.IntKind.bits Go.IntKind.u64))=128:=by decide +kernel
 rw[e,eE _ (by omega)];omega
theorem aqz{u:Nat}{b:List Int}(y:u<18446744073709551616)(hb:b.length<=100000000):P3 true b (u:Int)=some ((),true,b++Ed u,()):=by
 refine(fR (λz=>z.1.toNat) (λz=>∃(v:Nat) (l:List Int),z=((v:Int),true,l,())/\v<18446744073709551616/\l.length+(Ed v).length<=100000020) (λz=>some ((),true,z.2.2.1++Ed z.1.toNat,())) ⟨u,b,rfl,y,by have:=Tf y;omega⟩ (by dsimp only;omega) ?_);rintro _ ⟨v,l,rfl,hv,hl⟩ j C;rw[aP];by_cases h:128<=v
 .rw[eA (by omega)];rw[Qp h]at hl ⊢;simp only[aJ]at hl;rw[c9 (by simp only[aJ,dB];omega) (by simp only[aJ,dB];omega),ud];dsimp only;rw[fd7,awX];refine(C _ ⟨v / 128,_,rfl,by omega,by simp only[aq,aJ,dB];omega⟩ (by dsimp only;omega)).trans ?_;rw[aP,bn];rfl
 .rw[cQ (by omega)];rw[Qo (by omega)]at hl ⊢;rw[c9 (by simp only[aJ,dB]at hl ⊢;omega) (by simp only[aJ,dB]at hl ⊢;omega)];dsimp only;rw[u8c _ (by omega)]
theorem CS(a b:List Int):oj (a++b)=oj a++oj b:=by unfold oj;rw[jF]
theorem xx(n:Int):oj [n]=Ed (fold n):=by unfold oj;simp
theorem F0{l:List Int}(h:∀n∈l,tK n):(oj l).length<=10*l.length:=by
 induction l with
 |nil=>simp[oj]
 |cons x l j=>
  have F:=Tf (ag0 x (h x (by simp)));have C:=j λn y=>h n (by simp[y])
  unfold oj at C ⊢;rw[cp,aq,aJ];omega
theorem Qn{l b:List Int}(hl:∀n∈l,tK n)(F:l.length<=1000000)(hb:b.length<=50000000):yl true b l=some ((),true,b++oj l,()):=by
 show dK aj true b l=_;unfold dK;rw[ub,dQ (show GH true b=some (true,true,b,())from rfl),aQ (by rfl)];refine gB (l:=l) (by omega) (λi s=>s=(true,b++oj (l.take i),())) (λ_ _=>some ((),true,b++oj l,())) (by simp[oj]) ?_ ?_
 .rintro _ j rfl;rw[dT,bq]
 .rintro i hi _ rfl j G;have C:=hl _ (aF hi);have y:(oj (l.take i)).length<=10*(l.take i).length:=F0 λn F=>hl n (dw F)
  rw[aY]at y;rw[dk hi,bN hi,dQ (amR C)];refine(dQ (aqz (ag0 _ C) (by rw[aq];omega)) _).trans ?_;rw[cJ i];refine G _ ?_;rw[show l.take (i+1)=l.take i++[l[i]]by simp,CS,xx,bn]
theorem ag2{l}(hl:l.length<=100000000):FK l=some l:=by
 show ir aj l=_;unfold ir;rw[CA];refine xj ?_ ?_
 .rw[aB (by rfl),c9];rfl
 .intro h;rw[aQ (by rfl),wY.1 h]
theorem atc{l}(hl:l.length<=100000000):ai7 l=some ((),true,l,0,()):=by show Au aj l=_;unfold Au;rw[dQ (ag2 hl)]
theorem ath{l}(hl:l.length<=100000000):N7 true l=some (l,true,l,()):=by show kE aj true l=_;unfold kE;rw[dQ (show GH true l=some (true,true,l,())from rfl),aB (by rfl)];exact(dQ (ag2 hl) _).trans rfl
def Xi(s:List Int×Int):Int:=if s.2≠0 then s.2 else if 0<s.1.length then 5 else 0
theorem atd(s):P4 true s.1 s.2=some (Xi s,true,s.1,s.2,()):=by
 have⟨l,e⟩:=s;show oO aj true l e=_;unfold oO Xi;rw[dQ (show Fe true l e=some (e,true,l,e,())from rfl)];by_cases j:e=0
 .subst j;rw[aB (by rfl)];by_cases h:0<l.length
  .rw[eA (by dsimp only;omega)];simp[h]
  .rw[cQ (by dsimp only;omega)];simp[h]
 .rw[aQ (by simp[j])];simp[j]
set_option synthInstance.maxSize 100000
set_option synthInstance.maxHeartbeats 0
structure OkS(t:aV):Prop where
 a:∀a∈iz t,pn a
 aL:(iz t).length<=8
 c:∀a∈t.2.2.2.2.1,av4 a/\a.2.2.2.1.length<=20
 cL:t.2.2.2.2.1.length<=20
 f:tT (pu t)
 fL:(pu t).length<=94
 h:kL (ho t)
 hL:(ho t).length<=94
set_option maxHeartbeats 1000000
set_option maxRecDepth 1000000
set_option maxHeartbeats 2000000
theorem OkS.st{t}(O:OkS t):StR (pu t) (ho t) [] 0:=⟨O.f,by have:=O.fL;omega,O.h,by have:=O.hL;omega,au _⟩
theorem OkS.as{t}(O:OkS t):qC t.2.2.2.2.1:=⟨λa j=>by have:=(O.c a j).2;omega,by have:=O.cL;omega⟩
theorem OkS.av5{t}(O:OkS t)(id):Qv t (t.2.2.2.2.1.filter (p9 id)):=⟨O.a,by have:=O.aL;omega,λa j=>(O.c a (aM.1 j).1).2,bU (cR _ _) O.cL⟩
def Hw(t:aV)(id:Int):List FD:=Je (iz t) (t.2.2.2.2.1.filter (p9 id)) (ym (t.2.2.2.2.1.filter (p9 id))) (pp (t.2.2.2.2.1.filter (p9 id)))
theorem akl{t}(O:OkS t)(id):La t id=some (rb t (om (Hw t id) (pu t) (ho t) [])):=by
 have:=av6 (s:=t) (p:=pu t) (h:=ho t) (id:=id) O.as (O.av5 id) O.st
 rwa [aki]at this
theorem y5{a}{u}(h:u∈cd a):u.1=a.1:=by
 unfold cd at h;split at h
 .rw[ax.1 h]
 .obtain⟨c,_,rfl⟩:=aN.1 h;rfl
theorem akm{a}(h:av4 a):(cd a).Nodup:=by
 unfold cd;split
 .simp
 .refine List.nodup_iff_pairwise_ne.2 (nO.2 (h.2.imp λj e=>?_));have:=bQ (λu:ar=>u.2.1) e;dsimp only at this;omega
def X0(n:Nat)(q:Nat->Bool):Bool:=(List.range' 0 n).all q
theorem amE{X β}{n}(hn:n<9223372036854775808){F}(st:Nat->X)(q:Nat->Bool){r no:Option β}{z0:X}(hz:z0=st 0)
 (ad7:∀again:X->Option β,F (st n) again=r)
 (S5:∀i,i<n->∀again:X->Option β,F (st i) again=bif q i then again (st (i+1))else no):
 aj.aZ F z0=bif X0 n q then r else no:=by
 subst hz
 have key:∀(m k i:Nat),i+m=n->m<k->xJ k F (st i)=bif (List.range' i m).all q then r else no:=by
  intro m;induction m with
  |zero=>
   intro k i hi hk;cases k with
   |zero=>omega
   |succ k=>
    have:i=n:=by omega
    subst this;exact ad7 _
  |succ m j=>
   intro k i hi hk;cases k with
   |zero=>omega
   |succ k=>show F (st i) (xJ k F)=_;rw[S5 i (by omega),j k (i+1) (by omega) (by omega),wZ,List.all_cons];cases q i<;>rfl
 exact key n FU 0 (by omega) (by rw[O4];omega)
theorem amF{n}{q}:X0 n q=true↔∀i,i<n->q i=true:=by unfold X0;rw[lZ];exact⟨λh i hi=>h i (by rw[List.mem_range'_1];omega),λh i hi=>h i (by rw[List.mem_range'_1]at hi;omega)⟩
def yp(m:aW):Prop:=1<=m.1/\m.1<=8/\0<=m.2.1/\m.2.1<=4611686018427387904/\0<=m.2.2.1/\m.2.2.1<=3/\0<=m.2.2.2.1/\m.2.2.2.1<=2097152
instance (m:aW):Decidable (yp m):=by unfold yp;infer_instance
theorem JA(m):Yt m=some (if yp m then 0 else 2):=by
 refine bB λk j=>?_
 have y:k (true,())=some 2:=by subst j;rfl
 have C:∀c,k (c,())=if c=true then some 2 else some 0:=by intro c;subst j;cases c<;>rfl
 simp only[Bool.cond_decide,y,C,bc];by_cases h:yp m
 .rw[ah h];unfold yp at h;repeat' split
  all_goals first|rfl|(exfalso;omega)
 .rw[ag h];unfold yp at h;repeat' split
  all_goals first|rfl|(exfalso;omega)
theorem ad8(a):OH a=some (if pn a then 0 else 2):=by
 show pv aj a=_;refine bB λk hk=>?_
 have kt:k (true,())=some 2:=by subst hk;rfl
 have kb:∀c,k (c,())=if c=true then some 2 else some 0:=by intro c;subst hk;cases c<;>rfl
 have e:sx aj a.2.1=_:=Ro _;rw[e];show(bif _ then _ else bif _ then _ else bif _ then _ else bif _ then _ else _)=_;simp only[Bool.cond_decide,Bool.cond_not,Bool.cond_eq_ite,kt,kb,bc,jy,aD,Bool.and_eq_false_iff,oY];by_cases h:pn a
 .rw[ah h];unfold pn at h;repeat' split
  all_goals first|rfl|(exfalso;omega)
 .rw[ag h];unfold pn at h;repeat' split
  all_goals first|rfl|(exfalso;omega)
def Cz{α:Type}(l:List α)(p:Nat->α->Bool):Bool:=X0 l.length λi=>if h:i<l.length then p i l[i]else true
theorem aa9{X α β}{l}(hn:l.length<9223372036854775808){F}(st:Nat->X)(p:Nat->α->Bool){r no:Option β}{z0:X}(hz:z0=st 0)
 (ad7:∀again:X->Option β,F (st l.length) again=r)
 (S5:∀i (hi:i<l.length),∀again:X->Option β,F (st i) again=bif p i l[i]then again (st (i+1))else no):
 aj.aZ F z0=bif Cz l p then r else no:=
 amE hn st _ hz ad7 λi hi again=>by rw[zo hi];exact S5 i hi again
theorem Gb{α}{l:List α}{p:Nat->α->Bool}:Cz l p=true↔∀i (h:i<l.length),p i l[i]=true:=by
 unfold Cz;rw[amF];constructor
 .intro h i hi;have:=h i hi;rwa [zo hi]at this
 .intro h i hi;rw[zo hi];exact h i hi
theorem aiy{X α β:Type}{l:List α}(hn:l.length<9223372036854775808){F:X->(X->Option β)->Option β}(st:Nat->X)(p:α->Bool)(e:Nat->Option β){r:Option β}{z0:X}(hz:z0=st 0)
 (ad7:∀again:X->Option β,F (st l.length) again=r)
 (S5:∀i (hi:i<l.length),∀again:X->Option β,F (st i) again=bif p l[i]then e i else again (st (i+1))):
 (l.any p=true/\∃i,i<l.length/\aj.aZ F z0=e i)\/(l.any p=false/\aj.aZ F z0=r):=by
 subst hz
 have key:∀(m k i:Nat),i+m=l.length->m<k->((l.drop i).any p=true/\∃j,j<l.length/\xJ k F (st i)=e j)\/((l.drop i).any p=false/\xJ k F (st i)=r):=by
  intro m;induction m with
  |zero=>
   intro k i hi hk;cases k with
   |zero=>omega
   |succ k=>
    have:i=l.length:=by omega
    subst this;exact .inr ⟨by rw[fu];rfl,ad7 _⟩
  |succ m C=>
   intro k i hi hk;cases k with
   |zero=>omega
   |succ k=>
    have y:i<l.length:=by omega
    have G:xJ (k+1) F (st i)=bif p l[i]then e i else xJ k F (st (i+1)):=S5 i y _;rw[G,cn y,List.any_cons];cases hp:p l[i]with
    |true=>exact .inl ⟨rfl,i,y,rfl⟩
    |false=>rw[Bool.false_or];exact C k (i+1) (by omega) (by omega)
 have:=key l.length FU 0 (by omega) (by rw[O4];omega)
 rwa [ic]at this
def prv(l:List Int)(i:Nat):Int:=if i=0 then 0 else l.getD (i-1) 0
theorem s_{l}{i}(hi:i<l.length):prv l (i+1)=l[i]:=by unfold prv;rw[ag (by omega),show i+1-1=i by omega,eF,ay hi];rfl
def No(l:List Int)(i:Nat)(c:Int):Bool:=decide (1<=c/\c<=16/\(0<i->prv l i<c))
def aqr(l:List Int)(i:Nat)(c:Int):Bool:=decide (prv l i<c/\c<=16)
theorem auF(l):Cz l (aqr l)=Cz l (No l):=by
 apply sO.2;rw[Gb,Gb];unfold aqr No;simp only[bc];constructor
 .intro h
  have pos:∀i (hi:i<l.length),1<=l[i]:=by
   intro i;induction i with
   |zero=>intro hi;have:=(h 0 hi).1;unfold prv at this;rw[ah rfl]at this;omega
   |succ i j=>intro hi;have:=(h (i+1) hi).1;rw[s_ (by omega)]at this;have:=j (by omega);omega
  exact λi hi=>⟨pos i hi,(h i hi).2,λ_=>(h i hi).1⟩
 .intro h i hi;refine⟨?_,(h i hi).2.1⟩;by_cases y:i=0
  .subst y;have:=(h 0 hi).1;unfold prv;rw[ah rfl];omega
  .exact(h i hi).2.2 (by omega)
theorem aqs{l}(h:Cz l (No l)=true):l.length<=16:=by
 rw[Gb]at h;unfold No at h;simp only[bc]at h
 have up:∀i (hi:i<l.length),(i:Int)+1<=l[i]:=by
  intro i;induction i with
  |zero=>intro hi;have:=(h 0 hi).1;omega
  |succ i j=>intro hi;have:=(h (i+1) hi).2.2 (by omega);rw[s_ (by omega)]at this;have:=j (by omega);omega
 by_cases y:l.length=0
 .omega
 .have:=up (l.length-1) (by omega);have:=(h (l.length-1) (by omega)).2.1;omega
def akt(a:az):Prop:=(1<=a.1/\a.1<=16)/\(1<=a.2.1/\a.2.1<=8)/\(1<=a.2.2.1/\a.2.2.1<=4)/\(a.2.2.1=1->a.2.2.2.1.length=0)/\(a.2.2.1=4->a.2.2.2.1.length<=1)
instance (a:az):Decidable (akt a):=by unfold akt;infer_instance
def r_(a:az):Bool:=decide (akt a)&&Cz a.2.2.2.1 (No a.2.2.2.1)
theorem ags(k):Wl k=some (if k=1 then 0 else if k=4 then 1 else 16):=by
 show sY aj k=_;unfold sY;by_cases y:k=1
 .rw[aQ (by simp[y]),ah y]
 .rw[aB (by simp[y]),ag y];by_cases j:k=4
  .rw[aQ (by simp[j]),ah j]
  .rw[aB (by simp[j]),ag j]
theorem N3{a}(hl:a.2.2.2.1.length<=1000000):ad9 a=some (if r_ a=true then 0 else 2):=by
 show qN aj a=_;unfold qN;have e1:sY aj a.2.2.1=_:=ags _;rw[e1];refine bB λR y=>?_
 have X:R (false,())=some 2:=by subst y;rfl
 have kt:R (true,())=if(1<=a.2.2.1/\a.2.2.1<=4)/\((a.2.2.2.1.length:Int)<=if a.2.2.1=1 then 0 else if a.2.2.1=4 then 1 else 16)/\Cz a.2.2.2.1 (No a.2.2.2.1)=true then some 0 else some 2:=by
  subst y;show aj.aH _ _=_;refine bB λk8 V=>?_
  have J:k8 (true,())=some 2:=by subst V;exact aQ rfl _ _
  have Y:k8 (false,())=if Cz a.2.2.2.1 (No a.2.2.2.1)=true then some 0 else some 2:=by
   subst V;refine(aB (c:=false) rfl _ _).trans ?_;refine(aa9 (l:=a.2.2.2.1) (by omega) (λi=>(prv a.2.2.2.1 i,(i:Int),())) (aqr a.2.2.2.1) (r:=some 0) (no:=some 2) rfl (λF=>dT _ _) λi hi F=>?_).trans ?_
   .refine Ii hi ?_;rw[bN hi];refine bB λk K=>?_
    have k1:k (true,())=some 2:=by subst K;rfl
    have k2:k (false,())=F (prv a.2.2.2.1 (i+1),((i+1:Nat):Int),()):=by rw[<-cJ i,s_ hi];subst K;rfl
    dsimp only;unfold aqr;refine dh (λG=>?_) λG=>?_
    .rw[k1,an (by omega)];rfl
    .by_cases C:16<a.2.2.2.1[i]
     .rw[ap C,k1,an (by omega)];rfl
     .rw[an C,k2,ap (by omega)];rfl
   .rw[auF];cases Cz a.2.2.2.1 (No a.2.2.2.1)<;>rfl
  refine(aB (c:=!true) rfl _ _).trans ?_;by_cases G:a.2.2.1<1
  .rw[eA G,J,ag (by omega)]
  rw[cQ G];by_cases C:4<a.2.2.1
  .rw[eA C,J,ag (by omega)]
  rw[cQ C,ai rfl];generalize (if a.2.2.1=1 then(0:Int)else if a.2.2.1=4 then 1 else 16)=mo;by_cases H:mo<(a.2.2.2.1.length:Int)
  .rw[ap H,J,ag (by omega)]
  .rw[an H,Y];by_cases j:Cz a.2.2.2.1 (No a.2.2.2.1)=true
   .rw[ah j,ah ⟨by omega,by omega,j⟩]
   .rw[ag j,ag λh=>j h.2.2]
 clear y
 have e:(if r_ a=true then(0:Int)else 2)=if((1<=a.1/\a.1<=16)/\(1<=a.2.1/\a.2.1<=8))/\(1<=a.2.2.1/\a.2.2.1<=4)/\((a.2.2.2.1.length:Int)<=if a.2.2.1=1 then 0 else if a.2.2.1=4 then 1 else 16)/\Cz a.2.2.2.1 (No a.2.2.2.1)=true then 0 else 2:=by
  by_cases h:r_ a=true
  .rw[ah h];have W:=h;unfold r_ at W;rw[aD,bc]at W;have hc:=aqs W.2;have hh:=W.1;unfold akt at hh;rw[ah ⟨⟨hh.1,hh.2.1⟩,hh.2.2.1,by split<;>(try split)<;>omega,W.2⟩]
  .rw[ag h,ag];rintro⟨⟨G,C⟩,H,j,h5⟩;refine h ?_;unfold r_;rw[aD,bc];refine⟨?_,h5⟩;refine⟨G,C,H,λK=>?_,λK=>?_⟩
   .rw[ah K]at j;omega
   .rw[ag (by omega),ah K]at j;omega
 rw[e];refine dh (λG=>?_) λG=>?_
 .refine dh (λC=>?_) λC=>?_
  .refine dh (λH=>?_) λH=>?_
   .by_cases j:a.2.1<=8
    .rw[ap j,kt];by_cases h:(1<=a.2.2.1/\a.2.2.1<=4)/\((a.2.2.2.1.length:Int)<=if a.2.2.1=1 then 0 else if a.2.2.1=4 then 1 else 16)/\Cz a.2.2.2.1 (No a.2.2.2.1)=true
     .rw[ah h,ah ⟨⟨⟨G,C⟩,H,j⟩,h⟩]
     .rw[ag h,ag λg=>h g.2]
    .rw[an j,X,ag λg=>j g.1.2.2]
   .rw[X,ag λg=>H g.1.2.1]
  .rw[X,ag λg=>C g.1.1.2]
 .rw[X,ag λg=>G g.1.1.1]
theorem auG{X α γ:Type}{l:List α}(hn:l.length<9223372036854775808){F:X->(X->Option (γ×Bool×Unit))->Option (γ×Bool×Unit)}(st:Nat->X)(p:α->Bool)(e:Nat->γ){d:γ}{z0:X}(hz:z0=st 0)
 (ad7:∀again:X->Option (γ×Bool×Unit),F (st l.length) again=some (d,false,()))
 (S5:∀i (hi:i<l.length),∀again:X->Option (γ×Bool×Unit),F (st i) again=bif p l[i]then some (e i,true,())else again (st (i+1))):
 ∃x,aj.aZ F z0=some (x,l.any p,()):=by
 rcases aiy hn st p (λi=>some (e i,true,())) hz ad7 S5 with⟨h1,i,y,j⟩|⟨h1,j⟩
 .exact⟨_,by rw[h1];exact j⟩
 .exact⟨_,by rw[h1];exact j⟩
theorem Wm{l:List bh}{id:Int}(hl:l.length<=1000000):∃x,I8 l id=some (x,l.any λy=>y.1==id,()):=by
 refine auG (l:=l) (by omega) (λi=>((i:Int),())) (λy=>y.1==id) (λi=>l.getD i default) (z0:=(0,())) rfl (λagain=>dT _ _) (λi hi again=>?_);have e:l.getD i default=l[i]:=by rw[eF,ay hi];rfl
 rw[dk hi,bN hi,cJ i,e]
theorem aaA{a}(h:a.2.2.2.1.length<=1000):(cd a).length<=1000:=by
 unfold cd;split
 .simp
 .rw[bp];exact h
theorem aiz{l:List az}(j:∀a∈l,a.2.2.2.1.length<=1000):(l.flatMap cd).length<=1000*l.length:=by
 induction l with
 |nil=>simp
 |cons a l y=>
  rw[cp,aq,aJ];have F:=aaA (j a ec);have C:=y λb hb=>j b (cH _ hb)
  omega
def chP(l:List bA)(i:Nat)(x:bA):Bool:=decide (x.1≠x.2.1/\(∀(j:0<i) (hi:i-1<l.length),nV l[i-1].1 x.1))
theorem awP(a b:ar):(cY false ((a.1==b.1)&&(a.2.1==b.2.1)))=decide (a=b):=by have⟨y,a2,_⟩:=a;have⟨b1,j,_⟩:=b;apply sO.2;rw[bc];show((y==b1)&&(a2==j))=true↔_;simp
theorem agt{l:List bA}(hl:l.length<=1000000):amG l=some (Cz l (chP l)):=by
 refine(aa9 (l:=l) (by omega) (λi=>((i:Int),())) (chP l) (r:=some true) (no:=some false) rfl (λj=>dT _ _) λi hi j=>?_).trans (by cases Cz l (chP l)<;>rfl);refine Ii hi ?_;rw[bN hi];refine bB λk J=>?_
 have H:k (true,())=some false:=by subst J;rfl
 have G:k (false,())=j (((i+1:Nat):Int),()):=by rw[<-cJ i];subst J;rfl
 rw[awP];unfold chP;refine dh (λC=>?_) λC=>?_
 .rw[H,an (λh=>h.1 C)];rfl
 .by_cases F:0<i
  .rw[eA (by omega)];rw[Aq i F (by rw[gC];omega),bN,ai (BJ _ _)];by_cases y:nV l[i-1].1 l[i].1
   .rw[ap y];refine G.trans ?_;rw[ap ⟨C,λ_ _=>y⟩];rfl
   .rw[an y];refine H.trans ?_;rw[an λh=>y (h.2 F (by omega))];rfl
  .rw[cQ (by omega),G,ap ⟨C,λh=>absurd h F⟩];rfl
theorem apr(z):(false,(BE z).2)=BE (jb z):=by
 unfold BE jb;have y:¬(if z<0 then -z else z)<0:=by split<;>omega
 have j:(if z<0 then -z else z).natAbs=z.natAbs:=by split<;>omega
 rw[j,an y]
theorem QC(z):0<=jb z:=by unfold jb;split<;>omega
theorem HZ{z}(h:¬cy z):cP z=(0,7,()):=by unfold cP;rw[ag h]
theorem H2{z}(h:cy z):cP z=(z,0,()):=by unfold cP;rw[ah h]
theorem axa{a}(h:cy a):K2 a=some (cP (jb a)):=by
 show ui aj a=_;unfold ui jb;by_cases j:a<0
 .have e:=I1 (a:=0) (b:=a) (by unfold cy;omega) h;rw[zk]at e;rw[eA j,ah j,ai e]
 .rw[cQ j,ag j,H2 h]
def fO(l:List nU):Int:=eQ (λx=>jb x.2.1) l
theorem Lm{α}{f}:∀{l:List α},(∀x∈l,0<=f x)->0<=eQ f l
 |[],_=>by rw[zx];omega
 |x::l,h=>by
  have:=h x (by simp);have:=Lm (l:=l) λy j=>h y (by simp[j])
  rw[dW];omega
theorem De(l):0<=fO l:=Lm λx _=>QC _
def adL(l:List nU):Int×Int×Unit:=if D9 l=true then cP (fO l)else(0,3,())
theorem ag4{z}(h:9223372036854775807<z):¬cy z:=by unfold cy;omega
theorem aqA{l}(ho:Rw l)(hl:l.length<=1000):aiB l=some (adL l):=by
 show Aw aj l=_;unfold Aw adL;rw[ai (Rg (l:=l) (by omega))];cases hv:D9 l with
 |false=>rw[aQ (by rfl)];rfl
 |true=>
  rw[aB (by rfl),ah rfl];refine(mz (l:=l) (s0:=[]) (by omega) (λi (z:List Int)=>((i:Int),z,())) (λi z=>z.length<=i/\(∀x∈z,cy x)/\0<=z.sum) (λl' z=>some (cP (z.sum+fO l'))) rfl ⟨au _,by simp,by simp⟩ ?_ ?_).trans ?_
  .rintro z ⟨J,F,H⟩ j;refine FQ ?_;rw[ai (sR F (by omega))];show some (cP z.sum)=some (cP (z.sum+0));rw[vp]
  .rintro i hi z ⟨J,F,H⟩ j G;show aj.af (decide ((i:Int)<(l.length:Int))) (aj.aI l (i:Int) _) _=_;have y:=ho _ (aF hi);have K:=QC l[i].2.1;have R:=De (l.drop (i+1));rw[dk hi,bN hi];show aj.ae (K2 l[i].2.1) _=some (cP (z.sum+(jb l[i].2.1+fO (l.drop (i+1)))));rw[ai (axa y)];by_cases C:cy (jb l[i].2.1)
   .rw[H2 C,aB (by rfl)];show aj.bg (z.length+1) 8 (j (i64.wrap ((i:Int)+1),z++[jb l[i].2.1],()))=_;rw[c9,cJ i];refine(G (z++[jb l[i].2.1]) ⟨by simp;omega,λx y=>?_,by simp;omega⟩).trans ?_
    .rcases aX.1 y with y|y
     .exact F x y
     .simp only[ax]at y;subst y;exact C
    .rw[mV,gG,Fa];congr 2;omega
   .rw[HZ C,aQ (by rfl),HZ (ag4 (by unfold cy at C;omega))]
  .rw[Fa,rF]
theorem af3{z}(h:cy z):jb z<=9223372036854775808:=(Tj h).2
def pU(l:List bC)(us:List ar):Int:=eQ (λu=>fO (kc l u)) us
def tb(l:List bC)(us:List ar):Int×Int×Unit:=if r' l=true then cP (pU l us)else(0,3,())
theorem ag5{l}(h:r' l=true)(u):D9 (kc l u)=true:=ap (OV (bD h) u)
theorem aqB(l)(us):0<=pU l us:=Lm λu _=>De _
theorem amZ{l}{us}(hb:okB l)(hl:us.length<=100000):N' l us=some (tb l us):=by
 show wH aj l us=_;unfold wH tb;rw[ai (FW hb)];cases hv:r' l with
 |false=>rw[aQ (by rfl)];rfl
 |true=>
  rw[aB (by rfl),ah rfl];refine(mz (l:=us) (s0:=[]) (by omega) (λi (z:List Int)=>((i:Int),z,())) (λi z=>z.length<=i/\(∀x∈z,cy x)/\0<=z.sum) (λl' z=>some (cP (z.sum+pU l l'))) rfl ⟨au _,by simp,by simp⟩ ?_ ?_).trans ?_
  .rintro z ⟨J,F,H⟩ j;refine FQ ?_;rw[ai (sR F (by omega))];show some (cP z.sum)=some (cP (z.sum+0));rw[vp]
  .rintro i hi z ⟨J,F,H⟩ j G;show aj.af (decide ((i:Int)<(us.length:Int))) (aj.aI us (i:Int) _) _=_;obtain⟨o1,K⟩:=M5 hb us[i];have R:=De (kc l us[i]);have V:=aqB l (us.drop (i+1));rw[dk hi,bN hi,ai (Rf hb),ai (aqA o1 (by omega))];show _=some (cP (z.sum+(fO (kc l us[i])+pU l (us.drop (i+1)))));unfold adL;rw[ah (ag5 hv _)];by_cases C:cy (fO (kc l us[i]))
   .rw[H2 C,aB (by rfl)];show aj.bg (z.length+1) 8 (j (i64.wrap ((i:Int)+1),z++[fO (kc l us[i])],()))=_;rw[c9,cJ i];refine(G (z++[fO (kc l us[i])]) ⟨by simp;omega,λx y=>?_,by simp;omega⟩).trans ?_
    .rcases aX.1 y with y|y
     .exact F x y
     .simp only[ax]at y;subst y;exact C
    .rw[mV,gG,Fa];congr 2;omega
   .rw[HZ C,aQ (by rfl),HZ (ag4 (by unfold cy at C;omega))]
  .rw[Fa,rF]
def gj(id:Int)(l:List az):List ar:=(l.filter (p9 id)).flatMap cd
theorem adM{id}{l}(h:∀a∈l,a.2.2.2.1.length<=1000)(hl:l.length<=20):(gj id l).length<=20000:=by
 have C:=aiz (l:=l.filter (p9 id)) λa j=>h a (aM.1 j).1
 have y:=cR (p9 id) l;unfold gj;omega
theorem ana{s}{id}(F:qC s.2.2.2.2.1)(hl:s.2.2.2.2.1.length<=20):adN s id=some (gj id s.2.2.2.2.1):=by
 show xO aj s id=_;unfold xO;have hm:∀a∈s.2.2.2.2.1.filter (p9 id),a.2.2.2.1.length<=1000:=λa y=>F.1 a (aM.1 y).1
 have H:(s.2.2.2.2.1.filter (p9 id)).length<=20:=bU (cR _ _) hl;rw[ai (ZH F)];unfold gj;generalize s.2.2.2.2.1.filter (p9 id)=l at *;refine(mz (l:=l) (s0:=[]) (by omega) (λi (z:List ar)=>((i:Int),l,z,())) (λi z=>z.length<=1000*i) (λl' z=>some (z++l'.flatMap cd)) rfl (au _) ?_ ?_).trans (by rw[da])
 .intro z _ j;refine FQ ?_;rw[List.flatMap_nil,cz]
 .intro i hi z J j y;show aj.af (decide ((i:Int)<(l.length:Int))) (aj.aI l (i:Int) λ_=>aj.ct l (Int.toNat (i:Int)) _) _=_;have C:=hm _ (aF hi);have G:=Eb C;rw[dk hi,bN hi,iI hi,ai (xt C)];show aj.bg (z.length+(cd l[i]).length) 16 (j (i64.wrap ((i:Int)+1),l,z++cd l[i],()))=_;rw[c9,cJ i,y _ (by rw[aq];omega),cp,bn]
def pa(s:aV)(id:Int):Int×Int×Unit:=tb (bk s) (gj id s.2.2.2.2.1)
theorem adO{s}{id}(j:qC s.2.2.2.2.1)(hl:s.2.2.2.2.1.length<=20)(hb:okB (bk s)):Ws s id=some (pa s id):=by show sZ aj s id=_;unfold sZ;have:=adM (id:=id) j.1 hl;have e:N' s.2.2.2.2.2.2.2.2.1 (gj id s.2.2.2.2.1)=some (pa s id):=amZ hb (by omega);rw[ai (ana j hl),ai e]
def ch(s:aV):List bA:=s.2.2.2.2.2.1
def ag6(l:List bA)(u:ar):Option bA:=l.find? λc=>decide (c.1=u)
def H_:bA:=((0,0,()),(0,0,()),false,())
theorem aqC{l}{u}(hl:l.length<=1000000):adP l u=some (match ag6 l u with|some i=>(i,true,())|none=>(H_,false,())):=by
 show xP aj l u=_;unfold xP
 have y:iG u.1 u.2.1 l=some (yU (λc=>decide (c.1=u)) l,u):=by
  show cZ aj u.1 u.2.1 l=_;refine tX hl (λc=>decide (c.1=u)) (λm (c:ar)=>To c.1 c.2.1 m) u λx _=>?_
  show some (cY false ((x.1.1==u.1)&&(x.1.2.1==u.2.1)),u)=_;rw[tW]
 have C:aaW l u=some (yU (λc=>decide (c.1=u)) l):=by show tq aj l u=_;unfold tq;rw[ai y]
 rw[ai C];unfold ag6;rcases kT (λc:bA=>decide (c.1=u)) l with⟨h1,j⟩|⟨k,hk,h1,j,_⟩
 .rw[h1,j,aQ (by decide)];rfl
 .rw[h1,j,cQ (by omega),bN hk]
def Ax(l:List bA)(u:ar):ar×Int×Unit:=
 match ag6 l u with
 |none=>((0,0,()),19,())
 |some c=>if c.2.2.1=true then(c.2.1,0,())else((0,0,()),20,())
theorem aqD{l}{u}(hl:l.length<=1000000):Pd l u=some (Ax l u):=by
 show uN aj l u=_;unfold uN Ax;rw[ai (aqC hl)];cases ag6 l u with
 |none=>rfl
 |some c=>refine zp (by rfl) ?_;cases h:c.2.2.1<;>simp only[h]<;>rfl
def anb(m:aW)(day:Int):Int:=if m.2.2.1=1/\day<=m.2.2.2.1 then 0 else 18
theorem aqE(m)(day):adQ m day=some (anb m day):=by
 show xQ aj m day=_;unfold xQ anb
 have e:∃n,adR m day=some n/\(n=0↔¬(m.2.2.1=1/\day<=m.2.2.2.1)):=by
  show ∃n,BL aj m day=some n/\_;by_cases j:m.2.2.1=1
  .by_cases y:m.2.2.2.1<day
   .refine⟨0,yk true (λk=>?_) rfl,by omega⟩;rw[gY j,ap y]
   .refine⟨_,yk false (λk=>?_) rfl,?_⟩
    .rw[gY j,an y]
    .split<;>omega
  .refine⟨0,yk true (λk=>fz j _ _) rfl,by omega⟩
 have⟨n,F,C⟩:=e;rw[ai F];refine dE (λh=>?_) λh=>?_
 .rw[ag (C.1 h)]
 .rw[ah (Cd.1 λhh=>h (C.2 hh))]
def O_(j used more:Int):Int:=if used<0\/more<0 then 2 else if j<used+more then 16 else 0
theorem aqF{m}{used more}(H:cy used)(hm:cy more)(K:cy m.2.1):aaX m used more=some (O_ m.2.1 used more):=by
 show uO aj m used more=_;unfold uO O_
 have e:Wt used [more]=some (if more<used then more else used):=by
  show Ay aj used [more]=_;refine mz (l:=[more]) (s0:=()) (by simp) (λi (_:Unit)=>((if i=0 then used else if more<used then more else used),(i:Int),())) (λ_ _=>True) (λ_ _=>some (if more<used then more else used)) rfl trivial ?_ ?_
  .intro _ _ j;rfl
  .intro i hi _ _ j J;have:i=0:=by simp at hi;exact hi
   subst this;exact J () trivial
 rw[ai e];by_cases F:used<0\/more<0
 .rw[eA (by split<;>omega),ah F]
 .have G:=sR (l:=[used,more]) (λx y=>by
   simp only[aG,dN,lk]at y;rcases y with rfl|rfl
   .exact H
   .exact hm) (by simp)
  have es:[used,more].sum=used+more:=by simp
  rw[es]at G;rw[cQ (by split<;>omega),ag F,ai G];refine yk (decide (m.2.1<used+more)) (λk=>?_) ?_
  .by_cases C:cy (used+more)
   .rw[H2 C];rfl
   .rw[HZ C,aQ (by rfl),ap (by unfold cy at *;omega)]
  .show aj.af (decide (m.2.1<used+more)) (some 16) (some 0)=_;rw[axb];split<;>rfl
instance (a b:bh):Decidable (Cj a b):=by infer_instance
instance (x:bh):Decidable (mM x):=by infer_instance
instance (l:List bh):Decidable (FC l):=by infer_instance
instance (l:List bj):Decidable (b_ l):=by infer_instance
def WD(p:List aU)(h:List bj)(u:ar):fI:=(u,max 0 (hJ p u),eC h u,())
abbrev PHR:=List aU×List bj×List fI
def rJ(z:PHR)(u:ar):PHR:=if max 0 (hJ z.1 u)=0/\eC z.2.1 u=[]then z else((qJ z.1 [(u,-(max 0 (hJ z.1 u)),())]).1,ed z.2.1 u,z.2.2++[WD z.1 z.2.1 u])
theorem Ry{p}(y:xb p=true)(C:tT p)(u)(c)(K:c=max 0 (hJ p u)):
 (qJ p [(u,-c,())]).2.1=0/\xb (qJ p [(u,-c,())]).1=true/\tT (qJ p [(u,-c,())]).1/\
 (qJ p [(u,-c,())]).1.length<=p.length+1/\
 (∀x,hJ (qJ p [(u,-c,())]).1 x=if x=u then hJ p u-c else hJ p x)/\
 eQ Ul (qJ p [(u,-c,())]).1+c=eQ Ul p:=by
 have hs:∀x,me (p++[(u,-c,())]) x=if x=u then hJ p u-c else hJ p x:=λx=>by
  rw[aaJ,tn,<-L4 (Xu y)];show hJ p x+((if u=x then -c else 0)+0)=_;by_cases h:x=u
  .subst h;rw[ah rfl,ah rfl];omega
  .rw[ag (ga h),ag h];omega
 have G:∀x,cy (me (p++[(u,-c,())]) x):=λx=>by
  have J:=HY C x;have R:=HY C u;rw[hs x];split
  .unfold cy at *;omega
  .exact J
 have F:(qJ p [(u,-c,())]).2.1=0:=by unfold qJ;rw[ah y];exact JH _ λx _=>G x
 have⟨_,j,H⟩:=Qs F;refine⟨F,by rw[j];exact Qy (wo _),by rw[j];exact Xt H,Rv _ _,λx=>by rw[j,aaI,hs x],?_⟩;rw[j,aaK,qa,dW,zx];show eQ Ul p+(-c+0)+c=eQ Ul p;omega
structure GOk(p0:List aU)(h0:List bj)(z:PHR)(us:List ar):Prop where
 p:xb z.1=true
 f:tT z.1
 h:HS z.2.1
 lp:z.1.length<=p0.length+us.length
 lh:z.2.1.length<=h0.length
 cash:eQ Ul z.1+eQ (λr:fI=>r.2.1) z.2.2=eQ Ul p0
 i6:∀k,abu k z.2.1+eQ (λr:fI=>ara k r.2.2.1) z.2.2=abu k h0
 get:∀x,x∉us->hJ z.1 x=hJ p0 x/\eC z.2.1 x=eC h0 x
 len:z.2.2.length<=us.length
 ret:∀r∈z.2.2,0<=r.2.1/\r.2.1<=9223372036854775807/\tM r.2.2.1
theorem aiM{H}{J}{z}{us}(G:GOk H J z us)(u):GOk H J (rJ z u) (us++[u]):=by
 have R:(us++[u]).length=us.length+1:=by simp
 have j:=pO G.h.2 u;unfold rJ;split
 .exact⟨G.p,G.f,G.h,by have:=G.lp;omega,G.lh,G.cash,G.i6,λx F=>G.get x λh=>F (by simp[h]),by have:=G.len;omega,G.ret⟩
 .have⟨_,X,W,b4,V,b6⟩:=Ry G.p G.f u _ rfl;have K:=HY G.f u;refine⟨X,W,abt G.h u,by dsimp only;have:=G.lp;omega,bU (cR _ _) G.lh,?_,λk=>?_,λx F=>?_,by rw[aq];have:=G.len;simp;omega,λr y=>?_⟩
  .dsimp only;rw[qa,dW,zx];have:=G.cash;show eQ Ul (qJ z.1 _).1+(eQ _ z.2.2+(max 0 (hJ z.1 u)+0))=_;omega
  .dsimp only;rw[qa,dW,zx];have h1:=G.i6 k;have Y:=abv G.h.1 u k;show abu k (ed z.2.1 u)+(eQ _ z.2.2+(ara k (eC z.2.1 u)+0))=_;omega
  .have C:x≠u:=λe=>F (by simp[e])
   have:=G.get x λh=>F (by simp[h])
   refine⟨?_,?_⟩
   .rw[<-this.1];dsimp only;rw[V,ag C]
   .rw[<-this.2];dsimp only;rw[YD,ag C]
  .rcases aX.1 y with y|y
   .exact G.ret r y
   .simp only[ax]at y;subst y;refine⟨?_,?_,j⟩
    .show 0<=max 0 (hJ z.1 u);omega
    .show max 0 (hJ z.1 u)<=_;unfold cy at K;omega
theorem agI{j}{y}:∀(vs us:List ar) {z:PHR},GOk j y z us->GOk j y (vs.foldl rJ z) (us++vs)
 |[],us,z,G=>by rw[cz];exact G
 |u::vs,us,z,G=>by have:=agI vs (us++[u]) (aiM G u);rw[bn]at this;exact this
theorem aee{j}{y:List bj}(F:xb j=true)(G:tT j)(hh:HS y):GOk j y (j,y,[]) []:=⟨F,G,hh,by simp,au _,by show eQ Ul j+0=_;omega,λk=>by show abu k y+0=_;omega,λx _=>⟨rfl,rfl⟩,au _,λr C=>by cases C⟩
theorem anE{s}{u}(j:(pu s).length<=1000000)(hh:kL (ho s)):YE s u=some (WD (pu s) (ho s) u):=by
 show GM aj s u=_;unfold GM;have C:oG s.2.2.2.2.2.2.2.2.2.2.1 u=some (hJ (pu s) u):=IF j;have y:Hv s.2.2.2.2.2.2.2.2.2.2.2.1 u=some (eC (ho s) u):=yZ hh;rw[ai C,ai y];unfold WD;have:(if hJ (pu s) u>0 then hJ (pu s) u else 0)=max 0 (hJ (pu s) u):=by split<;>omega
 rw[this]
def zst(s:aV)(w:List az)(p:List aU)(h:List bj)(out:List fI):=(s.1,s.2.1,s.2.2.1,s.2.2.2.1,s.2.2.2.2.1,s.2.2.2.2.2.1,s.2.2.2.2.2.2.1,s.2.2.2.2.2.2.2.1,s.2.2.2.2.2.2.2.2.1,s.2.2.2.2.2.2.2.2.2.1,p,h,w,out,())
def zsu(s:aV)(w:List az)(p:List aU)(h:List bj)(out:List fI)(v:List ar):=(s.1,s.2.1,s.2.2.1,s.2.2.2.1,s.2.2.2.2.1,s.2.2.2.2.2.1,s.2.2.2.2.2.2.1,s.2.2.2.2.2.2.2.1,s.2.2.2.2.2.2.2.2.1,s.2.2.2.2.2.2.2.2.2.1,p,h,w,out,v,())
theorem arb{l}{u}(h:kL l)(hi:CQ l=true):abx l u []=some (ed l u,0,()):=by
 show H6 aj l u []=_;have G:Qu l=some true:=by rw[Jc h,hi]
 have F:agJ []=some true:=Rq (by simp);refine bB λk y=>?_
 have j:k (0,())=some (ed l u,0,()):=by
  subst y;show aj.ae (F7 l u [] 0) _=_;have C:F7 l u [] 0=some (ed l u,0,()):=by show lq aj l u [] 0=_;unfold lq;rw[ai G,aB (by rfl),aB (by rfl),ai (avf h)]
  rw[ai C]
 rw[ai F,aB (by rfl)];exact j
theorem aef{s}{u}{c}{j_}(F:xb (pu s)=true)(hi:CQ (ho s)=true)(j:tT (pu s))(hl:(pu s).length<=900000)(hh:kL (ho s))(J:c=max 0 (hJ (pu s) u)):
 Md s (u,c,j_,())=some (fX s (qJ (pu s) [(u,-c,())]).1 (ed (ho s) u),0,()):=by
 show xk aj s (u,c,j_,())=_;have H:=HY j u;have y:cy (-c):=by unfold cy at *;omega
 have K:i64.wrap (0-c) = -c:=by rw[bF _ (by unfold cy at H;omega)];omega
 have V:zB s.2.2.2.2.2.2.2.2.2.2.1 [(u,-c,())]=some (qJ (pu s) [(u,-c,())]):=aaV j (λx C=>by simp only[ax]at C;subst C;exact y) (by show(pu s).length+1<=_;omega);have⟨W,_⟩:=Ry F j u c J;have R:abx s.2.2.2.2.2.2.2.2.2.2.2.1 u []=some (ed (ho s) u,0,()):=arb (l:=ho s) (u:=u) hh hi;show aj.ae (zB s.2.2.2.2.2.2.2.2.2.2.1 [(u,i64.wrap (0-c),())]) _=_;rw[K,ai V];refine bB λk G=>?_
 rw[aQ (by rw[W];rfl)];refine vC R ?_;subst G;rfl
theorem arc{z}(h:CQ z.2.1=true)(u):CQ (rJ z u).2.1=true:=by
 unfold rJ;split
 .exact h
 .exact aiN h u
theorem anF:∀(vs:List ar) {z:PHR},CQ z.2.1=true->CQ (vs.foldl rJ z).2.1=true
 |[],_,h=>h
 |u::vs,z,h=>anF vs (arc h u)
def axp:aV:=(0,[],[],[],[],[],[],[],[],[],[],[],())
def jI(s:aV)(us:List ar):PHR:=us.foldl rJ (pu s,ho s,[])
def OQ(s:aV)(id:Int):aV×(List fI)×Int×Unit:=if xb (pu s)=true/\CQ (ho s)=true then(fX s (jI s (gj id s.2.2.2.2.1)).1 (jI s (gj id s.2.2.2.2.1)).2.1,(jI s (gj id s.2.2.2.2.1)).2.2,0,())else(axp,[],3,())
theorem aeg(s)(us)(u):jI s (us++[u])=rJ (jI s us) u:=by unfold jI;rw[Cf];rfl
theorem aeh(l:List az)(i:Nat)(hi:i<l.length):(l.take (i+1)).flatMap cd=(l.take i).flatMap cd++cd l[i]:=by rw[aw hi,jF];simp
theorem Pf{l:List az}(h:∀a∈l,a.2.2.2.1.length<=20)(hl:l.length<=20):(l.flatMap cd).length<=400:=by
 have key:∀(l:List az),(∀a∈l,a.2.2.2.1.length<=20)->(l.flatMap cd).length<=20*l.length:=by
  intro l;induction l with
  |nil=>intro _;simp
  |cons a l j=>
   intro h;have F:=j λx y=>h x (by simp[y])
   have C:(cd a).length<=20:=by
    unfold cd;split
    .simp
    .rw[bp];exact h a (by simp)
   rw[cp,aq,aJ];omega
 have:=key l h;omega
theorem aiO{s}(y:xb (pu s)=true)(hi:CQ (ho s)=true)(C:tT (pu s))(hl:(pu s).length<=1000)(hh:kL (ho s)){us:List ar}(j:us.length<=1000):
 xb (jI s us).1=true/\CQ (jI s us).2.1=true/\tT (jI s us).1/\(jI s us).1.length<=2000/\kL (jI s us).2.1/\(jI s us).2.2.length<=1000/\jP ((jI s us).2.1.map (·.1)):=by
 have G:=agI us [] (aee y C ⟨(bD hi).2,hh.1⟩);rw[da]at G;exact⟨G.p,anF us hi,G.f,by have:=G.lp;show(us.foldl rJ _).1.length<=_;omega,⟨G.h.2,bU G.lh hh.2⟩,bU G.len j,G.h.1⟩
theorem apa{s:aV}{id:Int}(hf:tT (pu s))(hl:(pu s).length<=1000)(hh:kL (ho s))(hA:∀a∈s.2.2.2.2.1,a.2.2.2.1.length<=20)(hAl:s.2.2.2.2.1.length<=20):HB s id=some (OQ s id):=by
 show EM aj s id=_;have hAs:qC s.2.2.2.2.1:=⟨λa G=>by have:=hA a G;omega,by omega⟩;have e1:KN s.2.2.2.2.2.2.2.2.2.2.1=some (xb (pu s)):=ZL (by show(pu s).length<=_;omega);have e2':Qu s.2.2.2.2.2.2.2.2.2.2.2.1=some (CQ (ho s)):=Jc hh;refine bB λk17 hk=>?_
 have kt:¬(xb (pu s)=true/\CQ (ho s)=true)->k17 (true,())=some (OQ s id):=by intro hn;subst hk;unfold OQ;rw[ag hn];rfl
 have kf:xb (pu s)=true->CQ (ho s)=true->k17 (false,())=some (OQ s id):=by
  intro hp hi;subst hk;unfold OQ;rw[ah ⟨hp,hi⟩];show aj.af false _ (aj.ae (W6 s.2.2.2.2.1 id) _)=_;rw[aB rfl,ai (ZH hAs)];unfold gj;have W:∀a∈s.2.2.2.2.1.filter (p9 id),a.2.2.2.1.length<=20:=λa G=>hA a (aM.1 G).1
  have ay5:(s.2.2.2.2.1.filter (p9 id)).length<=20:=bU (cR _ _) hAl;generalize s.2.2.2.2.1.filter (p9 id)=v2 at *;have hul:=Pf W ay5;refine qp (N:=v2.length) (by omega) (λi=>((i:Int),zst s v2 (jI s ((v2.take i).flatMap cd)).1 (jI s ((v2.take i).flatMap cd)).2.1 (jI s ((v2.take i).flatMap cd)).2.2)) _ rfl ?_ ?_
  .intro Y;show aj.af (decide ((v2.length:Int)<(v2.length:Int))) _ _=_;rw[dT,bq];rfl
  .intro i y Y G;show aj.af (decide ((i:Int)<(v2.length:Int))) _ _=_;rw[dk y];show aj.aI v2 (i:Int) _=_;have hac:=W _ (aF y);rw[bN y];show aj.ct v2 (Int.toNat (i:Int)) _=_;rw[iI y,ai (xt (by omega))];have hlt:((v2.take i).flatMap cd).length<=400:=Pf (λa G=>W a (dw G)) (by rw[aY];omega);rw[aeh v2 i y]at G
   have hvl:(cd v2[i]).length<=20:=by
    unfold cd;split
    .simp
    .rw[bp];exact hac
   generalize cd v2[i]=v6 at *;generalize (v2.take i).flatMap cd=us at *;refine qp (N:=v6.length) (by omega) (λk=>((k:Int),zsu s v2 (jI s (us++v6.take k)).1 (jI s (us++v6.take k)).2.1 (jI s (us++v6.take k)).2.2 v6)) _ (by rw[List.take_zero,cz];rfl) ?_ ?_
   .intro H;show aj.af (decide ((v6.length:Int)<(v6.length:Int))) _ _=_;rw[dT,bq];dsimp only;rw[cJ i (by omega)];exact G
   .intro k F H X;show aj.af (decide ((k:Int)<(v6.length:Int))) _ _=_;rw[dk F];refine bB λC R=>?_
    have es:us++v6.take (k+1)=(us++v6.take k)++[v6[k]]:=by rw[aw F,bn]
    have j:C (zsu s v2 (rJ (jI s (us++v6.take k)) v6[k]).1 (rJ (jI s (us++v6.take k)) v6[k]).2.1 (rJ (jI s (us++v6.take k)) v6[k]).2.2 v6)=some (fX s (jI s (v2.flatMap cd)).1 (jI s (v2.flatMap cd)).2.1,(jI s (v2.flatMap cd)).2.2,0,()):=by subst R;rw[es,aeg]at X;dsimp only;rw[cJ k (by omega)];exact X
    clear R X G;show aj.aI v6 (k:Int) _=_;rw[bN F];show aj.ct v6 (Int.toNat (k:Int)) _=_;rw[iI F];have hlen:(us++v6.take k).length<=1000:=by rw[aq,aY];omega
    obtain⟨gp,gi,gf,gl,gh,go,_⟩:=aiO hp hi hf hl hh hlen;generalize jI s (us++v6.take k)=Z at *;obtain⟨p,h,out⟩:=Z;generalize v6[k]=u at *;simp only at gp gi gf gl gh go;have e3:YE (fX s p h) u=some (WD p h u):=anE (s:=fX s p h) (by show p.length<=_;omega) gh;show aj.ae (YE (fX s p h) u) _=_;rw[ai e3];refine bB λV K=>?_
    have J:¬(max 0 (hJ p u)=0/\eC h u=[])->V (v2,out,v6,())=some (fX s (jI s (v2.flatMap cd)).1 (jI s (v2.flatMap cd)).2.1,(jI s (v2.flatMap cd)).2.2,0,()):=by
     intro hne;subst K;show aj.ae (Md (fX s p h) (u,max 0 (hJ p u),eC h u,())) _=_;have h2:=aef (s:=fX s p h) (u:=u) (c:=max 0 (hJ p u)) (j_:=eC h u) gp gi gf (by show p.length<=_;omega) gh (show max 0 (hJ p u)=max 0 (hJ (pu (fX s p h)) u)from rfl);rw[ai h2,aB (by rfl)];show aj.bg (out.length+1) 48 (C (zsu s v2 (qJ p [(u,-(max 0 (hJ p u)),())]).1 (ed h u) (out++[WD p h u]) v6))=_;rw[c9 (by omega) (by omega)];have:rJ (p,h,out) u=((qJ p [(u,-(max 0 (hJ p u)),())]).1,ed h u,out++[WD p h u]):=by unfold rJ;rw[ag hne]
     rw[this]at j;exact j
    clear K
    have skip:(max 0 (hJ p u)=0/\eC h u=[])->C (zsu s v2 p h out v6)=some (fX s (jI s (v2.flatMap cd)).1 (jI s (v2.flatMap cd)).2.1,(jI s (v2.flatMap cd)).2.2,0,()):=by
     intro hy;have:rJ (p,h,out) u=(p,h,out):=by unfold rJ;rw[ah hy]
     rw[this]at j;exact j
    show aj.af (max 0 (hJ p u)==0) (aj.af (((eC h u).length:Int)==0) (C (zsu s v2 p h out v6)) (V (v2,out,v6,()))) (V (v2,out,v6,()))=_;refine dE (λh1=>?_) λh1=>?_
    .by_cases h2:eC h u=[]
     .rw[aQ (by rw[h2];rfl)];exact skip ⟨h1,h2⟩
     .rw[aB (by
       cases hl:eC h u with
       |nil=>exact absurd hl h2
       |cons x xs=>simp;omega)]
      exact J λhh=>h2 hh.2
    .exact J λhh=>h1 hh.1
 clear hk;rw[ai e1];cases hp:xb (pu s)with
 |false=>rw[aQ (by rfl)];exact kt λh=>by rw[hp]at h;cases h.1
 |true=>
  rw[aB (by rfl),ai e2'];cases hi:CQ (ho s)with
  |false=>exact kt λh=>by rw[hi]at h;cases h.2
  |true=>exact kf hp hi
theorem aqH{l}{f t}(h:kL l)(hl:l.length<=900):Oa l f t=some (OK l f t):=by
 show AA aj l f t=_;unfold AA OK;have C:=pO h.1 f;rw[ai (Jc h)];by_cases hi:CQ l=true
 .have hs:=aqG hi;rw[hi,aB (by rfl),ah rfl,tW];by_cases j:f=t
  .rw[ap j,aQ rfl,ah j]
  .rw[an j,aB rfl,ag j,ai (yZ h)];by_cases y:eC l t=[]
   .rw[ah y,aB (by rw[y];rfl),ai (yZ h),ai (Xr h hs (by simp)),ai (Xr (Rt h (by omega) hs f y0) (k_ hs f []) (by have:=C.1;omega))]
   .rw[ag y,eA (by
     cases hh:eC l t with
     |nil=>exact absurd hh y
     |cons x xs=>simp<;>omega)]
 .have hi:CQ l=false:=by simpa using hi
  rw[hi,aQ (by rfl),ag (by decide)]
def uz(s:aV)(u:ar):Int:=
 match fj s.2.2.2.2.1 u.1 with
 |none=>11
 |some a=>if zE a u=true then(if a.2.2.1=1 then 17 else 0)else 11
def Gl(s:aV)(u:ar):az:=(fj s.2.2.2.2.1 u.1).getD vN
structure OkP(s:aV):Prop where
 mL:s.2.1.length<=10
 mI:∀m∈s.2.1,cy m.2.1
 aA:qC s.2.2.2.2.1
 aL:s.2.2.2.2.1.length<=20
 aS:Xb s.2.2.2.2.1
 cL:(ch s).length<=100
 hb:okB (bk s)
 bl:(bk s).length<=64
 pf:tT (pu s)
 pl:(pu s).length<=94
 hh:kL (ho s)
 hl:(ho s).length<=94
theorem anc{t}{id}{m}(h:gX t id=some m):m∈t:=bV h
theorem ane{t}{id}{a}(h:fj t id=some a):a∈t:=bV h
theorem aaY{s}(O:OkP s)(u):aaZ s u=some (if uz s u=0 then(Gl s u,0,())else(vN,uz s u,())):=by
 show rk aj s u=_;unfold rk uz Gl;rw[ai (Hn O.aA O.aS)];cases C:fj s.2.2.2.2.1 u.1 with
 |none=>exact yk true (λk=>aQ (by rfl) _ _) rfl
 |some a=>
  have F:=O.aA.1 _ (ane C);refine yk (!(zE a u)) (λk=>?_) ?_
  .refine zp (by rfl) ?_;rw[ai (Q' F)]
  .show aj.af (!(zE a u)) (some (vN,11,())) (aj.af (a.2.2.1==1) (some (vN,17,())) (some (a,0,())))=some (if(if zE a u=true then(if a.2.2.1=1 then(17:Int)else 0)else 11)=0 then(a,(0:Int),())else(vN,(if zE a u=true then(if a.2.2.1=1 then(17:Int)else 0)else 11),()));by_cases y:zE a u=true
   .rw[y,aB (by rfl)];refine dE (λj=>?_) λj=>?_
    .rw[ah rfl,ah j,ag (by decide)]
    .rw[ah rfl,ag j,ah rfl]
   .rw[ag y,ag (by decide),aQ (by simpa using y)]
def HC(s:aV)(f:ar):Int:=if uz s f=0 then(match gX s.2.1 (Gl s f).2.1 with|none=>18|some m=>anb m s.1)else uz s f
theorem anf{s}(O:OkP s)(f):aba s f=some (HC s f):=by
 show uQ aj s f=_;unfold uQ HC;have j:=O.mL;rw[ai (aaY O f)];by_cases h:uz s f=0
 .rw[ah h,ah h,aB (by rfl)];refine vC (ta (by omega)) ?_;cases gX s.2.1 (Gl s f).2.1 with
  |none=>rfl
  |some m=>refine zp (by rfl) ?_;rw[ai (aqE m s.1)]
 .rw[ag h,ag h,fz h]
def EJ(s:aV)(u:ar):Prop:=kc (bk s) u=[]/\hJ (pu s) u=0/\eC (ho s) u=[]
instance (s:aV) (u:ar):Decidable (EJ s u):=by unfold EJ;infer_instance
theorem axc{α}(l:List α):((l.length:Int)==0)=decide (l=[]):=by
 cases l with
 |nil=>rfl
 |cons x xs=>simp;omega
theorem aqI{s}(O:OkP s)(u:ar):Tp s u=some (decide (EJ s u)):=by
 show xR aj s u=_;unfold xR;have C:=O.pl;have H:KO s.2.2.2.2.2.2.2.2.1 u=some (kc (bk s) u):=Rf O.hb;have G:oG s.2.2.2.2.2.2.2.2.2.2.1 u=some (hJ (pu s) u):=IF (by show(pu s).length<=_;omega);have F:Hv s.2.2.2.2.2.2.2.2.2.2.2.1 u=some (eC (ho s) u):=yZ O.hh;rw[ai H,axc];by_cases j:kc (bk s) u=[]
 .rw[ap j,aQ rfl,ai G];refine dE (λy=>?_) λy=>?_
  .rw[ai F,axc];congr 1;exact dM.2 ⟨λh=>⟨j,y,h⟩,λh=>h.2.2⟩
  .rw[an (p:=EJ s u) λh=>y h.2.1]
 .rw[an j,aB rfl,an (p:=EJ s u) λh=>j h.1]
def Es(s:aV)(f t:ar):Int:=
 if uz s t=0 then(
  match gX s.2.1 (Gl s t).2.1 with
  |none=>15
  |some m=>if m.2.2.1=0 then(if EJ s t then(if(tb (bk s) [f]).2.1=0 then(if(pa s m.1).2.1=0 then O_ m.2.1 (pa s m.1).1 (tb (bk s) [f]).1 else(pa s m.1).2.1)else(tb (bk s) [f]).2.1)else 21)else 15)
 else uz s t
theorem axd(z):cy (cP z).1:=by
 unfold cP;split
 .assumption
 .unfold cy;simp
theorem asE(l)(us):cy (tb l us).1:=by
 unfold tb;split
 .exact axd _
 .unfold cy;simp
theorem aqJ{s}(O:OkP s)(f t):adU s f t=some (Es s f t):=by
 show xS aj s f t=_;unfold xS Es;have G:=O.mL;rw[ai (aaY O t)];by_cases h:uz s t=0;case neg=>rw[ag h,ag h,fz h]
 rw[ah h,ah h,aB (by rfl)];refine vC (ta (by omega)) ?_;cases hm:gX s.2.1 (Gl s t).2.1 with
 |none=>exact yk true (λk=>aQ (by rfl) _ _) rfl
 |some m=>
 have e:qD m=some (if m.2.2.1=0 then 0 else 15):=by
  show jH aj m=_;refine iS (λj=>?_) λj=>?_
  .rw[ah j]
  .rw[ag j]
 refine yk (!decide (m.2.2.1=0)) (λk=>?_) ?_
 .refine zp (by rfl) ?_;rw[ai e];by_cases j:m.2.2.1=0
  .rw[ah j,ap j];rfl
  .rw[ag j,an j];rfl
 show aj.af (!decide (m.2.2.1=0)) (some (15:Int)) (aj.ae (Tp s t) _)=some (if m.2.2.1=0 then(if EJ s t then(if(tb (bk s) [f]).2.1=0 then(if(pa s m.1).2.1=0 then O_ m.2.1 (pa s m.1).1 (tb (bk s) [f]).1 else(pa s m.1).2.1)else(tb (bk s) [f]).2.1)else 21)else 15);by_cases j:m.2.2.1=0;case neg=>rw[an j,aQ (by rfl),ag j]
 rw[ap j,aB (by rfl),ah j,ai (aqI O t)];by_cases F:EJ s t;case neg=>rw[an F,aQ (by rfl),ag F]
 have H:N' s.2.2.2.2.2.2.2.2.1 [f]=some (tb (bk s) [f]):=amZ O.hb (by simp);rw[ap F,aB (by rfl),ah F,ai H];by_cases C:(tb (bk s) [f]).2.1=0;case neg=>rw[fz C,ag C]
 rw[gY C,ah C];refine vC (adO O.aA O.aL O.hb) ?_;by_cases y:(pa s m.1).2.1=0;case neg=>rw[fz y,ag y]
 rw[aB (by simpa using y),ah y];exact vC (aqF (used:=(pa s m.1).1) (more:=(tb (bk s) [f]).1) (asE _ _) (asE _ _) (O.mI m (anc hm))) rfl
def zUn:ar:=(0,0,())
def lI(s:aV)(f:ar):ar×Int×Unit:=if HC s f=0 then(if(Ax (ch s) f).2.1=0 then(if Es s f (Ax (ch s) f).1=0 then((Ax (ch s) f).1,0,())else(zUn,Es s f (Ax (ch s) f).1,()))else(zUn,(Ax (ch s) f).2.1,()))else(zUn,HC s f,())
theorem axe{s}(O:OkP s)(f):ang s f=some (lI s f):=by
 show Dy aj s f=_;unfold Dy lI;have F:=O.cL;rw[ai (anf O f)];by_cases C:HC s f=0;case neg=>rw[fz C,ag C];rfl
 have e:Pd s.2.2.2.2.2.1 f=some (Ax (ch s) f):=aqD (by show(ch s).length<=_;omega);rw[gY C,ah C,ai e];by_cases y:(Ax (ch s) f).2.1=0;case neg=>rw[fz y,ag y];rfl
 rw[gY y,ah y,ai (aqJ O f _)];by_cases j:Es s f (Ax (ch s) f).1=0;case neg=>rw[fz j,ag j];rfl
 rw[gY j,ah j]
def Iu(u:ar)(c:bA):Bool:=decide (c.1≠u)
theorem ag9(c)(u):L9 u.1 u.2.1 c=some (!(Iu u c),u):=by show some (cY false ((c.1.1==u.1)&&(c.1.2.1==u.2.1)),u)=_;rw[tW];unfold Iu;by_cases h:c.1=u<;>simp[h]
theorem axf{l}{u}(hl:l.length<=1000000):
 (eZ u.1 u.2.1 l=some (-1,u)/\∀a∈l,Iu u a=true)\/
 ∃i:Nat,i<l.length/\eZ u.1 u.2.1 l=some ((i:Int),u)/\(∀a∈l.take i,Iu u a=true)/\∀h:i<l.length,Iu u l[i]=false:=by
 have e:eZ u.1 u.2.1 l=some (yU (λc=>!(Iu u c)) l,u):=by exact tX hl (λc=>!(Iu u c)) (λm (c:ar)=>L9 c.1 c.2.1 m) u λx _=>ag9 x u
 rw[e];unfold yU;cases h:l.findIdx? λc=>!(Iu u c)with
 |none=>rw[gg]at h;exact .inl ⟨rfl,λa y=>by simpa using h a y⟩
 |some k=>have⟨H,G,F⟩:=ez.1 h;refine .inr ⟨k,H,rfl,λa y=>?_,λ_=>by simpa using G⟩;obtain⟨j,C,rfl⟩:=dr.1 y;rw[aY]at C;have:=F j (by omega);rw[jC];simpa using this
theorem auP{l}{u}(hl:l.length<=1000000):lQ u.1 u.2.1 l=some (l.filter (Iu u),u):=by
 show cS aj u.1 u.2.1 l=_;unfold cS;rcases axf (u:=u) hl with⟨e,R⟩|⟨y,F,e,hp,hn⟩
 .rw[ai e,aQ (by rfl),lj.2 R]
 .rw[ai e,aB (show((y:Int) == -1)=false by simp)];have J:y+1<=l.length:=F;have hf0:(l.take (y+1)).filter (Iu u)=l.take y:=by rw[aw F,e8,lj.2 hp,bw,hn F];simp
  have hz:((y:Int),i64.wrap ((y:Int)+1),u.1,u.2.1,l,())=(((y:Nat):Int),((y+1:Nat):Int),u.1,u.2.1,l,()):=by rw[cJ y]
  show aj.aZ _ ((y:Int),i64.wrap ((y:Int)+1),u.1,u.2.1,l,())=_;rw[hz];refine(fR (λz=>l.length+1-z.2.1.toNat) (λz=>∃(i j:Nat) (s:List bA),i<j/\j<=l.length/\s.length=l.length/\s.take i=(l.take j).filter (Iu u)/\s.drop j=l.drop j/\z=((i:Int),(j:Int),u.1,u.2.1,s,())) (λ_=>some (l.filter (Iu u),u)) ⟨y,y+1,l,by omega,J,rfl,hf0.symm,rfl,rfl⟩ (by dsimp only;omega) ?_);rintro _ ⟨i,j,s,hij,hj,hs,X,hd,rfl⟩ again ha;show aj.af (decide ((j:Int)<(s.length:Int))) _ _=_;by_cases h:j<s.length
  .have C:j<l.length:=by omega
   have hx:s[j]=l[j]:=by
    have V:(s.drop j)[0]?=(l.drop j)[0]?:=by rw[hd]
    rw[cI,cI,gP,ay h,ay C]at V;exact cG V
   rw[dk h];refine bB λk5 H=>?_
   have kk:∀(G:Nat) (s':List bA),G<j+1->s'.length=l.length->s'.take G=(l.take (j+1)).filter (Iu u)->s'.drop (j+1)=l.drop (j+1)->k5 ((G:Int),u.1,u.2.1,s',())=some (l.filter (Iu u),u):=by intro G s' g1 g2 g3 g4;subst H;dsimp only;rw[cJ j];exact ha _ ⟨G,j+1,s',by omega,by omega,g2,g3,g4,rfl⟩ (by dsimp only;omega)
   clear H ha
   have K:s.drop (j+1)=l.drop (j+1):=by
    have:=bQ (List.drop 1) hd
    rwa [mq,mq]at this
   have W:i<s.length:=by omega
   show aj.aI s (j:Int) _=_;rw[bN h];show aj.ct s (Int.toNat (j:Int)) _=_;rw[iI h,hx,ai (ag9 _ _)];by_cases hv:Iu u l[j]=true
   .rw[hv,aQ (by rfl)];show aj.aI s (i:Int) _=_;rw[bN W];show aj.ct s (Int.toNat (i:Int)) _=_;rw[iI W];dsimp only;rw[aP,cJ i];refine kk (i+1) (s.set i l[j]) (by omega) (by rw[ft];exact hs) ?_ ?_
    .rw[aw C,e8,<-X,bw,hv,p8,ah rfl];have V:i<(s.set i l[j]).length:=by rw[ft];exact W
     rw[aw V,qk];congr 1;rw[yP (au _)]
    .rw[yQ (by omega)];exact K
   .have hv:Iu u l[j]=false:=by simpa using hv
    rw[hv,aB (by rfl)];refine kk i s (by omega) hs ?_ K;rw[aw C,e8,bw,hv,X];simp
  .have:j=s.length:=by omega
   subst this;have hll:s.length=l.length:=hs;rw[dT];show aj.gW (i:Int) s.length _=_;rw[Fb,aP];show aj.gW (i:Int) s.length _=_;rw[Fb,aP];show aj.gW (i:Int) (s.take i++List.replicate (s.length-i) ((0,0,()),(0,0,()),false,())).length _=_;have Y:(s.take i).length=i:=by rw[aY];omega
   rw[Fb (by omega) (by rw[aq,Y];omega),aP];dsimp only;rw[kx (by omega),Bf,Nat.min_self,X,hll,bq]
theorem abb{s}(h:s.length<=1000000):tQ s=some s:=by
 show dX aj s=_;unfold dX;rw[CA];refine xj ?_ λj=>?_
 .refine zp (by decide) ?_;rw[c9];rfl
 .have:s=[]:=by simpa using j
  subst this;rfl
theorem agA{l}{u}(hl:l.length<=1000000):EK l u=some (Fi l u):=by show tt aj l u=_;unfold tt;rw[ai (abb hl),ai (auP hl)];rfl
theorem L'{f}:∀(us:List Int) (acc:List nU),(∀u∈us,cy (f u))->goV f us acc=(acc++(us.filter λu=>decide (f u≠0)).map λu=>((u,f u,()):nU),0,())
 |[],acc,_=>by simp[goV]
 |k::us,acc,h=>by
  rw[goV,ah (h k (by simp)),bw];by_cases j:f k=0
  .rw[ah j,L' us acc λu y=>h u (by simp[y]),ag (by simpa using j)]
  .rw[ag j,L' us _ λu y=>h u (by simp[y]),ah (by simpa using j),bn];rfl
theorem YA{f}:∀(us:List Int) (acc:List nU),(∃u∈us,¬cy (f u))->goV f us acc=([],7,())
 |[],acc,h=>by have⟨u,j,_⟩:=h;cases j
 |k::us,acc,h=>by
  rw[goV];by_cases y:cy (f k)
  .have F:∃u∈us,¬cy (f u):=by
    have⟨u,j,C⟩:=h;rcases aG.1 j with rfl|j
    .exact absurd y C
    .exact⟨u,j,C⟩
   rw[ah y,YA us _ F,YA us _ F];split<;>rfl
  .rw[ag y]
def Ik(l:List nU):List nU×Int×Unit:=if D9 l=true then goV (λj => -(fM l j)) ks []else([],3,())
def Rx(l:List nU):List nU:=l.map λx=>((x.1,-x.2.1,()):nU)
theorem auQ{l}(h:yo l):yo (Rx l):=by
 refine⟨λx C=>?_,?_⟩
 .obtain⟨y,j,rfl⟩:=aN.1 C;have:=h.1 y j;exact⟨this.1,by have:=this.2;dsimp only;omega⟩
 .unfold Rx;rw[gQ];exact h.2
theorem Lb(l)(k):fM (Rx l) k = -(fM l k):=by
 induction l with
 |nil=>rfl
 |cons x l j=>show fM ((x.1,-x.2.1,())::Rx l) k = -(fM (x::l) k);rw[fM,fM,j];dsimp only;split<;>rfl
theorem Wu{l}(h:yo l){x:nU}(j:x∈l):fM l x.1=x.2.1:=by
 have F:(l.map (·.1)).Nodup:=h.2.imp λ{a b} (G:a<b) e=>by omega
 clear h;induction l with
 |nil=>cases j
 |cons y l C=>
  have⟨J,H⟩:=fw.1 F;rw[fM];rcases aG.1 j with rfl|j
  .rw[ah rfl]
  .rw[ag λe=>J (by show y.1∈_;rw[e];exact db j),C j H]
theorem Wv{l:List nU}(hv:D9 l=true)(h:∀x∈l,cy (-x.2.1)):Ik l=(Rx l,0,()):=by
 have C:=bD hv
 have H:∀u,cy (-(fM l u)):=λu=>by
  by_cases F:u∈l.map (·.1)
  .obtain⟨x,y,rfl⟩:=aN.1 F;rw[Wu C y];exact h x y
  .rw[Hy λx y e=>F (aN.2 ⟨x,y,e⟩)];unfold cy;omega
 unfold Ik;rw[ah hv,L' ks [] λu _=>H u,da];congr 1;refine VT (Xv λj => -(fM l j)) (auQ C) λu=>?_
 show fM (S' λj => -(fM l j)) u=_;rw[Lb,Tc];intro G;show -(fM l u)=0;rw[Tb C G];rfl
theorem abc{l}(hv:D9 l=true){x:nU}(j:x∈l)(h:¬cy (-x.2.1)):Ik l=([],7,()):=by have y:=bD hv;unfold Ik;rw[ah hv];refine YA ks [] ⟨x.1,(adC _).2 (y.1 x j).1,?_⟩;rw[Wu y j];exact h
theorem auR{l}(ho:Rw l)(hl:l.length<=1000):Xe l=some (Ik l):=by
 show sd aj l=_;unfold sd;rw[ai (Rg (l:=l) (by omega))];by_cases hv:D9 l=true
 case neg=>
  have V:D9 l=false:=by simpa using hv
  rw[V,aQ (by rfl)];unfold Ik;rw[ag hv]
 rw[hv,aB (by rfl)]
 have Bn:∀x∈l,Yu 0 x.2.1=some (cP (-x.2.1)):=λx F=>by
  have e:=I1 (a:=0) (b:=x.2.1) (by unfold cy;omega) (ho x F)
  rwa [zk]at e
 by_cases C:∀x∈l,cy (-x.2.1)
 .rw[Wv hv C];refine(mz (l:=l) (s0:=[]) (by omega) (λi (z:List nU)=>((i:Int),z,())) (λi z=>z.length<=i) (λl' z=>some (z++Rx l',0,())) rfl (au _) ?_ ?_).trans (by rw[da])
  .intro z _ j;show aj.af (decide ((l.length:Int)<(l.length:Int))) _ _=some (z++[],0,());rw[dT,cz]
  .intro i hi z hz j X;have F:=aF hi;refine Ii hi ?_;rw[bN hi,ai (Bn _ F),H2 (C _ F),aB (by rfl)];show aj.bg (z.length+1) 16 (j (i64.wrap ((i:Int)+1),z++[(l[i].1,-l[i].2.1,())],()))=_;rw[c9,cJ i,X _ (by rw[aq];simp;omega),bn];rfl
 .have W:∃x∈l,¬cy (-x.2.1):=cT λh=>C λx F=>cT λJ=>h ⟨x,F,J⟩
  obtain⟨x,F,J⟩:=W;rw[abc hv F J];refine mz (l:=l) (s0:=[]) (by omega) (λi (z:List nU)=>((i:Int),z,())) (λi z=>z.length<=i/\∃y∈l.drop i,¬cy (-y.2.1)) (λl' z=>some ([],7,())) rfl ⟨au _,x,F,J⟩ ?_ ?_
  .rintro z ⟨_,y,G,_⟩ j;rw[fu]at G;cases G
  .rintro i hi z ⟨hz,y,G,H⟩ j X;have R:=aF hi;refine Ii hi ?_;rw[bN hi,ai (Bn _ R)];by_cases Y:cy (-l[i].2.1)
   .rw[H2 Y,aB (by rfl)];show aj.bg (z.length+1) 16 (j (i64.wrap ((i:Int)+1),z++[(l[i].1,-l[i].2.1,())],()))=_;rw[cn hi]at G;have K:=(aG.1 G).resolve_left λe=>H (by rw[e];exact Y)
    rw[c9,cJ i,X _ ⟨by rw[aq];simp;omega,y,K,H⟩]
   .rw[HZ Y,aQ (by rfl)]
def ur(l:List bC)(f t:ar)(j:List nU):List bC×Int×Unit:=if r' l=true then(if(Ik j).2.1=0 then(if(fm l f (Ik j).1).2.1=0 then fm (fm l f (Ik j).1).1 t j else([],(fm l f (Ik j).1).2))else([],(Ik j).2))else([],3,())
theorem Xx{l}(h:(Ik l).2.1=0):D9 l=true/\(Ik l).1=Rx l/\Rw (Rx l):=by
 by_cases hv:D9 l=true;case neg=>unfold Ik at h;rw[ag hv]at h;cases h
 by_cases j:∀x∈l,cy (-x.2.1)
 .rw[Wv hv j];exact⟨hv,rfl,λx C=>by obtain⟨y,H,rfl⟩:=aN.1 C;exact j y H⟩
 .have G:∃x∈l,¬cy (-x.2.1):=cT λh=>j λx C=>cT λF=>h ⟨x,C,F⟩
  have⟨x,C,F⟩:=G;rw[abc hv C F]at h;cases h
theorem anh{l}{f t}{j}(hb:okB l)(hl:l.length<=80)(ho:Rw j)(J:j.length<=100):HX l f t j=some (ur l f t j):=by
 show qO aj l f t j=_;unfold qO ur;rw[ai (FW hb)];by_cases F:r' l=true
 case neg=>
  have G:r' l=false:=by simpa using F
  rw[ag F,G,aQ (by rfl)]
 rw[ah F,F,aB (by rfl),ai (auR ho (by omega))];by_cases y:(Ik j).2.1=0;case neg=>rw[ag y,fz y]
 have⟨_,R,K⟩:=Xx y;rw[ah y,gY y,R,ai (Ec hb (by omega) K (by unfold Rx;rw[bp];exact J))];by_cases C:(fm l f (Rx j)).2.1=0;case neg=>rw[ag C,fz C]
 have S:=l6 C;have H:=S.len;rw[ah C,gY C,ai (Ec (S.ok hb (by omega)) (by omega) ho J)]
def vR(s:aV)(c:List bA)(b:List bC)(p:List aU)(h:List bj):aV:=(s.1,s.2.1,s.2.2.1,s.2.2.2.1,s.2.2.2.2.1,c,s.2.2.2.2.2.2.1,s.2.2.2.2.2.2.2.1,b,s.2.2.2.2.2.2.2.2.2.1,p,h,())
def uA(s:aV)(f:ar):List bC×Int×Unit:=ur (bk s) f (lI s f).1 (kc (bk s) f)
def Dc(s:aV)(f:ar):List aU×Int×Unit:=ja (pu s) f (lI s f).1 (hJ (pu s) f)
def yI(s:aV)(f:ar):List bj×Int×Unit:=OK (ho s) f (lI s f).1
def Gh(s:aV)(f:ar):aV×ar×Int×Unit:=if(lI s f).2.1=0 then(if(uA s f).2.1=0 then(if(Dc s f).2.1=0 then(if(yI s f).2.1=0 then(vR s (Fi (ch s) f) (uA s f).1 (Dc s f).1 (yI s f).1,(lI s f).1,0,())else(IX,zUn,(yI s f).2.1,()))else(IX,zUn,(Dc s f).2.1,()))else(IX,zUn,(uA s f).2.1,()))else(IX,zUn,(lI s f).2.1,())
theorem akV{s}{f}(h:(lI s f).2.1=0):r' (bk s)=true/\EJ s (lI s f).1:=by
 unfold lI at h ⊢;split;case isFalse hl=>rw[ag hl]at h;exact absurd h hl
 rename_i hl;rw[ah hl]at h;split;case isFalse C=>rw[ag C]at h;exact absurd h C
 rename_i C;rw[ah C]at h;split;case isFalse j=>rw[ag j]at h;exact absurd h j
 rename_i j;generalize (Ax (ch s) f).1=t at *;unfold Es at j;split at j;case isFalse G=>exact absurd j G
 split at j
 .cases j
 split at j;case isFalse=>cases j
 split at j;case isFalse=>cases j
 rename_i F;split at j;case isFalse y=>exact absurd j y
 rename_i y;refine⟨?_,F⟩;unfold tb at y;split at y
 .assumption
 .cases y
theorem ani{l}(hv:D9 l=true)(ho:Rw l):vD [l]=(l,0,()):=by
 have j:=bD hv;have hs:∀k,xL [l] k=fM l k:=λk=>by show fM l k+0=_;omega
 unfold vD;rw[ah (by simp[hv]),<-Yv,L' ks [] λu _=>by rw[hs];exact agw ho u,da];congr 1;refine VT (Xv (xL [l])) j λu=>?_
 show fM (S' (xL [l])) u=_;rw[Tc,hs];intro y;rw[hs,Tb j y]
theorem auS{s}(O:OkP s)(f):aiE s f=some (Gh s f):=by
 show wI aj s f=_;unfold wI Gh;have Qm:=O.bl;have hpl:=O.pl;have hhl:=O.hl;have hcl:=O.cL;rw[ai (axe O f)];by_cases Y:(lI s f).2.1=0;case neg=>rw[fz Y,ag Y];rfl
 obtain⟨hB,hE⟩:=akV Y;obtain⟨o1,o2⟩:=M5 O.hb f;have hv:=ag5 hB f;have e1:KO s.2.2.2.2.2.2.2.2.1 f=some (kc (bk s) f):=Rf O.hb;rw[gY Y,ah Y,ai e1,ai (adB (l:=[kc (bk s) f]) (by simp) (λv hm=>by simp only[ax]at hm;subst hm;omega) λv hm=>by simp only[ax]at hm;subst hm;exact o1),ani hv o1]
 have fin:∀(H:Int×aV->Option (aV×ar×Int×Unit)),(H=λj=>aj.af (j.1 != 0) (some (IX,zUn,j.1,())) (aj.ae (EK (ch j.2) f) λv7=>some (vR j.2 v7 (bk j.2) (pu j.2) (ho j.2),(lI s f).1,0,())))->
  (∀st,ch st=ch s->H (0,st)=some (vR st (Fi (ch s) f) (bk st) (pu st) (ho st),(lI s f).1,0,()))/\∀e,e≠0->∀st,H (e,st)=some (IX,zUn,e,()):=by
  intro H y;subst y;refine⟨λst J=>?_,λe he st=>?_⟩
  .show aj.af false _ (aj.ae (EK (ch st) f) _)=_;rw[aB rfl,J,ai (agA (by omega))]
  .show aj.af (e != 0) _ _=_;rw[aQ (by simpa using he)]
 have F:∀(C:Int×aV->Option (aV×ar×Int×Unit)),(C=λG=>aj.aH (λj:Int×aV=>aj.af (j.1 != 0) (some (IX,zUn,j.1,())) (aj.ae (EK (ch j.2) f) λv7=>some (vR j.2 v7 (bk j.2) (pu j.2) (ho j.2),(lI s f).1,0,()))) λH=>aj.af (G.1==0) (aj.ae (Oa (ho G.2) f (lI s f).1) λv9=>H (v9.2.1,vR G.2 (ch G.2) (bk G.2) (pu G.2) v9.1)) (H G))->
  (∀st,ch st=ch s->ho st=ho s->C (0,st)=some (if(yI s f).2.1=0 then(vR st (Fi (ch s) f) (bk st) (pu st) (yI s f).1,(lI s f).1,0,())else(IX,zUn,(yI s f).2.1,())))/\∀e,e≠0->∀st,C (e,st)=some (IX,zUn,e,()):=by
  intro C y;subst y;refine⟨λst J hho=>?_,λe he st=>?_⟩
  .refine bB λk y=>?_
   obtain⟨a1,a2⟩:=fin k y;show aj.af true (aj.ae (Oa (ho st) f (lI s f).1) λv9=>k (v9.2.1,vR st (ch st) (bk st) (pu st) v9.1)) _=_;rw[aQ rfl,hho,ai (aqH O.hh (by omega))];show k ((yI s f).2.1,vR st (ch st) (bk st) (pu st) (yI s f).1)=_;by_cases h:(yI s f).2.1=0
   .rw[ah h,h,a1 (vR st (ch st) (bk st) (pu st) (yI s f).1) J];rfl
   .rw[ag h,a2 _ h]
  .refine bB λk y=>?_
   obtain⟨a1,a2⟩:=fin k y;show aj.af (e==0) _ (k (e,st))=_;rw[aB (by simpa using he),a2 _ he]
 have hg:cy (hJ (pu s) f):=HY O.pf f;refine bB λV X=>?_
 show aj.af true (aj.ae (HX (bk s) f (lI s f).1 (kc (bk s) f)) λK=>V (K.2.1,vR s (ch s) K.1 (pu s) (ho s))) _=_;rw[aQ rfl,ai (anh O.hb (by omega) o1 o2)];show V ((uA s f).2.1,vR s (ch s) (uA s f).1 (pu s) (ho s))=_;by_cases W:(uA s f).2.1=0
 .rw[ah W,W];subst X;refine bB λk y=>?_
  obtain⟨a1,a2⟩:=F k y;have e2:oG (pu s) f=some (hJ (pu s) f):=IF (by omega)
  have one:(aj.ae (oG (pu s) f) λv11=>aj.ae (qE (pu s) f (lI s f).1 v11) λR=>k (R.2.1,vR s (ch s) (uA s f).1 R.1 (ho s)))=some (if(Dc s f).2.1=0 then(if(yI s f).2.1=0 then(vR s (Fi (ch s) f) (uA s f).1 (Dc s f).1 (yI s f).1,(lI s f).1,0,())else(IX,zUn,(yI s f).2.1,()))else(IX,zUn,(Dc s f).2.1,())):=by
   rw[ai e2,ai (M6 O.pf hg (by omega))];show k ((Dc s f).2.1,vR s (ch s) (uA s f).1 (Dc s f).1 (ho s))=_;by_cases h3:(Dc s f).2.1=0
   .rw[ah h3,h3,a1 (vR s (ch s) (uA s f).1 (Dc s f).1 (ho s)) rfl rfl];rfl
   .rw[ag h3,a2 _ h3]
  exact jN one one
 .rw[ag W];subst X;refine bB λk y=>?_
  obtain⟨a1,a2⟩:=F k y;show aj.af ((uA s f).2.1==0) _ (k ((uA s f).2.1,vR s (ch s) (uA s f).1 (pu s) (ho s)))=_;rw[aB (by simpa using W),a2 _ W]
theorem ZT(i:Nat)(j:0<i:=by omega)(h:i<9223372036854775807:=by omega):IntKind.i64.wrap ((i:Int)-1)=((i-1:Nat):Int):=by rw[bF _ (by omega)];omega
abbrev S:=List Int×Int
abbrev LO:Int := -9223372036854775808
abbrev HI:Int:=9223372036854775807
theorem yV{lo hi}{s}(h:(rd lo hi s).2.2=0):s.2=0:=ahi s.1 s.2 lo hi h
theorem Bv{lo hi}{s:S}(h:Bt s.1):Bt (rd lo hi s).2.1:=ZM s.1 s.2 lo hi h
theorem zJ{lo hi}{s:S}(hb:Bt s.1)(h:(rd lo hi s).2.2=0):s.1=Ed (fold (rd lo hi s).1)++(rd lo hi s).2.1/\tK (rd lo hi s).1:=Xg s.1 s.2 lo hi hb (yV h) h
theorem FX{lo hi}{s}:(rd lo hi s).2.1.length<=s.1.length:=by
 unfold rd vP;have hl:=ZN s.1 0 0;split
 .exact au _
 .rcases j:tZ 0 0 s.1 with⟨_|u,r,y⟩
  .rw[j]at hl;exact hl
  .rw[j]at hl;dsimp only;split
   .simp
   .exact hl
theorem I2{lo hi}{s}(h:(rd lo hi s).2.2=0):lo<=(rd lo hi s).1/\(rd lo hi s).1<=hi:=by
 have C:=yV h;unfold rd vP at h ⊢;rw[ag (by simpa using C)]at h ⊢;rcases j:tZ 0 0 s.1 with⟨_|u,r,F⟩
 .rw[j]at h;dsimp only at h;subst h;exact(M7 s.1 0 0 r j).elim
 .rw[j]at h;dsimp only at h ⊢;split at h
  .simp at h
  .rename_i y;rw[ag y];dsimp only;omega
theorem KR{lo hi}{s}(h:(rd lo hi s).2.2=0):rd LO HI s=rd lo hi s:=by
 have y:=yV h;unfold rd vP at h ⊢;rw[ag (by simpa using y)]at h;rw[ag (by simpa using y),ag (by simpa using y)];have j:=Xh s.1 0 0 (by decide);rcases F:tZ 0 0 s.1 with⟨_|u,r,H⟩
 .rfl
 .rw[F]at h j;have C:=aj3 u (j u rfl);unfold tK at C;dsimp only at h ⊢;split at h
  .simp at h
  .rename_i G;rw[ag G,ag (by unfold LO HI;omega)]
inductive Lt where|M|U|O|I|A|T|D|Q|P|N
instance:DecidableEq Lt:=λa b=>by cases a<;>cases b<;>first|exact isTrue rfl|exact isFalse (λh=>by cases h)
def Lt.code:Lt->Nat | .M=>77 | .U=>85 | .O=>79 | .I=>73 | .A=>65 | .T=>84 | .D=>68 | .Q=>81 | .P=>80 | .N=>78
def fe:Lt->cr->List Int
 | .M,c=>[c.2.2.1]
 | .U,c=>[c.2.2.2.1.1,c.2.2.2.1.2.1]
 | .O,c=>[c.2.2.2.2.1.1,c.2.2.2.2.1.2.1]
 | .I,c=>[c.2.2.2.2.2.1]
 | .A,c=>[c.2.2.2.2.2.2.1]
 | .T,c=>[c.2.2.2.2.2.2.2.1]
 | .D,c=>[c.2.2.2.2.2.2.2.2.1]
 | .Q,c=>[c.2.2.2.2.2.2.2.2.2.1]
 | .P,c=>[c.2.2.2.2.2.2.2.2.2.2.1]
 | .N,c=>(c.2.2.2.2.2.2.2.2.2.2.2.1.length:Int)::c.2.2.2.2.2.2.2.2.2.2.2.1
def g0(l:List Int):Int:=l.headD 0
def g1(l:List Int):Int:=l.tail.headD 0
def put:Lt->List Int->cr->cr
 | .M,v,c=>(c.1,c.2.1,g0 v,c.2.2.2)
 | .U,v,c=>(c.1,c.2.1,c.2.2.1,(g0 v,g1 v,()),c.2.2.2.2)
 | .O,v,c=>(c.1,c.2.1,c.2.2.1,c.2.2.2.1,(g0 v,g1 v,()),c.2.2.2.2.2)
 | .I,v,c=>(c.1,c.2.1,c.2.2.1,c.2.2.2.1,c.2.2.2.2.1,g0 v,c.2.2.2.2.2.2)
 | .A,v,c=>(c.1,c.2.1,c.2.2.1,c.2.2.2.1,c.2.2.2.2.1,c.2.2.2.2.2.1,g0 v,c.2.2.2.2.2.2.2)
 | .T,v,c=>(c.1,c.2.1,c.2.2.1,c.2.2.2.1,c.2.2.2.2.1,c.2.2.2.2.2.1,c.2.2.2.2.2.2.1,g0 v,c.2.2.2.2.2.2.2.2)
 | .D,v,c=>(c.1,c.2.1,c.2.2.1,c.2.2.2.1,c.2.2.2.2.1,c.2.2.2.2.2.1,c.2.2.2.2.2.2.1,c.2.2.2.2.2.2.2.1,g0 v,c.2.2.2.2.2.2.2.2.2)
 | .Q,v,c=>(c.1,c.2.1,c.2.2.1,c.2.2.2.1,c.2.2.2.2.1,c.2.2.2.2.2.1,c.2.2.2.2.2.2.1,c.2.2.2.2.2.2.2.1,c.2.2.2.2.2.2.2.2.1,g0 v,c.2.2.2.2.2.2.2.2.2.2)
 | .P,v,c=>(c.1,c.2.1,c.2.2.1,c.2.2.2.1,c.2.2.2.2.1,c.2.2.2.2.2.1,c.2.2.2.2.2.2.1,c.2.2.2.2.2.2.2.1,c.2.2.2.2.2.2.2.2.1,c.2.2.2.2.2.2.2.2.2.1,g0 v,c.2.2.2.2.2.2.2.2.2.2.2)
 | .N,v,c=>(c.1,c.2.1,c.2.2.1,c.2.2.2.1,c.2.2.2.2.1,c.2.2.2.2.2.1,c.2.2.2.2.2.2.1,c.2.2.2.2.2.2.2.1,c.2.2.2.2.2.2.2.2.1,c.2.2.2.2.2.2.2.2.2.1,c.2.2.2.2.2.2.2.2.2.2.1,v.tail,())
theorem ZO{L j}(h:L≠j)(v)(c):fe j (put L v c)=fe j c:=by cases L<;>cases j<;>first|exact absurd rfl h|rfl
def shape:Lt->List Int->Prop
 | .U,v=>v.length=2
 | .O,v=>v.length=2
 | .N,v=>∃l:List Int,v=(l.length:Int)::l
 |_,v=>v.length=1
theorem ax9{v:List Int}(h:v.length=1):∃a,v=[a]:=by
 match v,h with
 |[a],_=>exact⟨a,rfl⟩
theorem avx{v:List Int}(h:v.length=2):∃a b,v=[a,b]:=by
 match v,h with
 |[a,b],_=>exact⟨a,b,rfl⟩
theorem aj4{L:Lt}{v:List Int}(h:shape L v)(c:cr):fe L (put L v c)=v:=by
 cases L<;>first
  |(obtain⟨a,rfl⟩:=ax9 h;rfl)
  |(obtain⟨a,b,rfl⟩:=avx h;rfl)
  |(obtain⟨l,rfl⟩:=h;rfl)
def one(lo hi:Int)(s:S):List Int×S:=([(rd lo hi s).1],(rd lo hi s).2)
def two(lo hi:Int)(s:S):List Int×S:=([(rd lo hi s).1,(rd lo hi (rd lo hi s).2).1],(rd lo hi (rd lo hi s).2).2)
def M8:Nat->S->List Int->List Int×S
 |0,s,acc=>(acc,s)
 |n+1,s,acc=>if s.2=0 then M8 n (rd LO HI s).2 (acc++[(rd LO HI s).1])else(acc,s)
def nR:Nat->S->List Int->List Int×S
 |0,s,acc=>(acc,s)
 |n+1,s,acc=>nR n (rd LO HI s).2 (acc++[(rd LO HI s).1])
def FY(s:S):List Int×S:=((rd 0 32 s).1::(M8 (rd 0 32 s).1.toNat (rd 0 32 s).2 []).1,(M8 (rd 0 32 s).1.toNat (rd 0 32 s).2 []).2)
def aj5(s:S):List Int×S:=((rd 0 32 s).1::(nR (rd 0 32 s).1.toNat (rd 0 32 s).2 []).1,(nR (rd 0 32 s).1.toNat (rd 0 32 s).2 []).2)
def top:Lt->Int | .M=>8 | .U=>16 | .O=>16 | .I=>8 | .A=>4 | .T=>255 | .D=>1048576|_=>0
def tL:Lt->S->List Int×S
 | .U,s=>two 0 16 s
 | .O,s=>two 0 16 s
 | .Q,s=>one LO HI s
 | .P,s=>one LO HI s
 | .N,s=>FY s
 |L,s=>one 0 (top L) s
def aj6:Lt->S->List Int×S
 | .U,s=>two LO HI s
 | .O,s=>two LO HI s
 | .N,s=>aj5 s
 |_,s=>one LO HI s
def okV:Lt->List Int->Prop
 | .Q,_=>True
 | .P,_=>True
 | .N,v=>v.tail.length<=32
 |L,v=>∀x∈v,0<=x/\x<=top L
theorem ac6{lo hi}{s}(h:(one lo hi s).2.2=0):one LO HI s=one lo hi s/\(lo<=(rd lo hi s).1/\(rd lo hi s).1<=hi)/\s.2=0:=by unfold one at h ⊢;rw[KR h];exact⟨rfl,I2 h,yV h⟩
theorem asY{lo hi}{s}(h:(two lo hi s).2.2=0):two LO HI s=two lo hi s/\(lo<=(rd lo hi s).1/\(rd lo hi s).1<=hi)/\(lo<=(rd lo hi (rd lo hi s).2).1/\(rd lo hi (rd lo hi s).2).1<=hi)/\s.2=0:=by unfold two at h ⊢;have j:=yV h;rw[KR j,KR h];exact⟨rfl,I2 j,I2 h,yV j⟩
theorem M9:∀(n:Nat) (s:S) (acc:List Int),(M8 n s acc).2.2=0->s.2=0
 |0,s,acc,h=>h
 |n+1,s,acc,h=>by
  unfold M8 at h;split at h
  .assumption
  .exact h
theorem avy:∀(n:Nat) (s:S) (acc:List Int),(M8 n s acc).2.2=0->nR n s acc=M8 n s acc
 |0,s,acc,h=>rfl
 |n+1,s,acc,h=>by have j:=M9 (n+1) s acc h;unfold M8 at h;unfold M8 nR;rw[ah j]at h ⊢;exact avy n _ _ h
theorem ZP:∀(n:Nat) (s:S) (acc:List Int),Bt s.1->(M8 n s acc).2.2=0->∃l:List Int,(M8 n s acc).1=acc++l/\l.length=n/\s.1=oj l++(M8 n s acc).2.1/\∀x∈l,tK x
 |0,s,acc,hb,h=>⟨[],by simp[M8],rfl,by simp[M8,oj],by simp⟩
 |n+1,s,acc,hb,h=>by
  have C:=M9 (n+1) s acc h;unfold M8 at h ⊢;rw[ah C]at h ⊢;have y:=M9 n _ _ h;have⟨l,J,H,G,F⟩:=ZP n _ _ (Bv hb) h;have⟨c1,c2⟩:=zJ hb y;refine⟨(rd LO HI s).1::l,by rw[J];simp,by simp[H],?_,λx j=>?_⟩
  .rw[c1,G,show(rd LO HI s).1::l=[(rd LO HI s).1]++l from rfl,CS,xx,bn]
  .rcases aG.1 j with rfl|j
   .exact c2
   .exact F x j
theorem arB:∀(n:Nat) (s:S) (acc:List Int),Bt s.1->Bt (M8 n s acc).2.1
 |0,s,acc,hb=>hb
 |n+1,s,acc,hb=>by
  unfold M8;split
  .exact arB n _ _ (Bv hb)
  .exact hb
theorem aeX{L:Lt}{s:S}(h:(tL L s).2.2=0):aj6 L s=tL L s/\okV L (tL L s).1/\s.2=0:=by
 have y:∀hi:Int,(one 0 hi s).2.2=0->one LO HI s=one 0 hi s/\(∀x∈(one 0 hi s).1,0<=x/\x<=hi)/\s.2=0:=λhi h=>by have⟨G,F,C⟩:=ac6 h;exact⟨G,λx j=>by simp only[one,ax]at j;subst j;exact F,C⟩
 have a2:(two 0 16 s).2.2=0->two LO HI s=two 0 16 s/\(∀x∈(two 0 16 s).1,0<=x/\x<=16)/\s.2=0:=λh=>by
  have⟨G,F,C,R⟩:=asY h;refine⟨G,λx j=>?_,R⟩;simp only[two,aG,dN,lk]at j;rcases j with rfl|rfl
  .exact F
  .exact C
 cases L with
 |U=>exact a2 h
 |O=>exact a2 h
 |Q=>exact⟨rfl,trivial,(ac6 h).2.2⟩
 |P=>exact⟨rfl,trivial,(ac6 h).2.2⟩
 |N=>
  have H:=h;have V:=yV (M9 _ _ _ H);refine⟨by show aj5 s=FY s;unfold aj5 FY;rw[avy _ _ _ H],?_,V⟩;show(M8 (rd 0 32 s).1.toNat (rd 0 32 s).2 []).1.length<=32;have K:=I2 (M9 _ _ _ H)
  have key:∀(n:Nat) (s:S) (acc:List Int),(M8 n s acc).1.length<=acc.length+n:=by
   intro n;induction n with
   |zero=>intro s acc;simp[M8]
   |succ n J=>
    intro s acc;unfold M8;split
    .have:=J (rd LO HI s).2 (acc++[(rd LO HI s).1]);simp at this;omega
    .exact Nat.le_add_right _ _
  have:=key (rd 0 32 s).1.toNat (rd 0 32 s).2 [];simp at this;omega
 |M=>exact y 8 h
 |I=>exact y 8 h
 |A=>exact y 4 h
 |T=>exact y 255 h
 |D=>exact y 1048576 h
theorem ac7{L:Lt}{s:S}(hb:Bt s.1)(h:(tL L s).2.2=0):shape L (tL L s).1/\s.1=oj (tL L s).1++(tL L s).2.1/\(∀x∈(tL L s).1,tK x):=by
 have y:∀lo hi:Int,(one lo hi s).2.2=0->(one lo hi s).1.length=1/\s.1=oj (one lo hi s).1++(one lo hi s).2.1/\(∀x∈(one lo hi s).1,tK x):=λlo hi h=>by have⟨c1,c2⟩:=zJ hb h;refine⟨rfl,?_,λx j=>by simp only[one,ax]at j;subst j;exact c2⟩;unfold one;rw[xx];exact c1
 have a2:(two 0 16 s).2.2=0->(two 0 16 s).1.length=2/\s.1=oj (two 0 16 s).1++(two 0 16 s).2.1/\(∀x∈(two 0 16 s).1,tK x):=λh=>by
  have C:=yV h;have⟨c1,c2⟩:=zJ hb C;have⟨W,V⟩:=zJ (Bv hb) h;refine⟨rfl,?_,λx j=>?_⟩
  .unfold two;rw[show[(rd 0 16 s).1,(rd 0 16 (rd 0 16 s).2).1]=[(rd 0 16 s).1]++[(rd 0 16 (rd 0 16 s).2).1]from rfl,CS,xx,xx,bn];dsimp only;rw[<-W];exact c1
  .simp only[two,aG,dN,lk]at j;rcases j with rfl|rfl
   .exact c2
   .exact V
 cases L with
 |U=>exact a2 h
 |O=>exact a2 h
 |Q=>exact y _ _ h
 |P=>exact y _ _ h
 |N=>
  have F:=h;have C:=M9 _ _ _ F;have⟨c1,c2⟩:=zJ hb C;have H:=I2 C;have⟨l,R,G,X,K⟩:=ZP _ _ _ (Bv hb) F;have ev:(tL .N s).1=(l.length:Int)::l:=by show(rd 0 32 s).1::(M8 (rd 0 32 s).1.toNat (rd 0 32 s).2 []).1=_;rw[R,da,G];congr 1;omega
  refine⟨⟨l,ev⟩,?_,λx j=>?_⟩
  .have J:(tL .N s).1=[(rd 0 32 s).1]++l:=by rw[ev,G];show _::l=_::l;congr 1;omega
   rw[J,CS,xx,bn,c1];congr 1
  .rw[ev]at j;rcases aG.1 j with rfl|j
   .unfold tK;omega
   .exact K x j
 |M=>exact y _ _ h
 |I=>exact y _ _ h
 |A=>exact y _ _ h
 |T=>exact y _ _ h
 |D=>exact y _ _ h
theorem aeY{L:Lt}{s:S}(hb:Bt s.1):Bt (tL L s).2.1:=by
 cases L with
 |N=>exact arB _ _ _ (Bv hb)
 |U=>exact Bv (Bv hb)
 |O=>exact Bv (Bv hb)
 |_=>exact Bv hb
def zK:List Lt->S->cr->cr×S
 |[],s,c=>(c,s)
 |L::ls,s,c=>zK ls (tL L s).2 (put L (tL L s).1 c)
def aeZ:List Lt->S->cr->cr×S
 |[],s,c=>(c,s)
 |L::ls,s,c=>aeZ ls (aj6 L s).2 (put L (aj6 L s).1 c)
theorem Ri:∀(ls:List Lt) (s:S) (c:cr),(zK ls s c).2.2=0->s.2=0
 |[],s,c,h=>h
 |L::ls,s,c,h=>(aeX (Ri ls _ _ h)).2.2
theorem Na:∀(ls:List Lt) (s:S) (c:cr) (j:Lt),j∉ls->fe j (zK ls s c).1=fe j c
 |[],s,c,j,h=>rfl
 |L::ls,s,c,j,h=>by simp only[aG,not_or]at h;unfold zK;rw[Na ls _ _ j h.2,ZO (ga h.1)]
theorem afa:∀(ls:List Lt) (s:S) (c:cr),ls.Nodup->Bt s.1->(zK ls s c).2.2=0->
 aeZ ls s c=zK ls s c/\(∀L∈ls,okV L (fe L (zK ls s c).1)/\∀x∈fe L (zK ls s c).1,tK x)/\s.1=(ls.flatMap λL=>oj (fe L (zK ls s c).1))++(zK ls s c).2.1
 |[],s,c,y,hb,h=>⟨rfl,by simp,by simp[zK]⟩
 |L::ls,s,c,y,hb,h=>by
  have j:=fw.1 y;have C:=Ri ls _ _ h;have⟨p1,p2,p3⟩:=aeX C;have⟨q1,G,F⟩:=ac7 hb C;have⟨J,H,R⟩:=afa ls (tL L s).2 (put L (tL L s).1 c) j.2 (aeY hb) h;have ev:fe L (zK (L::ls) s c).1=(tL L s).1:=by show fe L (zK ls (tL L s).2 (put L (tL L s).1 c)).1=_;rw[Na ls _ _ L j.1,aj4 q1]
  refine⟨by show aeZ ls (aj6 L s).2 (put L (aj6 L s).1 c)=_;rw[p1];exact J,λK hL=>?_,?_⟩
  .rcases aG.1 hL with rfl|hL
   .rw[ev];exact⟨p2,F⟩
   .exact H K hL
  .rw[cp,ev,bn,G];congr 1
def flT:List (List Lt):=[[],[.M,.Q],[.I,.Q,.P,.N],[.A,.P,.Q],[.U,.M,.D],[.U],[.M,.Q],[.U,.O,.I,.Q,.P],[.U,.O,.I,.Q,.P],[.D],[.D],[.D],[.U,.I,.N],[.D,.O,.Q],[.I,.P],[.A,.P],[],[.U,.A,.T,.Q],[.U,.A,.T,.Q],[.U,.O],[.U,.O],[.M,.Q],[.U],[.M],[.U,.O,.I,.Q,.P],[.M],[.U],[.U],[.U],[.U],[],[.M]]
def fl(op:Int):List Lt:=if 1<=op/\op<=31 then(flT[op.toNat]?).getD []else[]
def str(ls:List Lt):ByteArray:=ByteArray.mk (Array.mk (ls.map λL=>UInt8.ofNat L.code))
theorem ac8{op}(h:¬(1<=op/\op<=31)):fl op=[]:=by unfold fl;rw[ag h]
theorem Rj{op}(h:1<=op/\op<=31):∃n:Nat,op=(n:Int)/\(n=1\/n=2\/n=3\/n=4\/n=5\/n=6\/n=7\/n=8\/n=9\/n=10\/n=11\/n=12\/n=13\/n=14\/n=15\/n=16\/n=17\/n=18\/n=19\/n=20\/n=21\/n=22\/n=23\/n=24\/n=25\/n=26\/n=27\/n=28\/n=29\/n=30\/n=31):=by obtain⟨n,rfl⟩:=cm (show 0<=op by omega);exact⟨n,rfl,by omega⟩
theorem Vt(op):ac9 op=some (str (fl op)):=by
 by_cases h:1<=op/\op<=31
 .obtain⟨n,rfl,j⟩:=Rj h;rcases j with rfl|rfl|rfl|rfl|rfl|rfl|rfl|rfl|rfl|rfl|rfl|rfl|rfl|rfl|rfl|rfl|rfl|rfl|rfl|rfl|rfl|rfl|rfl|rfl|rfl|rfl|rfl|rfl|rfl|rfl|rfl<;>rfl
 .rw[ac8 h];have e:∀k:Int,(1<=k/\k<=31)->(op==k)=false:=λk y=>by simp;omega
  show qF aj op=_;unfold qF;simp only[e 1 (by omega),e 2 (by omega),e 3 (by omega),e 4 (by omega),e 5 (by omega),e 6 (by omega),e 7 (by omega),e 8 (by omega),e 9 (by omega),e 10 (by omega),e 11 (by omega),e 12 (by omega),e 13 (by omega),e 14 (by omega),e 15 (by omega),e 16 (by omega),e 17 (by omega),e 18 (by omega),e 19 (by omega),e 20 (by omega),e 21 (by omega),e 22 (by omega),e 23 (by omega),e 24 (by omega),e 25 (by omega),e 26 (by omega),e 27 (by omega),e 28 (by omega),e 29 (by omega),e 30 (by omega),e 31 (by omega),aj7,pE];rfl
theorem aj8(op):(fl op).Nodup:=by
 by_cases h:1<=op/\op<=31
 .obtain⟨n,rfl,j⟩:=Rj h;rcases j with rfl|rfl|rfl|rfl|rfl|rfl|rfl|rfl|rfl|rfl|rfl|rfl|rfl|rfl|rfl|rfl|rfl|rfl|rfl|rfl|rfl|rfl|rfl|rfl|rfl|rfl|rfl|rfl|rfl|rfl|rfl<;>decide
 .rw[ac8 h];exact List.nodup_nil
theorem acA(op):(fl op).length<=5:=by
 by_cases h:1<=op/\op<=31
 .obtain⟨n,rfl,j⟩:=Rj h;rcases j with rfl|rfl|rfl|rfl|rfl|rfl|rfl|rfl|rfl|rfl|rfl|rfl|rfl|rfl|rfl|rfl|rfl|rfl|rfl|rfl|rfl|rfl|rfl|rfl|rfl|rfl|rfl|rfl|rfl|rfl|rfl<;>decide
 .rw[ac8 h];simp
theorem Rk(ls):(str ls).size=ls.length:=by show(ls.map _).toArray.size=_;simp
theorem aoD(L:Lt):L.code<128:=by cases L<;>decide
theorem aoE(L:Lt):(UInt8.ofNat L.code).toNat=L.code:=by cases L<;>rfl
theorem ax7(ls)(i)(h:i<ls.length):(str ls)[i]?=some (UInt8.ofNat (ls[i]).code):=by
 have hs:i<(str ls).size:=by rw[Rk];exact h
 rw[getElem?_pos (str ls) i hs];congr 1;exact(by simp:((ls.map λL=>UInt8.ofNat L.code).toArray)[i]'(by simpa using h)=UInt8.ofNat (ls[i]).code)
theorem aj9 (ls : List Lt) (i : Nat) (h : i < ls.length) : (str ls).get! i = UInt8.ofNat (ls[i]).code := by
  show (ls.map λL => UInt8.ofNat L.code).toArray[i]! = _
  simp [h]
theorem avz(ls)(i:Nat)(h:i<ls.length):Utf8.decode (str ls) i=((ls[i]).code,1):=by unfold Utf8.decode;simp only[gP,aj9 ls i h,aoE];rw[ah (by have:=aoD ls[i];omega)]
theorem ajA{β}(ls)(i:Nat)(h:i<ls.length)(K:Int->Int->Option β)(N:Option β):aj.yW (str ls) (i:Int) K N=K ((ls[i]).code:Int) ((i+1:Nat):Int):=by dsimp only;unfold ZQ;rw[aP,ap (by rw[Rk];exact h),avz ls i h];rfl
theorem ajB{β}(ls)(i:Nat)(h:ls.length<=i)(K:Int->Int->Option β)(N:Option β):aj.yW (str ls) (i:Int) K N=N:=by dsimp only;unfold ZQ;rw[aP,an (by rw[Rk];omega)];rfl
def okS(s:S):Prop:=Bt s.1/\s.1.length<9223372036854775807
theorem Rl{lo hi:Int}{s:S}(h:okS s):okS (rd lo hi s).2:=⟨Bv h.1,Nat.lt_of_le_of_lt FX h.2⟩
theorem asZ{hi}{s}(h:0<=hi):0<=(rd 0 hi s).1/\(rd 0 hi s).1<=hi:=by
 unfold rd vP;split
 .exact⟨ky _,h⟩
 .rcases tZ 0 0 s.1 with⟨_|u,r,j⟩
  .exact⟨ky _,h⟩
  .dsimp only;split
   .exact⟨ky _,h⟩
   .dsimp only;omega
theorem yX{j:Int}{s:S}(h:okS s):ahj true s.1 s.2 j=some ((rd 0 j s).1,true,(rd 0 j s).2.1,(rd 0 j s).2.2,()):=by show jV aj true s.1 s.2 j=_;unfold jV;rw[dQ (Rm h.1 h.2)]
theorem ZR{s}(h:okS s):ahk true s.1 s.2=some (((rd 0 16 s).1,(rd 0 16 (rd 0 16 s).2).1,()),true,(rd 0 16 (rd 0 16 s).2).2.1,(rd 0 16 (rd 0 16 s).2).2.2,()):=by show wg aj true s.1 s.2=_;unfold wg;rw[dQ (yX h)];exact(dQ (yX (Rl h)) _).trans rfl
theorem ahl{s}(h:okS s):ZS true s.1 s.2 32=some ((FY s).1.tail,true,(FY s).2.1,(FY s).2.2,()):=by
 show ua aj true s.1 s.2 32=_;unfold ua;rw[ub,dQ (yX h)];have J:=asZ (hi:=32) (s:=s) (by omega);refine(fR (λz=>z.1.toNat) (λz=>∃(n:Nat) (t:S) (acc:List Int),z=((n:Int),true,t.1,t.2,acc,())/\okS t/\acc.length+n<=32/\M8 n t acc=((FY s).1.tail,(FY s).2)) (λ_=>some ((FY s).1.tail,true,(FY s).2.1,(FY s).2.2,())) ⟨(rd 0 32 s).1.toNat,(rd 0 32 s).2,[],by rw[rX J.1],Rl h,by simp;omega,rfl⟩ (by dsimp only;omega) ?_);rintro _ ⟨n,t,acc,rfl,G,hl,j⟩ H K;show aj.af (decide ((0:Int)<(n:Int))) _ _=_;cases n with
 |zero=>rw[aB (by rfl)];unfold M8 at j;have C:=bQ (·.1) j;have y:=bQ (·.2) j;dsimp only at C y;rw[<-C,<-y]
 |succ n=>
  rw[eA (by omega)];refine(dQ (show Fe true t.1 t.2=some (t.2,true,t.1,t.2,())from rfl) _).trans ?_;unfold M8 at j;by_cases F:t.2=0
  .rw[aQ (by simp[F])];rw[ah F]at j;refine(dQ (Rm G.1 G.2) _).trans ?_;show aj.bg (acc.length+1) 8 _=_;rw[c9];dsimp only;rw[ZT (n+1)];exact K _ ⟨n,(rd LO HI t).2,_,rfl,Rl G,by simp;omega,j⟩ (by dsimp only;omega)
  .rw[aB (by simp[F])];rw[ag F]at j;have C:=bQ (·.1) j;have y:=bQ (·.2) j;dsimp only at C y;dsimp only;rw[<-C,<-y]
def av0(c:cr):Int×Int×Int×Int×Int×Int×Int×Int×Int×Int×Int×Int×Int×List Int×Unit:=(c.1,c.2.1,c.2.2.1,c.2.2.2.1.1,c.2.2.2.1.2.1,c.2.2.2.2.1.1,c.2.2.2.2.1.2.1,c.2.2.2.2.2.1,c.2.2.2.2.2.2.1,c.2.2.2.2.2.2.2.1,c.2.2.2.2.2.2.2.2.1,c.2.2.2.2.2.2.2.2.2.1,c.2.2.2.2.2.2.2.2.2.2.1,c.2.2.2.2.2.2.2.2.2.2.2.1,())
theorem ata(L:Lt){s:S}(h:okS s)(c:cr):
 ajC true s.1 s.2 c.1 c.2.1 c.2.2.1 c.2.2.2.1.1 c.2.2.2.1.2.1 c.2.2.2.2.1.1 c.2.2.2.2.1.2.1 c.2.2.2.2.2.1 c.2.2.2.2.2.2.1 c.2.2.2.2.2.2.2.1 c.2.2.2.2.2.2.2.2.1 c.2.2.2.2.2.2.2.2.2.1 c.2.2.2.2.2.2.2.2.2.2.1 c.2.2.2.2.2.2.2.2.2.2.2.1 (L.code:Int)=some ((),true,(tL L s).2.1,(tL L s).2.2,av0 (put L (tL L s).1 c)):=by
 show CT aj true s.1 s.2 _ _ _ _ _ _ _ _ _ _ _ _ _ _ (L.code:Int)=_;unfold CT;cases L with
 |M=>rw[aQ (by rfl),dQ (yX h)];rfl
 |U=>rw[aB (by rfl),aQ (by rfl),dQ (ZR h)];rfl
 |O=>rw[aB (by rfl),aB (by rfl),aQ (by rfl),dQ (ZR h)];rfl
 |I=>rw[aB (by rfl),aB (by rfl),aB (by rfl),aQ (by rfl),dQ (yX h)];rfl
 |A=>rw[aB (by rfl),aB (by rfl),aB (by rfl),aB (by rfl),aQ (by rfl),dQ (yX h)];rfl
 |T=>rw[aB (by rfl),aB (by rfl),aB (by rfl),aB (by rfl),aB (by rfl),aQ (by rfl),dQ (yX h)];rfl
 |D=>rw[aB (by rfl),aB (by rfl),aB (by rfl),aB (by rfl),aB (by rfl),aB (by rfl),aQ (by rfl),dQ (yX h)];rfl
 |Q=>rw[aB (by rfl),aB (by rfl),aB (by rfl),aB (by rfl),aB (by rfl),aB (by rfl),aB (by rfl),aQ (by rfl),dQ (Rm h.1 h.2)];rfl
 |P=>rw[aB (by rfl),aB (by rfl),aB (by rfl),aB (by rfl),aB (by rfl),aB (by rfl),aB (by rfl),aB (by rfl),aQ (by rfl),dQ (Rm h.1 h.2)];rfl
 |N=>rw[aB (by rfl),aB (by rfl),aB (by rfl),aB (by rfl),aB (by rfl),aB (by rfl),aB (by rfl),aB (by rfl),aB (by rfl),aQ (by rfl),dQ (ahl h)];rfl
theorem ajD:∀(n:Nat) (s:S) (acc:List Int),(M8 n s acc).2.1.length<=s.1.length
 |0,s,acc=>au _
 |n+1,s,acc=>by
  unfold M8;split
  .exact bU (ajD n _ _) FX
  .exact au _
theorem ajE(L)(s):(tL L s).2.1.length<=s.1.length:=by
 cases L with
 |N=>exact bU (ajD _ _ _) FX
 |U=>exact bU FX FX
 |O=>exact bU FX FX
 |_=>exact FX
theorem aoF{L:Lt}{s:S}(h:okS s):okS (tL L s).2:=⟨aeY h.1,Nat.lt_of_le_of_lt (ajE L s) h.2⟩
def afb:cr:=(0,0,0,(0,0,()),(0,0,()),0,0,0,0,0,0,[],())
def op0(op j:Int):cr:=(op,j,afb.2.2)
def ZU(r:cr×S):cr×Int×Unit:=if Xi r.2≠0 then(afb,3,())else(r.1,0,())
def o8(b:List Int):cr×S:=zK (fl (rd 1 31 (b,0)).1) (rd 0 8 (rd 1 31 (b,0)).2).2 (op0 (rd 1 31 (b,0)).1 (rd 0 8 (rd 1 31 (b,0)).2).1)
theorem ahm{ls:List Lt}{i:Nat}(h:i<ls.length)(s:S)(c:cr):zK (ls.drop i) s c=zK (ls.drop (i+1)) (tL ls[i] s).2 (put ls[i] (tL ls[i] s).1 c):=by rw[cn h];rfl
abbrev ZC:=Bool×List Int×Int×Int×Int×Int×Int×Int×Int×Int×Int×Int×Int×Int×Int×Int×List Int×(ByteArray×Int×Unit)×Unit
theorem atb{b:List Int}(hb:Bt b)(hl:b.length<=100000000):ajF b=some (ZU (o8 b)):=by
 show CU aj b=_;unfold CU;have F:okS (b,0):=⟨hb,by dsimp only;omega⟩;rw[dQ (atc hl)];refine(dQ (Rm F.1 F.2) _).trans ?_;have J:=Rl (lo:=1) (hi:=31) F;refine(dQ (yX J) _).trans ?_;have V:=Rl (lo:=0) (hi:=8) J;refine(dQ (Vt _) _).trans ?_;unfold o8;have K:=acA (rd 1 31 (b,0)).1;generalize fl (rd 1 31 (b,0)).1=ls at *;refine(fR (λz=>ls.length-z.2.2.2.2.2.2.2.2.2.2.2.2.2.2.2.2.2.1.2.1.toNat) (λz=>∃(i:Nat) (t:S) (c:cr),z=(true,t.1,t.2,c.1,c.2.1,c.2.2.1,c.2.2.2.1.1,c.2.2.2.1.2.1,c.2.2.2.2.1.1,c.2.2.2.2.1.2.1,c.2.2.2.2.2.1,c.2.2.2.2.2.2.1,c.2.2.2.2.2.2.2.1,c.2.2.2.2.2.2.2.2.1,c.2.2.2.2.2.2.2.2.2.1,c.2.2.2.2.2.2.2.2.2.2.1,c.2.2.2.2.2.2.2.2.2.2.2.1,(str ls,(i:Int),()),())/\i<=ls.length/\okS t/\zK (ls.drop i) t c=zK ls (rd 0 8 (rd 1 31 (b,0)).2).2 (op0 (rd 1 31 (b,0)).1 (rd 0 8 (rd 1 31 (b,0)).2).1)) (λ_=>some (ZU (zK ls (rd 0 8 (rd 1 31 (b,0)).2).2 (op0 (rd 1 31 (b,0)).1 (rd 0 8 (rd 1 31 (b,0)).2).1)))) ⟨0,(rd 0 8 (rd 1 31 (b,0)).2).2,op0 (rd 1 31 (b,0)).1 (rd 0 8 (rd 1 31 (b,0)).2).1,rfl,by omega,V,rfl⟩ ?_ ?_)
 .have:ls.length<18446744073709551616:=by omega
  omega
 .rintro _ ⟨i,t,c,rfl,hi,H,y⟩ G R;show aj.yW (str ls) (i:Int) _ _=_;by_cases j:i<ls.length
  .rw[ajA ls i j];refine(dQ (ata _ H c) _).trans ?_;rw[ahm j]at y;exact R _ ⟨i+1,(tL ls[i] t).2,put ls[i] (tL ls[i] t).1 c,rfl,by omega,aoF H,y⟩ (by dsimp only;omega)
  .obtain rfl:i=ls.length:=by omega
   rw[ajB ls _ (au _)];rw[fu]at y;rw[<-y];refine(dQ (atd t) _).trans ?_;unfold ZU;show aj.af (Xi t != 0) _ _=_;by_cases C:Xi t=0
   .rw[aB (by simp[C]),ag (by simpa[zK]using C)];rfl
   .rw[aQ (by simp[C]),ah (by simpa[zK]using C)];rfl
def wi(n j:Int)(b:Bool):Bool:=decide (n=0)||(b&&(decide (0<n)&&decide (n<=j)))
def hs(c:cr)(L:Lt):Bool:=decide (L∈fl c.1)
def aoG(c:cr):Bool:=(!(decide (c.1<1)||decide (31<c.1)||decide (c.2.1<0)||decide (8<c.2.1)))&&(wi c.2.2.1 8 (hs c .M)&&(wi c.2.2.2.2.2.1 8 (hs c .I)&&(wi c.2.2.2.2.2.2.1 4 (hs c .A)&&(wi c.2.2.2.2.2.2.2.1 255 (hs c .T)&&wi c.2.2.2.2.2.2.2.2.1 1048576 (hs c .D)))))&&(wi c.2.2.2.1.1 16 (hs c .U)&&(wi c.2.2.2.1.2.1 16 (hs c .U)&&(wi c.2.2.2.2.1.1 16 (hs c .O)&&wi c.2.2.2.2.1.2.1 16 (hs c .O))))&&((decide (c.2.2.2.2.2.2.2.2.2.1=0)||hs c .Q)&&(decide (c.2.2.2.2.2.2.2.2.2.2.1=0)||hs c .P))&&(decide (c.2.2.2.2.2.2.2.2.2.2.2.1.length=0)||(hs c .N&&decide (c.2.2.2.2.2.2.2.2.2.2.2.1.length<=32)))
def arC(b:List Int):cr×S:=aeZ (fl (rd LO HI (b,0)).1) (rd LO HI (rd LO HI (b,0)).2).2 (op0 (rd LO HI (b,0)).1 (rd LO HI (rd LO HI (b,0)).2).1)
def mK(c:cr):List Int:=c.2.2.2.2.2.2.2.2.2.2.2.1
def ate(c:cr)(l:List Int):cr:=(c.1,c.2.1,c.2.2.1,c.2.2.2.1,c.2.2.2.2.1,c.2.2.2.2.2.1,c.2.2.2.2.2.2.1,c.2.2.2.2.2.2.2.1,c.2.2.2.2.2.2.2.2.1,c.2.2.2.2.2.2.2.2.2.1,c.2.2.2.2.2.2.2.2.2.2.1,l,())
theorem atf(L)(v)(c):(put L v c).1=c.1/\(put L v c).2.1=c.2.1:=by cases L<;>exact⟨rfl,rfl⟩
theorem afc:∀(ls:List Lt) (s:S) (c:cr),(zK ls s c).1.1=c.1/\(zK ls s c).1.2.1=c.2.1
 |[],s,c=>⟨rfl,rfl⟩
 |L::ls,s,c=>by have y:=afc ls (tL L s).2 (put L (tL L s).1 c);have j:=atf L (tL L s).1 c;exact⟨y.1.trans j.1,y.2.trans j.2⟩
def zeroV(L:Lt)(c:cr):Prop:=∀x∈fe L c,x=0
theorem ajG(L)(a b):zeroV L (op0 a b):=by intro x j;cases L<;>simp[fe,op0,afb]at j<;>first|exact j|(rcases j with h|h<;>exact h)
theorem axA{n t}:wi n t true=true↔0<=n/\n<=t\/n=0:=by unfold wi;simp;omega
theorem axB{n t}:wi n t false=true↔n=0:=by unfold wi;simp
theorem ajH(c):aoG c=true↔(1<=c.1/\c.1<=31)/\(0<=c.2.1/\c.2.1<=8)/\(∀L,L∈fl c.1->okV L (fe L c))/\(∀L,L∉fl c.1->zeroV L c):=by
 have w1:∀(L:Lt) (n t:Int),0<=t->(wi n t (hs c L)=true↔(L∈fl c.1->0<=n/\n<=t)/\(L∉fl c.1->n=0)):=by
  intro L n t ht;unfold hs;by_cases h:L∈fl c.1
  .rw[ap h,axA];simp only[h,true_implies,not_true,false_implies,nJ];omega
  .rw[an h,axB];simp only[h,false_implies,not_false_iff,true_implies,true_and]
 have w2:∀(L:Lt) (p:Bool),(p||hs c L)=true↔(L∉fl c.1->p=true):=by
  intro L p;unfold hs;by_cases h:L∈fl c.1
  .simp[h]
  .simp[h]
 unfold aoG;simp only[aD,w1 _ _ 8 (by omega),w1 _ _ 4 (by omega),w1 _ _ 255 (by omega),w1 _ _ 1048576 (by omega),w1 _ _ 16 (by omega),w2,jy,nK,oY,bc]
 have wn:(decide (c.2.2.2.2.2.2.2.2.2.2.2.1.length=0)||(hs c .N&&decide (c.2.2.2.2.2.2.2.2.2.2.2.1.length<=32)))=true↔(Lt.N∈fl c.1->c.2.2.2.2.2.2.2.2.2.2.2.1.length<=32)/\(Lt.N∉fl c.1->c.2.2.2.2.2.2.2.2.2.2.2.1.length=0):=by
  unfold hs;by_cases h:Lt.N∈fl c.1
  .rw[ap h];simp only[CO,fv,bc,h,true_implies,not_true,false_implies,nJ];omega
  .simp[h]
 rw[wn];constructor
 .rintro⟨⟨⟨⟨⟨⟨⟨K,h2⟩,C⟩,y⟩,W,X,hA,R,Y⟩,G,F,J,H⟩,hQ,hP⟩,V⟩;refine⟨by omega,by omega,λL hL=>?_,λL hL=>?_⟩
  .cases L with
   |M=>intro x j;simp only[fe,ax]at j;subst j;exact W.1 hL
   |I=>intro x j;simp only[fe,ax]at j;subst j;exact X.1 hL
   |A=>intro x j;simp only[fe,ax]at j;subst j;exact hA.1 hL
   |T=>intro x j;simp only[fe,ax]at j;subst j;exact R.1 hL
   |D=>intro x j;simp only[fe,ax]at j;subst j;exact Y.1 hL
   |U=>intro x j;simp only[fe,aG,dN,lk]at j;rcases j with rfl|rfl;exact G.1 hL;exact F.1 hL
   |O=>intro x j;simp only[fe,aG,dN,lk]at j;rcases j with rfl|rfl;exact J.1 hL;exact H.1 hL
   |Q=>trivial
   |P=>trivial
   |N=>exact V.1 hL
  .intro x j;cases L with
   |M=>simp only[fe,ax]at j;subst j;exact W.2 hL
   |I=>simp only[fe,ax]at j;subst j;exact X.2 hL
   |A=>simp only[fe,ax]at j;subst j;exact hA.2 hL
   |T=>simp only[fe,ax]at j;subst j;exact R.2 hL
   |D=>simp only[fe,ax]at j;subst j;exact Y.2 hL
   |U=>simp only[fe,aG,dN,lk]at j;rcases j with rfl|rfl;exact G.2 hL;exact F.2 hL
   |O=>simp only[fe,aG,dN,lk]at j;rcases j with rfl|rfl;exact J.2 hL;exact H.2 hL
   |Q=>simp only[fe,ax]at j;subst j;exact hQ hL
   |P=>simp only[fe,ax]at j;subst j;exact hP hL
   |N=>have h0:=V.2 hL;have K:=dt.1 h0;simp only[fe,K,dB,ax]at j;simpa using j
 .rintro⟨K,h2,C,y⟩;have one:∀(L:Lt) (n:Int),fe L c=[n]->(okV L (fe L c)->0<=n/\n<=top L)->(L∈fl c.1->0<=n/\n<=top L)/\(L∉fl c.1->n=0):=λL n hv ho=>⟨λh=>ho (C L h),λh=>y L h n (by rw[hv];simp)⟩
  refine⟨⟨⟨⟨⟨⟨⟨by omega,by omega⟩,by omega⟩,by omega⟩,?_,?_,?_,?_,?_⟩,?_,?_,?_,?_⟩,?_,?_⟩,?_⟩
  .exact one .M _ rfl λh=>h _ (by simp[fe])
  .exact one .I _ rfl λh=>h _ (by simp[fe])
  .exact one .A _ rfl λh=>h _ (by simp[fe])
  .exact one .T _ rfl λh=>h _ (by simp[fe])
  .exact one .D _ rfl λh=>h _ (by simp[fe])
  .exact⟨λh=>C .U h _ (by simp[fe]),λh=>y .U h _ (by simp[fe])⟩
  .exact⟨λh=>C .U h _ (by simp[fe]),λh=>y .U h _ (by simp[fe])⟩
  .exact⟨λh=>C .O h _ (by simp[fe]),λh=>y .O h _ (by simp[fe])⟩
  .exact⟨λh=>C .O h _ (by simp[fe]),λh=>y .O h _ (by simp[fe])⟩
  .exact λh=>y .Q h _ (by simp[fe])
  .exact λh=>y .P h _ (by simp[fe])
  .refine⟨λh=>C .N h,λh=>?_⟩;have:=y .N h (c.2.2.2.2.2.2.2.2.2.2.2.1.length:Int) (by simp[fe]);omega
theorem atg{s}(h:Xi s=0):s.2=0/\s.1=[]:=by
 unfold Xi at h;split at h
 .rename_i j;exact absurd h j
 .rename_i j;split at h
  .cases h
  .rename_i y;exact⟨by simpa using j,dt.1 (by omega)⟩
theorem aoH{b}(hb:Bt b)(h:Xi (o8 b).2=0):arC b=o8 b/\aoG (o8 b).1=true/\
 b=oj [(o8 b).1.1,(o8 b).1.2.1]++((fl (o8 b).1.1).flatMap λL=>oj (fe L (o8 b).1))/\(tK (o8 b).1.1/\tK (o8 b).1.2.1/\∀L,∀x∈fe L (o8 b).1,tK x)/\(mK (o8 b).1).length<=32:=by
 have⟨V,e1⟩:=atg h;have ho:=afc (fl (rd 1 31 (b,0)).1) (rd 0 8 (rd 1 31 (b,0)).2).2 (op0 (rd 1 31 (b,0)).1 (rd 0 8 (rd 1 31 (b,0)).2).1);have F:=Ri _ _ _ V;have K:=yV F;have fA:=KR K;have fB:=KR F;have iA:=I2 K;have iB:=I2 F;have⟨cA,X⟩:=zJ (s:=(b,0)) hb K;have⟨cB,W⟩:=zJ (s:=(rd 1 31 (b,0)).2) (Bv (s:=(b,0)) hb) F;have⟨r1,G,Y⟩:=afa (fl (rd 1 31 (b,0)).1) (rd 0 8 (rd 1 31 (b,0)).2).2 (op0 (rd 1 31 (b,0)).1 (rd 0 8 (rd 1 31 (b,0)).2).1) (aj8 _) (Bv (s:=(rd 1 31 (b,0)).2) (Bv (s:=(b,0)) hb)) V;have j:(o8 b).1.1=(rd 1 31 (b,0)).1:=ho.1;have y:(o8 b).1.2.1=(rd 0 8 (rd 1 31 (b,0)).2).1:=ho.2;have H:∀L,L∉fl (rd 1 31 (b,0)).1->zeroV L (o8 b).1:=λL hL=>by unfold zeroV;rw[show fe L (o8 b).1=fe L (op0 (rd 1 31 (b,0)).1 (rd 0 8 (rd 1 31 (b,0)).2).1)from Na _ _ _ L hL];exact ajG L _ _
 have J:aoG (o8 b).1=true:=by
  refine(ajH _).2 ⟨by rw[j];exact iA,by rw[y];exact iB,?_,?_⟩
  .rw[j];exact λL hL=>(G L hL).1
  .rw[j];exact H
 refine⟨?_,J,?_,⟨by rw[j];exact X,by rw[y];exact W,λL x R=>?_⟩,?_⟩
 .unfold arC;rw[fA,fB];exact r1
 .rw[j,y,show[(rd 1 31 (b,0)).1,(rd 0 8 (rd 1 31 (b,0)).2).1]=[(rd 1 31 (b,0)).1]++[(rd 0 8 (rd 1 31 (b,0)).2).1]from rfl,CS,xx,xx];have C:(rd 0 8 (rd 1 31 (b,0)).2).2.1=((fl (rd 1 31 (b,0)).1).flatMap λL=>oj (fe L (o8 b).1))++(o8 b).2.1:=Y;rw[e1,cz]at C;rw[<-C,bn,<-cB];exact cA
 .by_cases hL:L∈fl (rd 1 31 (b,0)).1
  .exact(G L hL).2 x R
  .rw[H L hL x R];unfold tK;omega
 .by_cases hL:Lt.N∈fl (rd 1 31 (b,0)).1
  .exact(G .N hL).1
  .have:=H .N hL ((mK (o8 b).1).length:Int) (by simp[fe,mK]);omega
def Un(c:cr):Prop:=tK c.1/\tK c.2.1/\(∀L,∀x∈fe L c,tK x)/\(mK c).length<=1000
def FZ(c:cr):List Int:=oj [c.1,c.2.1]++((fl c.1).flatMap λL=>oj (fe L c))
theorem ajI{u}{b}(C:tK u.1)(y:tK u.2.1)(hb:b.length<=1000000):ajJ true b u=some ((),true,b++oj [u.1,u.2.1],()):=by show zq aj true b u=_;unfold zq;rw[dQ (Qn (l:=[u.1,u.2.1]) (by intro n j;simp at j;rcases j with rfl|rfl;exact C;exact y) (by simp) (by omega))]
theorem aoI{c}(L){b}(C:Un c)(hb:b.length<=1000000):ahn true b c (L.code:Int)=some ((),true,b++oj (fe L c),()):=by
 show wh aj true b c (L.code:Int)=_;unfold wh;have hv:=C.2.2.1 L;have one:∀x:Int,tK x->yl true b (x::[])=some ((),true,b++oj [x],()):=λx F=>Qn (l:=[x]) (by intro n j;simp at j;subst j;exact F) (by simp) (by omega)
 cases L with
 |M=>rw[aQ (by rfl),dQ (one _ (hv _ (by simp[fe])))];rfl
 |U=>rw[aB (by rfl),aQ (by rfl),dQ (ajI (hv _ (by simp[fe])) (hv _ (by simp[fe])) hb)];rfl
 |O=>rw[aB (by rfl),aB (by rfl),aQ (by rfl),dQ (ajI (hv _ (by simp[fe])) (hv _ (by simp[fe])) hb)];rfl
 |I=>rw[aB (by rfl),aB (by rfl),aB (by rfl),aQ (by rfl),dQ (one _ (hv _ (by simp[fe])))];rfl
 |A=>rw[aB (by rfl),aB (by rfl),aB (by rfl),aB (by rfl),aQ (by rfl),dQ (one _ (hv _ (by simp[fe])))];rfl
 |T=>rw[aB (by rfl),aB (by rfl),aB (by rfl),aB (by rfl),aB (by rfl),aQ (by rfl),dQ (one _ (hv _ (by simp[fe])))];rfl
 |D=>rw[aB (by rfl),aB (by rfl),aB (by rfl),aB (by rfl),aB (by rfl),aB (by rfl),aQ (by rfl),dQ (one _ (hv _ (by simp[fe])))];rfl
 |Q=>rw[aB (by rfl),aB (by rfl),aB (by rfl),aB (by rfl),aB (by rfl),aB (by rfl),aB (by rfl),aQ (by rfl),dQ (one _ (hv _ (by simp[fe])))];rfl
 |P=>rw[aB (by rfl),aB (by rfl),aB (by rfl),aB (by rfl),aB (by rfl),aB (by rfl),aB (by rfl),aB (by rfl),aQ (by rfl),dQ (one _ (hv _ (by simp[fe])))];rfl
 |N=>
  rw[aB (by rfl),aB (by rfl),aB (by rfl),aB (by rfl),aB (by rfl),aB (by rfl),aB (by rfl),aB (by rfl),aB (by rfl),aQ (by rfl),dQ (one _ (hv _ (by simp[fe])))];have j:=C.2.2.2;unfold mK at j;show aj.ae (yl true (b++oj [(c.2.2.2.2.2.2.2.2.2.2.2.1.length:Int)]) c.2.2.2.2.2.2.2.2.2.2.2.1) _=_;have G:(oj [(c.2.2.2.2.2.2.2.2.2.2.2.1.length:Int)]).length<=10:=by have:=F0 (l:=[(c.2.2.2.2.2.2.2.2.2.2.2.1.length:Int)]) (by intro n y;simp at y;subst y;unfold tK;omega);simpa using this
  rw[dQ (Qn (λn j=>hv n (by simp[fe,j])) (by omega) (by rw[aq];omega)),bn,<-CS];rfl
theorem Vu{c}(j:Un c)(L):(oj (fe L c)).length<=10010:=by
 have:=F0 (l:=fe L c) (j.2.2.1 L);have y:(fe L c).length<=1001:=by have:=j.2.2.2;unfold mK at this;cases L<;>simp[fe]<;>omega
 omega
theorem aho{c}(j:Un c):ZV c=some (FZ c):=by
 show uc aj c=_;unfold uc;rw[ajK,dQ (show ajL=some ((),true,[],())from rfl)];refine(dQ (Qn (l:=[c.1,c.2.1]) (by intro n y;simp at y;rcases y with rfl|rfl;exact j.1;exact j.2.1) (by simp) (by simp)) _).trans ?_;rw[dQ (Vt _)];have J:=acA c.1;unfold FZ;have R:(oj [c.1,c.2.1]).length<=20:=by have:=F0 (l:=[c.1,c.2.1]) (by intro n y;simp at y;rcases y with rfl|rfl;exact j.1;exact j.2.1);simpa using this
 generalize fl c.1=ls at*
 have C:∀l:List Lt,(l.flatMap λL=>oj (fe L c)).length<=10010*l.length:=by
  intro l;induction l with
  |nil=>simp
  |cons L l V=>rw[cp,aq,aJ];have:=Vu j L;omega
 refine(fR (λz=>ls.length-z.2.2.1.2.1.toNat) (λz=>∃i:Nat,z=(true,oj [c.1,c.2.1]++((ls.take i).flatMap λL=>oj (fe L c)),(str ls,(i:Int),()),())/\i<=ls.length) (λ_=>some (oj [c.1,c.2.1]++(ls.flatMap λL=>oj (fe L c)))) ⟨0,by simp,by omega⟩ (by dsimp only;omega) ?_);rintro _ ⟨i,rfl,hi⟩ H K;have G:=C (ls.take i);rw[aY]at G;show aj.yW (str ls) (i:Int) _ _=_;by_cases F:i<ls.length
 .rw[ajA ls i F];refine(dQ (aoI ls[i] j (by rw[aq];omega)) _).trans ?_;refine K _ ⟨i+1,?_,by omega⟩ (by dsimp only;omega);rw[show ls.take (i+1)=ls.take i++[ls[i]]by simp,jF,bn];simp
 .obtain rfl:i=ls.length:=by omega
  rw[ajB ls _ (au _)];refine(dQ (ath (by rw[aq];omega)) _).trans ?_;rw[bq]
theorem ajM{α:Type}[DecidableEq α]{l m:List α}(f:Int×Unit->(Int×Unit->Option Bool)->Option Bool)(hl:l.length<=1000000)(hm:l.length=m.length)
 (C:∀(i:Nat) (h:i<l.length) (j:Int×Unit->Option Bool),f ((i:Int),()) j=if l[i]=m[i]'(by omega)then j (((i+1:Nat):Int),())else some false) (F:∀j:Int×Unit->Option Bool,f ((l.length:Int),()) j=some true):aj.aZ f (0,())=some (decide (l=m)):=by
 refine(gB (l:=l) (by omega) (λi _=>l.take i=m.take i) (λ_ _=>some (decide (l=m))) (s0:=()) (by simp) ?_ ?_)
 .rintro⟨⟩ j h;rw[F];rw[bq,hm,bq]at h;rw[ap h]
 .rintro i hi ⟨⟩ h j G;rw[C i hi];by_cases y:l[i]=m[i]'(by omega)
  .rw[ah y,G ()];rw[show l.take (i+1)=l.take i++[l[i]]by simp,show m.take (i+1)=m.take i++[m[i]'(by omega)]by simp,h,y]
  .rw[ag y,an (λe=>y (by subst e;rfl))]
theorem ahp{l m:List Int}(hl:l.length<=1000000):CV l m=some (decide (l=m)):=by
 show iU aj l m=_;unfold iU;by_cases h:l.length=m.length
 .rw[aB (by simp[h])];refine ajM _ hl h (λi hi j=>?_) (λj=>?_)
  .rw[dk hi,bN hi,bN];by_cases y:l[i]=m[i]'(by omega)
   .rw[aB (by simp[y]),ah y];dsimp only;rw[cJ i]
   .rw[aQ (by simp[y]),ag y]
  .rw[dT]
 .rw[aQ (by simp;omega),an (λe=>h (by rw[e]))]
def eqC(a b:cr):Bool:=(mK a==mK b)&&((a.1==b.1)&&((a.2.1==b.2.1)&&((a.2.2.1==b.2.2.1)&&(((a.2.2.2.1.1==b.2.2.2.1.1)&&(a.2.2.2.1.2.1==b.2.2.2.1.2.1))&&(((a.2.2.2.2.1.1==b.2.2.2.2.1.1)&&(a.2.2.2.2.1.2.1==b.2.2.2.2.1.2.1))&&((a.2.2.2.2.2.1==b.2.2.2.2.2.1)&&((a.2.2.2.2.2.2.1==b.2.2.2.2.2.2.1)&&((a.2.2.2.2.2.2.2.1==b.2.2.2.2.2.2.2.1)&&((a.2.2.2.2.2.2.2.2.1==b.2.2.2.2.2.2.2.2.1)&&((a.2.2.2.2.2.2.2.2.2.1==b.2.2.2.2.2.2.2.2.2.1)&&(a.2.2.2.2.2.2.2.2.2.2.1==b.2.2.2.2.2.2.2.2.2.2.1)))))))))))
theorem ZW{a b}(h:eqC a b=true):a=b:=by have⟨a1,a2,a3,⟨a4,a5,⟨⟩⟩,⟨a6,a7,⟨⟩⟩,a8,a9,a10,a11,a12,a13,a14,⟨⟩⟩:=a;have⟨b1,b2,b3,⟨b4,b5,⟨⟩⟩,⟨b6,b7,⟨⟩⟩,b8,b9,b10,b11,b12,b13,b14,⟨⟩⟩:=b;simp only[eqC,mK,aD,fW]at h;have⟨j,h1,Y,X,⟨W,V⟩,⟨R,K⟩,J,H,G,F,C,y⟩:=h;subst h1 Y X W V R K J H G F C y j;rfl
theorem ZX(a):eqC a a=true:=by simp[eqC]
instance:DecidableEq cr:=λa b=>if h:eqC a b=true then isTrue (ZW h)else isFalse (λe=>h (e▸ZX a))
theorem ajN(b c):(bif b then some c else some false)=some (b&&c):=by cases b<;>rfl
theorem aoJ{a b}(h:(mK a).length<=1000):ajO a b=some (eqC a b):=by
 show CW aj a b=_;unfold CW;unfold mK at h;have e:decide (a.2.2.2.2.2.2.2.2.2.2.2.1=b.2.2.2.2.2.2.2.2.2.2.2.1)=(a.2.2.2.2.2.2.2.2.2.2.2.1==b.2.2.2.2.2.2.2.2.2.2.2.1):=by rw[sO];simp
 rw[dQ (ahp (l:=a.2.2.2.2.2.2.2.2.2.2.2.1) (m:=b.2.2.2.2.2.2.2.2.2.2.2.1) (by omega)),e];simp only[ajN];rfl
theorem afd{l}:Bt (oj l):=by
 have one:∀u:Nat,Bt (Ed u):=by
  intro u;induction u using Nat.strongRecOn with
  |ind u j=>
   by_cases h:u<128
   .rw[Qo h];intro b hb;simp at hb;subst hb;omega
   .rw[Qp (by omega)];intro b hb;rcases aG.1 hb with rfl|hb
    .omega
    .exact j (u / 128) (by omega) b hb
 intro b hb;have⟨n,_,hb⟩:=cE.1 (show b∈l.flatMap λn=>Ed (fold n)from hb);exact one _ b hb
theorem Vv(c):Bt (FZ c):=by
 intro b hb;rcases aX.1 (show b∈oj [c.1,c.2.1]++((fl c.1).flatMap λL=>oj (fe L c))from hb)with hb|hb
 .exact afd b hb
 .have⟨L,_,hb⟩:=cE.1 hb;exact afd b hb
theorem acB{c}(y:Un c):(FZ c).length<=100000:=by
 have F:(oj [c.1,c.2.1]).length<=20:=by have:=F0 (l:=[c.1,c.2.1]) (by intro n C;simp at C;rcases C with rfl|rfl;exact y.1;exact y.2.1);simpa using this
 have j:∀l:List Lt,(l.flatMap λL=>oj (fe L c)).length<=10010*l.length:=by
  intro l;induction l with
  |nil=>simp
  |cons L l G=>rw[cp,aq,aJ];have:=Vu y L;omega
 have J:=j (fl c.1);have H:=acA c.1;unfold FZ;rw[aq];omega
def ajP(c:cr):Int:=if(ZU (o8 (FZ c))).2.1=0/\(ZU (o8 (FZ c))).1=c then 0 else 3
theorem ajQ{b}(hb:Bt b):(mK (ZU (o8 b)).1).length<=1000:=by
 unfold ZU;by_cases h:Xi (o8 b).2=0
 .rw[ag (by simp[h])];have:=(aoH hb h).2.2.2.2;dsimp only;omega
 .rw[ah h];dsimp only;simp[mK,afb]
theorem ajR{c}(y:Un c):ahq c=some (ajP c):=by
 show zL aj c=_;unfold zL ajP;refine(dQ (aho y) _).trans ?_;rw[dQ (atb (Vv c) (by have:=acB y;omega)),ub];have C:=ajQ (Vv c);generalize ZU (o8 (FZ c))=r at *;by_cases h:r.2.1=0
 .rw[aB (by simp[h])];refine(dQ (aoJ C) _).trans ?_;show aj.af (!eqC r.1 c) _ _=_;by_cases j:r.1=c
  .rw[j,ZX,aB (by rfl),ah (show r.2.1=0/\c=c from⟨h,rfl⟩)]
  .have:eqC r.1 c=false:=by cases F:eqC r.1 c;rfl;exact absurd (ZW F) j
   rw[this,aQ (by rfl),ag (show ¬(r.2.1=0/\r.1=c)from λh=>j h.2)]
 .rw[aQ (by simp[h]),ag (show ¬(r.2.1=0/\r.1=c)from λG=>h G.1)];exact Um (by rfl) rfl
end Go.Proofs.YthghpahghjppjaaGreat