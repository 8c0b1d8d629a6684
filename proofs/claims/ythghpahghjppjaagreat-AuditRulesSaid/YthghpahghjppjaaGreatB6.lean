import Derived.Test.YthghpahghjppjaaGreatB5
import Derived.Laws.Bits64
import Derived.Laws.Bits64b
namespace Go.Proofs.YthghpahghjppjaaGreat
open Go Go.Vc Go.RowKit
def Gz(l:List cj):Prop:=(∀p∈l,p.2.1≠[]/\xM p.2.1)/\jN (l.map (·.1))
instance (l:List cj):Decidable (Gz l):=by unfold Gz jN;infer_instance
def sH(l:List cj):Bool:=decide (Gz l)
theorem aaV{l:List cj}{i:Nat}(hi:i<l.length)(h:¬(l[i].2.1≠[]/\xM l[i].2.1)):sH l=false:=an λj=>h (j.1 _ (aE hi))
theorem anr{l:List cj}{i:Nat}(hi:i<l.length)(y:0<i)(h:¬oj (l[i-1]'(by omega)).1 l[i].1):sH l=false:=an λj=>h (by have:=bN.1 j.2 (i-1) i (by simp;omega) (by simpa using hi) (by omega);simpa using this)
theorem aaW{l:List cj}{i:Nat}(hi:i<l.length)(inv:Gz (l.take i))(V:l[i].2.1≠[]/\xM l[i].2.1)(R:∀W:0<i,oj (l[i-1]'(by omega)).1 l[i].1):Gz (l.take (i+1)):=by
 rw[ax hi];refine⟨λx j=>?_,?_⟩
 .rcases aQ.1 j with j|j
  .exact inv.1 x j
  .simp only[ay]at j;rw[j];exact V
 .rw[cw];refine dF.2 ⟨inv.2,by simp,λa K b hb=>?_⟩;simp only[bI,pW,ay]at hb;subst hb;have⟨k,F,y⟩:=dC.1 K;have J:k<i:=by simp at F;omega
  have H:=R (by omega);by_cases C:k=i-1
  .subst C;rw[<-y];simpa using H
  .have G:=bN.1 inv.2 k (i-1) (by simpa using F) (by simp;omega) (by omega);rw[y]at G;refine sy G ?_;simpa using H
theorem aqE{l:List cj}(h:Gz (l.take l.length)):sH l=true:=by rw[bs]at h;exact ap h
def okB(l:List cj):Prop:=(∀p∈l,Vm p.2.1/\p.2.1.length<=100)/\l.length<=100
theorem Gc{l:List cj}(hb:okB l):X1 l=some (sH l):=by
 have hl:=hb.2;refine GU (N:=l.length) (by omega) (λi _=>Gz (l.take i)) (some (sH l)) (by simp[Gz]) ?_ ?_
 .rintro _ j h;rw[dV,aqE h]
 .rintro i hi _ inv j K;rw[dx hi,bO hi];refine bz λk J=>?_
  have F:k (true,())=some false:=by subst J;rfl
  have H:k (false,())=j (((i+1:Nat):Int),()):=by rw[<-cP i];subst J;rfl
  have R:=(hb.1 _ (aE hi)).2;by_cases y:l[i].2.1=[]
  .rw[aT (by simp[y]),jc,F,aaV hi (by simp[y])]
  rw[az (by simpa using y),ai (agv (by omega))];by_cases hv:xM l[i].2.1
  .rw[show En l[i].2.1=true from ap hv,az (by decide)];by_cases G:0<i
   .rw[eG (by omega),Hb i G (by rw[iE];omega),bO,ai (B4 _ _),jc];by_cases C:oj (l[i-1]'(by omega)).1 l[i].1
    .rw[ap C];exact H.trans (K _ (aaW hi inv ⟨y,hv⟩ λ_=>C))
    .rw[an C,anr hi G C];exact F
   .rw[cV (by omega),jc];exact H.trans (K _ (aaW hi inv ⟨y,hv⟩ λh=>absurd h G))
  .rw[show En l[i].2.1=false from an hv,aT (by decide),jc,F,aaV hi λh=>hv h.2]
def qL(t:List bR):List cj->List aZ->List aZ×Int×Unit
 |[],acc=>(acc,0,())
 |p::l,acc=>if(tM t p.2.1).2.1=0 then(if(tM t p.2.1).1=0 then qL t l acc else qL t l (acc++[(p.1,(tM t p.2.1).1,())]))else([],(tM t p.2.1).2)
def o6(t:List bR)(l:List cj):List aZ×Int×Unit:=if sH l=true then qL t l []else([],3,())
theorem N0{z}(h:(cW z).2.1=0):(cW z).1=z/\cz z:=by
 unfold cW at h ⊢;by_cases j:cz z
 .rw[ah j];exact⟨rfl,j⟩
 .rw[ag j]at h;simp at h
theorem af3{t}{l}(h:(tM t l).2.1=0):∃z,En l=true/\AN t l=some z/\(tM t l).1=z/\cz z:=by
 unfold tM at h ⊢;by_cases hv:En l=true
 .rw[ah hv]at h ⊢;cases j:AN t l with
  |none=>rw[j]at h;simp at h
  |some z=>rw[j]at h;have⟨C,y⟩:=N0 h;exact⟨z,hv,rfl,C,y⟩
 .rw[ag hv]at h;simp at h
def gv(t:List bR)(p:cj):Int:=(tM t p.2.1).1
def gF(t:List bR)(p:cj):aZ:=(p.1,gv t p,())
def gFs(t:List bR)(l:List cj):List aZ:=(l.filter λp=>decide (gv t p≠0)).map (gF t)
theorem J6(t):∀(l:List cj) (acc:List aZ),(qL t l acc).2.1=0->(qL t l acc).1=acc++gFs t l/\∀p∈l,(tM t p.2.1).2.1=0
 |[],acc,_=>by simp[qL,gFs]
 |p::l,acc,h=>by
  unfold qL at h ⊢;by_cases y:(tM t p.2.1).2.1=0
  .rw[ah y]at h ⊢;by_cases C:(tM t p.2.1).1=0
   .rw[ah C]at h ⊢;have⟨G,F⟩:=J6 t l _ h;refine⟨?_,λx j=>?_⟩
    .rw[G];unfold gFs;rw[bi,ag (by unfold gv;simp[C])]
    .rcases aB.1 j with rfl|j
     .exact y
     .exact F x j
   .rw[ag C]at h ⊢;have⟨G,F⟩:=J6 t l _ h;refine⟨?_,λx j=>?_⟩
    .rw[G];unfold gFs;rw[bi,ah (by unfold gv;simp[C])];simp;rfl
    .rcases aB.1 j with rfl|j
     .exact y
     .exact F x j
  .rw[ag y]at h;exact absurd h y
theorem Hh(t):∀(l:List cj) (acc:List aZ),(qL t l acc).1.length<=acc.length+l.length
 |[],acc=>by simp[qL]
 |p::l,acc=>by
  unfold qL;split
  .split
   .have:=Hh t l acc;simp;omega
   .have:=Hh t l (acc++[(p.1,(tM t p.2.1).1,())]);simp at this ⊢;omega
  .simp
theorem Ss{t}{l}(h:(o6 t l).2.1=0):sH l=true/\(o6 t l).1=gFs t l/\∀p∈l,(tM t p.2.1).2.1=0:=by
 unfold o6 at h ⊢;by_cases j:sH l=true
 .rw[ah j]at h ⊢;have⟨C,y⟩:=J6 t l _ h;exact⟨j,by rw[C,cS],y⟩
 .rw[ag j]at h;simp at h
theorem aiD(t)(l):(o6 t l).1.length<=l.length:=by
 unfold o6;split
 .have:=Hh t l [];simpa using this
 .simp
theorem aiE{t}{l}(h:(o6 t l).2.1=0):ta (o6 t l).1:=by have⟨_,H,G⟩:=Ss h;rw[H];intro x j;obtain⟨p,y,rfl⟩:=aK.1 j;have⟨z,_,_,F,C⟩:=af3 (G p (aI.1 y).1);show cz (tM t p.2.1).1;rw[F];exact C
def zk(t:List bR)(l:List cj)(p:List aZ):List aZ×Int×Unit:=if wy p=true then(if(o6 t l).2.1=0 then qw p (o6 t l).1 else([],(o6 t l).2))else([],3,())
theorem N2{t}{l}{p}(h:(zk t l p).2.1=0):wy p=true/\(o6 t l).2.1=0/\zk t l p=qw p (o6 t l).1:=by
 unfold zk at h ⊢;by_cases y:wy p=true
 .rw[ah y]at h ⊢;by_cases j:(o6 t l).2.1=0
  .exact⟨y,j,by rw[ah j]⟩
  .rw[ag j]at h;exact absurd h j
 .rw[ag y]at h;simp at h
theorem aqF{t}{l}(J:Vt t)(hb:okB l):adN t l=some (o6 t l):=by
 have hl:=hb.2;show ya aj t l=_;unfold ya o6;rw[ai (Gc hb)];by_cases C:sH l=true
 .rw[C,az (by decide),ah rfl];refine gQ (l:=l) (by omega) (s0:=(([]:List aZ),())) (λi (s:List aZ×Unit)=>s.1.length<=i) (λl' (s:List aZ×Unit)=>some (qL t l' s.1)) (au _) ?_ ?_
  .rintro⟨acc,⟨⟩⟩ j _;rw[dV];rfl
  .rintro i hi ⟨acc,⟨⟩⟩ y j R;simp only at y;rw[dx hi];refine bz λk K=>?_
   have H:∀v:List aZ,v.length<=i+1->k (v,())=some (qL t (l.drop (i+1)) v):=by intro v hv;subst K;rw[cP i];exact R (v,()) hv
   have⟨V,W⟩:=hb.1 _ (aE hi);rw[bO hi,ai (auN J V (by omega))];show _=some (qL t (l[i]::l.drop (i+1)) acc);rw[qL];by_cases F:(tM t l[i].2.1).2.1=0
   .rw[az (by simp[F]),ah F];by_cases G:(tM t l[i].2.1).1=0
    .rw[az (by simp[G]),ah G];exact H acc (by omega)
    .rw[aT (by simp[G]),ag G];show aj.bc (acc.length+1) 24 (k (acc++[(l[i].1,(tM t l[i].2.1).1,())],()))=_;rw[da];exact H _ (by simp;omega)
   .rw[aT (by simp[F]),ag F]
 .have C:sH l=false:=by simpa using C
  rw[C,aT (by decide),ag (by simp)]
theorem aaX{t}{l}{p}(y:Vt t)(hb:okB l)(C:ta p)(hl:p.length<=1000):Hi t l p=some (zk t l p):=by
 show uX aj t l p=_;unfold uX zk;rw[ai (æ (by omega))];by_cases h:wy p=true
 .rw[h,az (by decide),ah rfl,ai (aqF y hb)];by_cases j:(o6 t l).2.1=0
  .have:=aiD t l;have:=hb.2;rw[az (by simp[j]),ah j,ai (aaY C (aiE j) (by omega))]
  .rw[aT (by simp[j]),ag j]
 .have h:wy p=false:=by simpa using h
  rw[h,aT (by decide),ag (by simp)]
def fZ:List oF->Int->Int
 |[],_=>0
 |x::l,k=>if x.1=k then x.2.1 else fZ l k
theorem ajy{l}{k}(hl:l.length<=1000000):agy l k=some (fZ l k):=by
 refine gQ (l:=l) (by omega) (s0:=()) (λ_ _=>True) (λl' _=>some (fZ l' k)) trivial ?_ ?_
 .rintro _ j _;rw[dV];rfl
 .rintro i hi _ _ j y;rw[dx hi,bO hi,fZ];refine dM (λh=>?_) λh=>?_
  .rw[ah h]
  .rw[ag h,cP i];exact y _ trivial
theorem agx{l}(h:Vm l)(k):cz (fZ l k):=by
 induction l with
 |nil=>show cz 0;unfold cz;omega
 |cons x l j=>
  rw[fZ];split
  .exact h x (by simp)
  .exact j λy C=>h y (by simp[C])
def li(l:List cj)(k:Int):Int:=cI (λp=>fZ p.2.1 k) l
def orL:List Int->Int
 |[]=>0
 |x::l=>if x=0 then orL l else x
theorem axB{l}(hl:l.length<=1000000):adO l=some (orL l):=by
 refine gQ (l:=l) (by omega) (s0:=()) (λ_ _=>True) (λl' _=>some (orL l')) trivial ?_ ?_
 .rintro _ j _;rw[dV];rfl
 .rintro i hi _ _ j y;rw[dx hi,bO hi,orL];by_cases h:l[i]=0
  .rw[az (by simp[h]),ah h,cP i];exact y _ trivial
  .rw[aT (by simp[h]),ag h]
def ks:List Int:=[1,2,3,4,5,6,7,8]
theorem ZG(k):k∈ks↔1<=k/\k<=8:=by unfold ks;simp;omega
theorem aqG{us}(y:us.Nodup){v:Int}(z:Int):cI (λu=>if v=u then z else 0) us=if v∈us then z else 0:=by
 induction us with
 |nil=>rfl
 |cons u us j=>
  have⟨F,C⟩:=dK.1 y;rw[cx,j C];by_cases hv:v=u
  .subst hv;rw[ah rfl,ag F,ah (by simp)];omega
  .rw[ag hv];by_cases hm:v∈us
   .rw[ah hm,ah (by simp[hm])];omega
   .rw[ag hm,ag (by simp[hm,hv])];rfl
theorem Uj{α:Type}(f:α->Int)(l:List α)(h:∀x∈l,f x=0):cI f l=0:=by
 induction l with
 |nil=>rfl
 |cons x l j=>rw[cx,h x (by simp),j λy C=>h y (by simp[C])];rfl
theorem nz{α}{f g:α->Int}{l:List α}(h:∀x∈l,f x=g x):cI f l=cI g l:=by
 induction l with
 |nil=>rfl
 |cons x l j=>rw[cx,cx,h x (by simp),j λy C=>h y (by simp[C])]
theorem WV{α}(c)(f:α->Int)(l:List α):cI (λx=>c*f x) l=c*cI f l:=by
 induction l with
 |nil=>show(0:Int)=c*0;simp
 |cons x l j=>rw[cx,cx,j,nZ]
theorem SU{α γ}(f:α->γ->Int)(l:List α)(m:List γ):cI (λx=>cI (f x) m) l=cI (λy=>cI (λx=>f x y) l) m:=by
 induction l with
 |nil=>exact(Uj _ m λ_ _=>rfl).symm
 |cons x l j=>rw[cx,j,<-Ob];exact nz λy _=>(cx (λx=>f x y) x l).symm
def uOf(t:List bR)(k:Int):Int:=match nv t k with|some i=>(i.2.2.2.1-i.2.2.1)*i.2.1|none=>0
theorem WU(t):∀(l:List oF) {z:Int},AN t l=some z->z=cI (λx=>uOf t x.1*x.2.1) l
 |[],z,h=>by
  have:(0:Int)=z:=by simpa[AN]using h
  rw[<-this];rfl
 |x::l,z,h=>by
  rw[AN]at h;rw[cx];unfold uOf;cases y:nv t x.1 with
  |none=>rw[y]at h;simp at h
  |some i=>
   rw[y]at h;cases j:AN t l with
   |none=>rw[j]at h;simp at h
   |some w=>
    rw[j]at h;have e:VG i x.2.1+w=z:=by simpa using h
    have:=WU t l j;rw[<-e,this];rfl
theorem aaZ:∀{l:List oF},(l.map (·.1)).Nodup->∀k,fZ l k=cI (λx=>if x.1=k then x.2.1 else 0) l
 |[],_,_=>rfl
 |x::l,h,k=>by
  have⟨G,F⟩:=dK.1 h;rw[fZ,cx];by_cases j:x.1=k
  .rw[ah j,ah j,Uj _ l λy C=>ag λe=>G (aK.2 ⟨y,C,e.trans j.symm⟩)];omega
  .rw[ag j,ag j,aaZ F];omega
theorem aq0{l}(h:xM l):(l.map (·.1)).Nodup:=h.2.imp λ{a b} (j:a<b) e=>by omega
theorem apt(u:Int->Int){l:List oF}(h:xM l):cI (λx=>u x.1*x.2.1) l=cI (λk=>u k*fZ l k) ks:=by
 rw[nz (g:=λk=>u k*cI (λx:oF=>if x.1=k then x.2.1 else 0) l) λk _=>by rw[aaZ (aq0 h)],nz (g:=λk=>cI (λx:oF=>u k*if x.1=k then x.2.1 else 0) l) λk _=>(WV _ _ _).symm,<-SU (λx k=>u k*if x.1=k then x.2.1 else 0) l ks];refine nz λx j=>?_
 have y:=(h.1 x j).1
 rw[nz (g:=λk=>if x.1=k then u x.1*x.2.1 else 0) λk _=>by
  by_cases e:x.1=k
  .rw[ah e,ah e,e]
  .rw[ag e,ag e];simp]
 rw[aqG (by decide),ah ((ZG _).2 y)]
theorem af2(t):∀l:List cj,cI xt (gFs t l)=cI (gv t) l
 |[]=>rfl
 |p::l=>by
  rw[cx,<-af2 t l];unfold gFs;rw[bi];by_cases j:gv t p=0
  .rw[ag (by simp[j]),j];omega
  .rw[ah (by simp[j]),bI,cx];rfl
open Go.IntKind (i64 u64)
theorem R0{l}(hl:l.length<=1000000):amZ l=some (!En l):=by show wW aj l=_;unfold wW;rw[ai (agv hl)]
theorem ayt{s}(hs:s.length<=1000000)(hl:∀l∈s,l.length<=1000000):∃i:Int,qC s=some (i,())/\decide (0<=i)=!(s.all En):=by
 refine oY (λo=>∃i:Int,o=some (i,())/\decide (0<=i)=!(s.all En)) (λz=>s.length+1-z.1.toNat) (λz=>∃j:Nat,j<=s.length/\z=((j:Int),())/\(s.take j).all En=true) ⟨0,br _,rfl,by simp⟩ (by omega) ?_;rintro _ ⟨j,G,rfl,y⟩ C F;by_cases h:j<s.length
 .rw[dx h];show ∃i,aj.aH s (j:Int) _=_/\_;rw[bO h,ai (R0 (hl _ (aE h)))];by_cases hv:En s[j]=true
  .rw[hv,az (by decide)];rw[cP j];refine F _ ⟨j+1,by omega,rfl,?_⟩ (by omega);rw[ax h,List.all_append,y];simp[hv]
  .have hv:En s[j]=false:=by simpa using hv
   rw[hv,aT (by decide)];refine⟨(j:Int),rfl,?_⟩;have:s.all En=false:=by rw[List.all_eq_false];exact⟨s[j],aE h,by simp[hv]⟩
   rw[this,ap (by omega)];rfl
 .have:j=s.length:=by omega
  subst this;rw[dV];rw[bs]at y;exact⟨-1,rfl,by rw[y];rfl⟩
theorem ayu{s}(hs:s.length<=1000000)(hl:∀l∈s,l.length<=1000000):pp s=some (!(s.all En),()):=by show dB aj s=_;unfold dB;have⟨i,e,h⟩:=ayt hs hl;rw[ai e];rw[h]
def xY(l:List (List oF))(k:Int):Int:=(l.map λv=>fZ v k).sum
def DO(l:List (List oF)):List Int->List oF->List oF×Int×Unit
 |[],acc=>(acc,0,())
 |k::ks,acc=>if cz (xY l k)then(if xY l k=0 then DO l ks acc else DO l ks (acc++[(k,xY l k,())]))else([],7,())
def vQ(l:List (List oF)):List oF×Int×Unit:=if l.all En=true then DO l ks []else([],3,())
theorem aqz{j}(h:j<8):ks.drop j=((j:Int)+1)::ks.drop (j+1):=by
 have:j=0\/j=1\/j=2\/j=3\/j=4\/j=5\/j=6\/j=7:=by omega
 rcases this with rfl|rfl|rfl|rfl|rfl|rfl|rfl|rfl<;>rfl
theorem adF{l}(hs:l.length<=1000)(hl:∀v∈l,v.length<=1000)(ho:∀v∈l,Vm v):agw l=some (vQ l):=by
 show AK aj l=_;unfold AK vQ;rw[ai (ayu (by omega) λv hv=>by have:=hl v hv;omega)];by_cases hv:l.all En=true
 .rw[hv,az (by decide),ah rfl];refine(iI (λz=>10-z.1.toNat) (λz=>∃(j:Nat) (acc:List oF),j<=8/\acc.length<=j/\z=((j:Int)+1,acc,())) (λz=>some (DO l (ks.drop (z.1.toNat-1)) z.2.1)) ⟨0,[],by omega,au _,rfl⟩ (by dsimp only;omega) ?_);rintro _ ⟨j,acc,hj,V,rfl⟩ K ha;have ej:(((j:Int)+1).toNat-1)=j:=by omega
  show aj.af (decide ((j:Int)+1<=8)) _ _=some (DO l (ks.drop (((j:Int)+1).toNat-1)) acc);rw[ej];by_cases h8:j<8
  .rw[eG (by omega),aqz h8];refine bz λC Y=>?_
   have R:∀v:List oF,v.length<=j+1->C (v,())=some (DO l (ks.drop (j+1)) v):=by
    intro v hv;subst Y;dsimp only;have e1:i64.wrap ((j:Int)+1+1)=((j+1:Nat):Int)+1:=by rw[bG _ (by omega)];omega
    rw[e1,ha _ ⟨j+1,v,by omega,hv,rfl⟩ (by dsimp only;omega)];dsimp only;rw[show(((j+1:Nat):Int)+1).toNat-1=j+1 by omega]
   rw[DO];have F:∀x∈l.map (λv=>fZ v ((j:Int)+1)),cz x:=by intro x X;obtain⟨v,hv,rfl⟩:=aK.1 X;exact agx (ho v hv) _
   refine lQ (N:=l.length) (by omega) (λi=>((i:Int),acc,(l.take i).map λv=>fZ v ((j:Int)+1),())) _ rfl ?_ ?_
   .intro y;show aj.af (decide ((l.length:Int)<(l.length:Int))) _ (aj.ae (H5 ((l.take l.length).map λv=>fZ v ((j:Int)+1))) _)=_;rw[dV,bs,ai (tv F (by rw[aW];omega))];show aj.af ((cW (xY l ((j:Int)+1))).2.1 != 0) (some ([],(cW (xY l ((j:Int)+1))).2)) (aj.af ((cW (xY l ((j:Int)+1))).1 != 0) (aj.bc (acc.length+1) 16 (C (acc++[((j:Int)+1,(cW (xY l ((j:Int)+1))).1,())],()))) (C (acc,())))=_;unfold cW;by_cases H:cz (xY l ((j:Int)+1))
    .rw[ah H,ah H];show aj.af ((0:Int) != 0) _ (aj.af (xY l ((j:Int)+1) != 0) (aj.bc (acc.length+1) 16 (C (acc++[((j:Int)+1,xY l ((j:Int)+1),())],()))) (C (acc,())))=_;rw[az (by decide)];by_cases J:xY l ((j:Int)+1)=0
     .rw[az (by simp[J]),ah J];exact R acc (by omega)
     .rw[aT (by simp[J]),ag J,da];exact R _ (by simp;omega)
    .rw[ag H,ag H];show aj.af ((7:Int) != 0) _ _=_;rw[aT (by decide)]
   .intro i hi y G;show aj.af (decide ((i:Int)<(l.length:Int))) (aj.aH l (i:Int) λW=>aj.ae (agy W ((j:Int)+1)) λv9=>aj.bc (((l.take i).map λv=>fZ v ((j:Int)+1)).length+1) 8 (y (i64.wrap ((i:Int)+1),acc,((l.take i).map λv=>fZ v ((j:Int)+1))++[v9],()))) _=_;have h2:=hl _ (aE hi);rw[dx hi,bO hi,ai (ajy (by omega))];have:((l.take i).map λv=>fZ v ((j:Int)+1)).length<=1000:=by rw[aW,bf];omega
    rw[da,cP i];rw[ax hi,cw]at G;exact G
  .have:j=8:=by omega
   subst this;rw[cV (by omega)];rfl
 .have hv:l.all En=false:=by simpa using hv
  rw[hv,aT (by decide),ag (by simp)]
theorem T5(l):∀(us:List Int) (acc:List oF),(DO l us acc).2.1=0->
 (DO l us acc).1=acc++(us.filter λu=>decide (xY l u≠0)).map (λu=>((u,xY l u,()):oF))/\∀u∈us,cz (xY l u)
 |[],acc,_=>by simp[DO]
 |u::us,acc,h=>by
  unfold DO at h ⊢;by_cases y:cz (xY l u)
  .rw[ah y]at h ⊢;by_cases C:xY l u=0
   .rw[ah C]at h ⊢;have⟨G,F⟩:=T5 l us _ h;refine⟨?_,λx j=>?_⟩
    .rw[G,bi,ag (by simp[C])]
    .rcases aB.1 j with rfl|j
     .exact y
     .exact F x j
   .rw[ag C]at h ⊢;have⟨G,F⟩:=T5 l us _ h;refine⟨?_,λx j=>?_⟩
    .rw[G,bi,ah (by simp[C])];simp
    .rcases aB.1 j with rfl|j
     .exact y
     .exact F x j
  .rw[ag y]at h;simp at h
def T6(f:Int->Int):List oF:=(ks.filter λu=>decide (f u≠0)).map λu=>((u,f u,()):oF)
theorem T7(f):(T6 f).length<=8:=by unfold T6;rw[aW];exact cn (cp _ _) (by decide)
theorem ai4:ks.Pairwise (· < ·):=by decide
theorem Yy(f):xM (T6 f):=by
 refine⟨λx y=>?_,?_⟩
 .obtain⟨u,C,rfl⟩:=aK.1 y;have⟨F,j⟩:=aI.1 C;simp only[bg]at j;exact⟨(ZG u).1 F,j⟩
 .unfold T6;rw[hJ];have:((λx:oF=>x.1) ∘ λu=>((u,f u,()):oF))=id:=rfl;rw[this,Cz];exact ai4.filter _
theorem Ie{l}{k}(h:∀x∈l,x.1≠k):fZ l k=0:=by
 induction l with
 |nil=>rfl
 |cons x l j=>rw[fZ,ag (h x (by simp)),j λy C=>h y (by simp[C])]
theorem T8{l}(h:xM l){k:Int}(y:k∉ks):fZ l k=0:=by
 refine Ie λx j e=>y ?_
 rw[<-e,ZG];exact(h.1 x j).1
theorem ana(f:Int->Int)(us:List Int)(k:Int):fZ (us.map λu=>((u,f u,()):oF)) k=if k∈us then f k else 0:=by
 induction us with
 |nil=>rfl
 |cons u us j=>
  rw[bI,fZ,j];by_cases h:u=k
  .subst h;simp
  .rw[ag h];by_cases hm:k∈us
   .rw[ah hm,ah (by simp[hm])]
   .rw[ag hm,ag (by simp[hm,hZ h])]
theorem T9(f:Int->Int)(k:Int)(y:k∉ks->f k=0):fZ (T6 f) k=f k:=by
 unfold T6;rw[ana];by_cases h:k∈ks
 .by_cases j:f k=0
  .rw[ag (by simp[j]),j]
  .rw[ah (by simp[h,j])]
 .rw[ag (by simp[h]),y h]
theorem aaH{α}{lt}(j:∀a,¬lt a a)(G:∀a b c,lt a b->lt b c->lt a c):∀{l m:List α},l.Pairwise lt->m.Pairwise lt->(∀x,x∈l↔x∈m)->l=m
 |[],[],_,_,_=>rfl
 |[],b::m,_,_,h=>absurd ((h b).2 (by simp)) (by simp)
 |a::l,[],_,_,h=>absurd ((h a).1 (by simp)) (by simp)
 |a::l,b::m,hl,hm,h=>by
  have⟨J,R⟩:=bw.1 hl;have⟨H,K⟩:=bw.1 hm
  have C:a=b:=by
   rcases aB.1 ((h a).1 (by simp))with e|e
   .exact e
   .rcases aB.1 ((h b).2 (by simp))with F|F
    .exact F.symm
    .exact absurd (G _ _ _ (H a e) (J b F)) (j b)
  subst C;congr 1;refine aaH j G R K λx=>?_
  constructor
  .intro y;rcases aB.1 ((h x).1 (by simp[y]))with e|e
   .subst e;exact absurd (J x y) (j x)
   .exact e
  .intro y;rcases aB.1 ((h x).2 (by simp[y]))with e|e
   .subst e;exact absurd (H x y) (j x)
   .exact e
theorem adG{l:List oF}(C:(l.map (·.1)).Nodup):l=(l.map (·.1)).map λu=>((u,fZ l u,()):oF):=by
 induction l with
 |nil=>rfl
 |cons x l j=>
  have⟨G,F⟩:=dK.1 C;rw[bI,bI,fZ,ah rfl];congr 1
  have:(l.map (·.1)).map (λu=>((u,fZ (x::l) u,()):oF))=(l.map (·.1)).map λu=>((u,fZ l u,()):oF):=by
   refine sE λu y=>?_
   rw[fZ,ag λe=>G (by show x.1∈_;rw[e];exact y)]
  rw[this];exact j F
theorem asA{l}(h:xM l)(u:Int):u∈l.map (·.1)↔fZ l u≠0:=by
 constructor
 .intro C e;obtain⟨x,j,rfl⟩:=aK.1 C;have H:=adG (aq0 h);have F:=(h.1 x j).2;rw[H]at j;have⟨v,hv,y⟩:=aK.1 j;rw[<-y]at F e;exact F e
 .intro C;refine cZ λG=>C (Ie λx j e=>G (aK.2 ⟨x,j,e⟩))
theorem asB{a b}(j:xM a)(hb:xM b)(h:∀u,fZ a u=fZ b u):a=b:=by
 have e:=aaH (lt:=λx y:Int=>x<y) (λa=>Int.lt_irrefl a) (λa b c=>Fo) j.2 hb.2 λu=>by rw[asA j,asA hb,h]
 rw[adG (aq0 j),adG (aq0 hb),e];exact sE λu _=>by rw[h]
theorem Rs{l:List (List oF)}(h:(vQ l).2.1=0):l.all En=true/\(vQ l).1=T6 (xY l)/\(∀k∈ks,cz (xY l k))/\∀k,fZ (vQ l).1 k=xY l k:=by
 unfold vQ at h ⊢;by_cases hv:l.all En=true
 .rw[ah hv]at h ⊢;have⟨C,K⟩:=T5 l ks [] h;rw[cS]at C;refine⟨hv,C,K,λk=>?_⟩;rw[C];refine T9 _ k λJ=>?_
  unfold xY;have:∀x∈l.map (λv=>fZ v k),x=0:=by intro x H;obtain⟨v,j,rfl⟩:=aK.1 H;exact T8 (bA (mq.1 hv v j)) J
  generalize l.map (λv=>fZ v k)=m at this;induction m with
  |nil=>rfl
  |cons x m F=>rw[fG,this x (by simp),F λy G=>this y (by simp[G])];rfl
 .rw[ag hv]at h;simp at h
theorem aj0{k q}(G:1<=k/\k<=8)(F:q≠0)(J:cz q)(y:cz (-q)):X8 [(k,q,())]=some ([(k,-q,())],0,()):=by
 show sJ aj [(k,q,())]=_;unfold sJ;have hv:En [((k,q,()):oF)]=true:=ap ⟨by intro x C;simp only[ay]at C;subst C;exact⟨G,F⟩,by simp⟩;rw[ai (R0 (by simp)),hv,az (by decide)];refine lQ (N:=1) (by omega) (λi=>((i:Int),([((k,-q,()):oF)]).take i,())) _ rfl ?_ ?_
 .intro j;show aj.af (decide ((1:Int)<(1:Int))) _ _=_;rw[az (by decide)];rfl
 .intro i hi j H;have:i=0:=by omega
  subst this;have e:=Jv (a:=0) (b:=q) (by unfold cz;omega) J;rw[show(0:Int)-q = -q by omega]at e;show aj.af (decide ((0:Int)<(1:Int))) (aj.ae (ZH 0 q) _) _=_;rw[aT (by decide),ai e];unfold cW;rw[ah y];show aj.af ((0:Int) != 0) _ (aj.bc 1 16 (j (i64.wrap (0+1),[(k,-q,())],())))=_;rw[az (by decide),da];exact H
def ql:List cj->ar->List oF
 |[],_=>[]
 |p::l,u=>if p.1=u then p.2.1 else ql l u
theorem aaI{s}(h:s.length<=1000000):qK s=some s:=by
 show fN aj s=_;unfold fN;rw[CV];refine xx ?_ λj=>?_
 .refine zG rfl ?_;rw[da];rfl
 .have:s=[]:=by simpa using j
  subst this;rfl
theorem RZ{l}{u}(hb:okB l):Lw l u=some (ql l u):=by
 have hl:=hb.2;refine gQ (l:=l) (by omega) (s0:=()) (λ_ _=>True) (λl' _=>some (ql l' u)) trivial ?_ ?_
 .rintro _ j _;rw[dV];rfl
 .rintro i hi _ _ j y;have C:=(hb.1 _ (aE hi)).2;rw[dx hi,bO hi,PG,eqA,ql];refine de (λh=>?_) λh=>?_
  .rw[ah h,ai (aaI (by omega))]
  .rw[ag h];rw[cP i];exact y _ trivial
theorem anb{l}(hb:okB l):aaJ l=some l:=by
 have hl:=hb.2;show zq aj l=_;refine lQ (N:=l.length) (by omega) (λi=>((i:Int),l.take i,())) _ rfl ?_ ?_
 .intro j;refine F8 ?_;rw[bs]
 .intro i hi j C;have F:=(hb.1 _ (aE hi)).2;show aj.af (decide ((i:Int)<(l.length:Int))) (aj.aH l (i:Int) λy=>aj.ae (qK y.2.1) λv4=>aj.bc ((l.take i).length+1) 40 (j (i64.wrap ((i:Int)+1),l.take i++[(y.1,v4,())],()))) _=_;have:(l.take i).length<=100:=by rw[bf];omega
  rw[dx hi,bO hi,ai (aaI (by omega)),da,cP i];rw[ax hi]at C;exact C
def oK(u:ar)(l:List cj):List cj:=l.filter λp=>decide (oj p.1 u)
def I1(u:ar)(l:List cj):List cj:=l.filter λp=>decide (p.1=u)
def wh(u:ar)(l:List cj):List cj:=l.filter λp=>decide (oj u p.1)
theorem anc(u):∀{l:List cj},jN (l.map (·.1))->l=oK u l++(I1 u l++wh u l)
 |[],_=>rfl
 |p::l,h=>by
  have⟨y,R⟩:=bw.1 h;have y:∀x∈l,oj p.1 x.1:=λx j=>y _ (dm j)
  have J:=anc u (l:=l) R;unfold oK I1 wh at J ⊢;rw[bi,bi,bi];by_cases G:oj p.1 u
  .have V:¬p.1=u:=λe=>jv u (by rw[e]at G;exact G)
   have C:¬oj u p.1:=λe=>CW G e
   rw[ah (by simpa using G),ag (by simpa using V),ag (by simpa using C),kw,<-J]
  .by_cases F:p.1=u
   .have C:¬oj u p.1:=by rw[F];exact jv u
    have H:∀x∈l,decide (oj x.1 u)=false:=λx j=>an λe=>CW e (by rw[<-F];exact y x j)
    have a2:∀x∈l,decide (x.1=u)=false:=λx j=>an λe=>jv u (by have:=y x j;rw[F,e]at this;exact this)
    have a3:∀x∈l,decide (oj u x.1)=true:=λx j=>ap (by rw[<-F];exact y x j)
    rw[ag (by simpa using G),ah (by simpa using F),ag (by simpa using C),jY H,jY a2,BN a3];rfl
   .have C:=cZ λK=>F (EF G K)
    have H:∀x∈l,decide (oj x.1 u)=false:=λx j=>an λe=>CW (sy C (y x j)) e
    have a2:∀x∈l,decide (x.1=u)=false:=λx j=>an λe=>jv u (by have:=sy C (y x j);rw[e]at this;exact this)
    have a3:∀x∈l,decide (oj u x.1)=true:=λx j=>ap (sy C (y x j))
    rw[ag (by simpa using G),ag (by simpa using F),ah (by simpa using C),jY H,jY a2,BN a3];rfl
theorem aku{l:List cj}(h:jN (l.map (·.1))):(l.map (·.1)).Nodup:=N3 h
theorem RI{l}(h:(l.map (·.1)).Nodup){p}(j:p∈l):ql l p.1=p.2.1:=by
 induction l with
 |nil=>cases j
 |cons x l y=>
  have⟨F,C⟩:=dK.1 h;rw[ql];rcases aB.1 j with rfl|j
  .rw[ah rfl]
  .rw[ag λe=>F (by show x.1∈_;rw[e];exact dm j),y C j]
theorem MC{l}{u}(h:∀p∈l,p.1≠u):ql l u=[]:=by
 induction l with
 |nil=>rfl
 |cons x l j=>rw[ql,ag (h x (by simp)),j λy C=>h y (by simp[C])]
theorem ON{l:List cj}(h:jN (l.map (·.1)))(u:ar):(I1 u l=[]/\(∀p∈l,p.1≠u)/\ql l u=[])\/(I1 u l=[(u,ql l u,())]/\(u,ql l u,())∈l):=by
 by_cases F:∃p∈l,p.1=u
 .right;obtain⟨p,j,rfl⟩:=F;have e:=RI (aku h) j;have J:((p.1,ql l p.1,()):cj)=p:=by rw[e]
  rw[J];refine⟨?_,j⟩;have R:=aku h;clear h e J;induction l with
  |nil=>cases j
  |cons x l G=>
   have⟨H,V⟩:=dK.1 R;unfold I1 at G ⊢;rw[bi];rcases aB.1 j with rfl|j
   .rw[ah (by simp),jY λy K=>an λe=>H (by show p.1∈_;rw[<-e];exact dm K)]
   .rw[ag (by simpa using λe=>H (by show x.1∈_;rw[e];exact dm j)),G j V]
 .left;have C:∀p∈l,p.1≠u:=λp j e=>F ⟨p,j,e⟩
  exact⟨jY λp j=>an (C p j),C,MC C⟩
def adH(l:List cj)(u:ar):Bool:=!(I1 u l).isEmpty
theorem aq1{l}{u:ar}(hb:okB l)(h:jN (l.map (·.1))):adI l u=some (((oK u l).length:Int),adH l u,()):=by
 have hl:=hb.2;have X:=anc u h;have K:∀p∈oK u l,oj p.1 u:=λp F=>by simpa using(aI.1 F).2
 have G:∀p∈I1 u l++wh u l,¬oj p.1 u:=λp F=>by
  rcases aQ.1 F with F|F
  .have:p.1=u:=by simpa using(aI.1 F).2
   rw[this];exact jv u
  .have:oj u p.1:=by simpa using(aI.1 F).2
   exact λe=>CW this e
 have hll:(oK u l).length+(I1 u l++wh u l).length=l.length:=by rw[<-aq,<-X]
 have J:∀i (hi:i<l.length),i<(oK u l).length->oj l[i].1 u:=λi hi C=>by
  refine K _ ?_;have:l[i]?=(oK u l++(I1 u l++wh u l))[i]?:=by rw[<-X]
  rw[bC C,aw hi,aw C]at this;rw[cK this];exact aE C
 have H:∀(hi:(oK u l).length<l.length),(I1 u l++wh u l)[0]?=some l[(oK u l).length]:=λhi=>by
  have:l[(oK u l).length]?=(oK u l++(I1 u l++wh u l))[(oK u l).length]?:=by rw[<-X]
  rw[dP (au _),zE,aw hi]at this;exact this.symm
 refine(iI (λz=>l.length+1-z.1.toNat) (λz=>∃i:Nat,i<=(oK u l).length/\z=((i:Int),())) (λ_=>some (((oK u l).length:Int),adH l u,())) ⟨0,br _,rfl⟩ (by omega) ?_);rintro _ ⟨i,hi,rfl⟩ Y ha;by_cases C:i<(oK u l).length
 .have j:i<l.length:=by omega
  rw[dx j,bO j,ai (B4 _ _),ap (J i j C),az (by decide)];rw[cP i];exact ha _ ⟨i+1,by omega,rfl⟩ (by omega)
 .have V:i=(oK u l).length:=by omega
  by_cases j:i<l.length
  .subst V;have W:=H j;have hm:=G l[(oK u l).length] (ir W);rw[dx j,bO j,ai (B4 _ _),an hm,aT (by decide),PG,eqA];congr 3;unfold adH;cases y:I1 u l with
   |nil=>
    rw[y,cS]at W;have:=ir W;have:oj u l[(oK u l).length].1:=by simpa using(aI.1 this).2
    rw[an λe=>jv u (by rw[e]at this;exact this)];rfl
   |cons p m=>
    rw[y]at W;have e:p=l[(oK u l).length]:=by simpa using W
    have F:p∈I1 u l:=by rw[y];simp
    have:p.1=u:=by simpa using(aI.1 F).2
    rw[<-e,ap this];rfl
  .have R:i=l.length:=by omega
   have:I1 u l++wh u l=[]:=fz (by omega);have hm:=(List.append_eq_nil_iff.1 this).1;rw[cV (by omega)];unfold adH;rw[hm,<-V,R];rfl
def MD(l:List cj)(u:ar)(j:List oF):List cj:=oK u l++((if j=[]then[]else[(u,j,())])++wh u l)
theorem aaK{l}(h:jN (l.map (·.1)))(u:ar)(j:List oF):(MD l u j).length<=l.length+1:=by have y:=bS List.length (anc u h);unfold MD;rw[aq,aq]at y;rw[aq,aq];split<;>simp<;>omega
theorem uG{l}{u}{now}{p}:p∈MD l u now↔(p∈l/\p.1≠u)\/(now≠[]/\p=(u,now,())):=by
 unfold MD oK wh;rw[aQ,aQ,aI,aI];constructor
 .rintro(⟨y,j⟩|h|⟨y,j⟩)
  .exact .inl ⟨y,λe=>jv u (by simp only[bg]at j;rw[e]at j;exact j)⟩
  .split at h
   .cases h
   .rename_i G;exact .inr ⟨G,by simpa using h⟩
  .exact .inl ⟨y,λe=>jv u (by simp only[bg]at j;rw[e]at j;exact j)⟩
 .rintro(⟨y,j⟩|⟨G,rfl⟩)
  .by_cases C:oj p.1 u
   .exact .inl ⟨y,by simpa using C⟩
   .by_cases F:oj u p.1
    .exact .inr (.inr ⟨y,by simpa using F⟩)
    .exact absurd (EF C F) j
  .rw[ag G];exact .inr (.inl (by simp))
theorem aaL{l}(h:jN (l.map (·.1)))(u:ar)(F:List oF):jN ((MD l u F).map (·.1)):=by
 unfold MD;rw[cw,cw];have C:∀x∈(oK u l).map (·.1),oj x u:=λx G=>by obtain⟨p,J,rfl⟩:=aK.1 G;simpa using(aI.1 J).2
 have j:∀x∈(wh u l).map (·.1),oj u x:=λx G=>by obtain⟨p,J,rfl⟩:=aK.1 G;simpa using(aI.1 J).2
 have R:jN ((oK u l).map (·.1)):=dt ((fF).map _) h;have K:jN ((wh u l).map (·.1)):=dt ((fF).map _) h
 have y:∀x∈(if F=[]then([]:List cj)else[(u,F,())]).map (·.1),x=u:=λx G=>by
  split at G
  .cases G
  .simpa using G
 refine dF.2 ⟨R,dF.2 ⟨?_,K,λa H b hb=>?_⟩,λa H b hb=>?_⟩
 .split<;>simp
 .rw[y a H];exact j b hb
 .rcases aQ.1 hb with hb|hb
  .rw[y b hb];exact C a H
  .exact sy (C a H) (j b hb)
theorem akw{l}(h:Gz l)(u:ar){j:List oF}(hv:xM j):Gz (MD l u j):=
 ⟨λp y=>by
  rcases uG.1 y with⟨h1,_⟩|⟨C,rfl⟩
  .exact h.1 p h1
  .exact⟨C,hv⟩,aaL h.2 u j⟩
theorem agz{l}(h:jN (l.map (·.1)))(u:ar)(j:List oF)(x:ar):ql (MD l u j) x=if x=u then j else ql l x:=by
 have J:=aku (aaL h u j);by_cases G:x=u
 .subst G;rw[ah rfl];by_cases K:j=[]
  .rw[K];refine MC λp y=>?_
   rcases uG.1 y with⟨_,H⟩|⟨H,_⟩
   .exact H
   .exact absurd rfl H
  .exact RI J (p:=(x,j,())) (uG.2 (.inr ⟨K,rfl⟩))
 .rw[ag G];by_cases F:∃p∈l,p.1=x
  .obtain⟨p,y,rfl⟩:=F;rw[RI (aku h) y,RI J (uG.2 (.inl ⟨y,G⟩))]
  .have C:∀p∈l,p.1≠x:=λp y e=>F ⟨p,y,e⟩
   rw[MC C];refine MC λp y=>?_
   rcases uG.1 y with⟨h1,_⟩|⟨_,rfl⟩
   .exact C p h1
   .exact hZ G
theorem aq2{l}(h:jN (l.map (·.1)))(u:ar)(j:List oF)(k:Int):li (MD l u j) k=li l k-fZ (ql l u) k+fZ j k:=by
 have e:li l k=li (oK u l) k+(li (I1 u l) k+li (wh u l) k):=by have:=bS (λm=>li m k) (anc u h);unfold li at this ⊢;rw[kR,kR]at this;exact this
 have G:li (I1 u l) k=fZ (ql l u) k:=by
  rcases ON h u with⟨h1,_,C⟩|⟨h1,_⟩
  .rw[h1,C];rfl
  .rw[h1];show fZ (ql l u) k+0=_;omega
 have F:li (MD l u j) k=li (oK u l) k+(fZ j k+li (wh u l) k):=by
  unfold MD li;rw[kR,kR];by_cases y:j=[]
  .rw[ah y,y];rfl
  .rw[ag y];show _+((fZ j k+0)+_)=_;omega
 rw[F,e,G];omega
def fJ(l:List cj)(u:ar)(j:List oF):List cj×Int×Unit:=if sH l=true then(if(vQ [ql l u,j]).2.1=0 then(MD l u (vQ [ql l u,j]).1,0,())else([],(vQ [ql l u,j]).2))else([],3,())
theorem NN{l}(hb:okB l)(u):Vm (ql l u)/\(ql l u).length<=100:=by
 have:∀l:List cj,(∀p∈l,Vm p.2.1/\p.2.1.length<=100)->Vm (ql l u)/\(ql l u).length<=100:=by
  intro l;induction l with
  |nil=>intro _;exact⟨(λx y=>by cases y),by simp[ql]⟩
  |cons p l j=>
   intro h;rw[ql];split
   .exact h p (by simp)
   .exact j λq C=>h q (by simp[C])
 exact this l hb.1
theorem Er{l}{u:ar}{j:List oF}(hb:okB l)(hl:l.length<=90)(ho:Vm j)(hg:j.length<=100):wx l u j=some (fJ l u j):=by
 show nE aj l u j=_;unfold nE fJ;rw[ai (Gc hb)];by_cases J:sH l=true
 .have hB:=bA J;have⟨h1,h2⟩:=NN hb u
  rw[J,az (by decide),ah rfl,ai (RZ hb),ai (adF (l:=[ql l u,j]) (by simp) (λv hv=>by
   simp only[aB,dD,kO]at hv;rcases hv with rfl|rfl<;>omega) λv hv=>by
   simp only[aB,dD,kO]at hv;rcases hv with rfl|rfl
   .exact h1
   .exact ho)]
  by_cases R:(vQ [ql l u,j]).2.1=0
  .have K:=(Rs R).2.1;have hnl:=T7 (xY [ql l u,j]);rw[<-K]at hnl;rw[az (by simp[R]),ah R,ai (aq1 hb hB.2),ai (anb hb)];have G:=anc u hB.2;have C:=bS List.length G;rw[aq,aq]at C;refine bz λF hk=>?_
   have kk:∀o:List cj,o=oK u l++wh u l->F ((vQ [ql l u,j]).1,o,())=some (MD l u (vQ [ql l u,j]).1,0,()):=by
    intro o y;subst hk;refine bz λk8 hk8=>?_
    have H:∀Y,k8 (Y,())=some (Y,0,()):=by intro Y;subst hk8;rfl
    show aj.af (decide ((0:Int)<((vQ [ql l u,j]).1.length:Int))) (aj.ae (Ip o ((oK u l).length:Int) [(u,(vQ [ql l u,j]).1,())]) λv9=>k8 (v9.1,())) (k8 (o,()))=_;unfold MD;by_cases W:(vQ [ql l u,j]).1=[]
    .rw[cV (by rw[W];simp),H,ah W,y];rfl
    .have atg:=gj.2 W;have e:Ip o ((oK u l).length:Int) [(u,(vQ [ql l u,j]).1,())]=some (oK u l++(u,(vQ [ql l u,j]).1,())::wh u l,()):=by have:=OO (n:=40) (l:=o) (k:=(oK u l).length) (x:=(u,(vQ [ql l u,j]).1,())) (by rw[y,aq];omega) (by rw[y,aq];omega);rw[y,List.take_left,List.drop_left]at this;rw[y];exact this
     rw[eG (by omega),ai e,ag W];exact H _
   show aj.af (adH l u) (aj.ae (Io l ((oK u l).length:Int) (i64.wrap (((oK u l).length:Int)+1))) λX=>F ((vQ [ql l u,j]).1,X.1,())) (F ((vQ [ql l u,j]).1,l,()))=_;rcases ON hB.2 u with⟨V,_,_⟩|⟨V,_⟩
   .rw[az (by unfold adH;rw[V];rfl)];rw[V,cS]at G;exact kk l G
   .rw[V]at G C;rw[aT (by unfold adH;rw[V];rfl),cP _ (by simp at C;omega)]
    have e:Io l ((oK u l).length:Int) (((oK u l).length+1:Nat):Int)=some (oK u l++wh u l,()):=by
     refine(auJ (l:=l) (a:=(oK u l).length) (b:=(oK u l).length+1) (by omega) (by simp at C;omega)).trans ?_;congr 2
     have e1:l.take (oK u l).length=oK u l:=by
      have:=bS (List.take (oK u l).length) G
      rwa [List.take_left]at this
     have e2:l.drop ((oK u l).length+1)=wh u l:=by have:=bS (List.drop ((oK u l).length+1)) G;rw[Em,vG (Nat.le_succ _),Nat.add_sub_cancel_left]at this;exact this
     rw[e1,e2]
    rw[ai e];exact kk _ rfl
  .rw[aT (by simp[R]),ag R]
 .have J:sH l=false:=by simpa using J
  rw[J,aT (by decide),ag (by simp)]
theorem Hc(p):aaM p=some (decide (0<=p/\p<=2147483647)):=by
 refine de (λh=>?_) λh=>?_
 .congr 1;exact eA.2 (by omega)
 .rw[an (by omega)]
def Sx(m:Int):Bool:=decide (m < -2147483647)||decide (2147483647<m)
theorem awN(m):ane m=some (Sx m):=by
 show DP aj m=_;unfold DP Sx;refine de (λh=>?_) λh=>?_
 .rw[ap h];rfl
 .rw[an h];rfl
theorem awO{s}(hs:s.length<=1000000):∃i:Int,sC s=some (i,())/\decide (0<=i)=s.any Sx:=by
 refine oY (λo=>∃i:Int,o=some (i,())/\decide (0<=i)=s.any Sx) (λz=>s.length+1-z.1.toNat) (λz=>∃j:Nat,j<=s.length/\z=((j:Int),())/\(s.take j).any Sx=false) ⟨0,br _,rfl,by simp⟩ (by omega) ?_;rintro _ ⟨j,G,rfl,y⟩ C F;by_cases h:j<s.length
 .rw[dx h];show ∃i,aj.aH s (j:Int) _=_/\_;rw[bO h,ai (awN _)];cases hv:Sx s[j]with
  |false=>rw[az rfl];rw[cP j];refine F _ ⟨j+1,by omega,rfl,?_⟩ (by omega);rw[ax h,List.any_append,y];simp[hv]
  |true=>rw[aT rfl];refine⟨(j:Int),rfl,?_⟩;have:=jt.2 ⟨s[j],aE h,hv⟩;rw[this,ap (by omega)]
 .have:j=s.length:=by omega
  subst this;rw[dV];rw[bs]at y;exact⟨-1,rfl,by rw[y];rfl⟩
theorem awP{s}(hs:s.length<=1000000):qR s=some (s.any Sx,()):=by show dZ aj s=_;unfold dZ;have⟨i,e,h⟩:=awO hs;rw[ai e];rw[h]
def Rg(i:bR):Prop:=(1<=i.1/\i.1<=8)/\(1<=i.2.1/\i.2.1<=65536)/\(0<=i.2.2.1/\i.2.2.1<=2147483647)/\(0<=i.2.2.2.1/\i.2.2.2.1<=2147483647)/\i.2.2.2.2.1.length<=8/\i.2.2.2.2.1.any Sx=false
instance (i:bR):Decidable (Rg i):=by unfold Rg;infer_instance
theorem RJ{i}(hm:i.2.2.2.2.1.length<=1000000):adJ i=some (if Rg i then 0 else 2):=by
 refine bz λk7 J=>?_
 have y:¬Rg i->(2:Int)=if Rg i then 0 else 2:=λh=>(ag h).symm
 have C:¬Rg i->k7 (false,())=some (if Rg i then 0 else 2):=by
  intro h;rw[<-y h];subst J;refine bz λK F=>?_
  have j:K (true,())=some 2:=by subst F;rfl
  refine Vq rfl ?_;rw[j]
 have R:(1<=i.1/\i.1<=8)->(1<=i.2.1/\i.2.1<=65536)->k7 (true,())=some (if Rg i then 0 else 2):=by
  intro c1 c2;subst J;refine bz λK F=>?_
  have j:K (true,())=some 2:=by subst F;rfl
  have V:K (false,())=some 0:=by subst F;rfl
  refine zG rfl ?_;rw[ai (Hc _)];by_cases H:0<=i.2.2.1/\i.2.2.1<=2147483647
  .rw[ap H,az (by decide),ai (Hc _)];by_cases G:0<=i.2.2.2.1/\i.2.2.2.1<=2147483647
   .rw[ap G,az (by decide)];by_cases h5:i.2.2.2.2.1.length<=8
    .rw[cV (by omega),ai (awP hm)];cases W:i.2.2.2.2.1.any Sx with
     |true=>rw[<-y λh=>by rw[h.2.2.2.2.2]at W;cases W];exact j
     |false=>rw[ah ⟨c1,c2,H,G,h5,W⟩];exact V
    .rw[eG (by omega),j,<-y λh=>h5 h.2.2.2.2.1]
   .rw[an G,aT (by decide),j,<-y λh=>G h.2.2.2.1]
  .rw[an H,aT (by decide),j,<-y λh=>H h.2.2.1]
 refine de (λY=>?_) λY=>?_
 .refine de (λX=>?_) λX=>?_
  .refine de (λH=>?_) λH=>?_
   .by_cases G:i.2.1<=65536
    .rw[ap G];exact R ⟨Y,X⟩ ⟨H,G⟩
    .rw[an G];exact C λh=>G h.2.1.2
   .exact C λh=>H h.2.1.1
  .exact C λh=>X h.1.2
 .exact C λh=>Y h.1.1
def Hd(i:bR)(q p:Int):Prop:=Rg i/\(0<=p/\p<=2147483647)/\q≠0 /\ -1099511627776<=q/\q<=1099511627776
instance (i:bR) (q p:Int):Decidable (Hd i q p):=by unfold Hd;infer_instance
def gZ(i:bR)(q a b:Int):Int:=(b-a)*i.2.1*q
theorem awQ{i}(h:Rg i){q a b:Int}(j:cz q)(C:0<=a/\a<=2147483647)(hb:0<=b/\b<=2147483647) : -1298074214633706907132624082305024<=gZ i q a b/\gZ i q a b<=1298074214633706907132624082305024:=by unfold cz at j;have⟨_,F,_⟩:=h;have y : -140737488355328<=(b-a)*i.2.1/\(b-a)*i.2.1<=140737488355328:=ME (A:=2147483648) (B:=65536) (by omega) (by omega);exact ME (A:=140737488355328) (B:=9223372036854775808) y (by omega)
theorem aeO{i}{q a b:Int}(hm:i.2.2.2.2.1.length<=1000000)(h:Rg i)(j:cz q)(y:0<=a/\a<=2147483647)(hb:0<=b/\b<=2147483647):ai5 i q a b=some (cW (gZ i q a b)):=by
 have e:=RJ hm;have H:=awQ h j y hb;have J:=h.2.1;have K : -140737488355328<=(b-a)*i.2.1/\(b-a)*i.2.1<=140737488355328:=ME (A:=2147483648) (B:=65536) (by omega) (by omega);refine bz λF G=>?_
 have C:F (false,())=some (cW (gZ i q a b)):=by subst G;refine zG rfl ?_;rw[bG _ (by omega),ai (Et (by unfold cz;omega) (by unfold cz;omega)),ai (aaN (by unfold cz;omega) j)];show aj.af ((0:Int) != 0) _ (aj.ae (MF (wide (gZ i q a b))) _)=_;rw[az (by decide),ai (JD (by unfold ec;omega))]
 rw[ai e,ah h,az (by decide),ai (Hc _),ap y,az (by decide),ai (Hc _),ap hb];exact C
structure ayv(l l':List cj)(u:ar)(awR:List oF):Prop where
 inv:Gz l
 awS:Gz l'
 other:∀x,x≠u->ql l' x=ql l x
 own:∀j,fZ (ql l' u) j=fZ (ql l u) j+fZ awR j
 opn:∀j,li l' j=li l j+fZ awR j
 len:l'.length<=l.length+1
 ok:okB l->l.length<=99->okB l'
theorem akx(a b)(k):xY [a,b] k=fZ a k+fZ b k:=by show fZ a k+(fZ b k+0)=_;omega
theorem pZ{l}{u}{y}(h:(fJ l u y).2.1=0):ayv l (fJ l u y).1 u y:=by
 unfold fJ at h ⊢;by_cases G:sH l=true
 .have C:=bA G;rw[ah G]at h ⊢;by_cases H:(vQ [ql l u,y]).2.1=0
  .rw[ah H]at h ⊢;have⟨X,J,W,K⟩:=Rs H;have R:xM (vQ [ql l u,y]).1:=by rw[J];exact Yy _
   refine⟨C,akw C u R,λx F=>by rw[agz C.2,ag F],λj=>by rw[agz C.2,ah rfl,K,akx],λj=>by rw[aq2 C.2,K,akx];omega,aaK C.2 u _,λhb hl=>⟨λp G=>?_,by dsimp only;have:=aaK C.2 u (vQ [ql l u,y]).1;omega⟩⟩;rcases uG.1 G with⟨V,_⟩|⟨_,rfl⟩
   .exact hb.1 p V
   .refine⟨λx F=>?_,?_⟩
    .have F:=F;rw[J]at F;obtain⟨v,hv,rfl⟩:=aK.1 F;exact W v (aI.1 hv).1
    .rw[J];exact cn (T7 _) (by decide)
  .rw[ag H]at h;exact absurd h H
 .rw[ag G]at h;simp at h
def yW(l:List cj)(f t:ar)(k q:Int):List cj×Int×Unit:=if sH l=true then(if(fJ l f [(k,-q,())]).2.1=0 then fJ (fJ l f [(k,-q,())]).1 t [(k,q,())]else([],(fJ l f [(k,-q,())]).2))else([],3,())
theorem aoA{k q}(h:cz q):Vm [((k,q,()):oF)]:=λx j=>by simp only[ay]at j;subst j;exact h
theorem aq3{l}{f t}{k q:Int}(hb:okB l)(hl:l.length<=80)(J:1<=k/\k<=8)(H:q≠0)(G:cz q)(y:cz (-q)):ID l f t [(k,q,())]=some (yW l f t k q):=by
 show rb aj l f t [(k,q,())]=_;unfold rb yW;rw[ai (Gc hb)];by_cases C:sH l=true
 .rw[C,az (by decide),ah rfl,ai (aj0 J H G y)];show aj.af ((0:Int) != 0) _ (aj.ae (wx l f [(k,-q,())]) _)=_;rw[az (by decide),ai (Er hb (by omega) (aoA y) (by simp))];by_cases j:(fJ l f [(k,-q,())]).2.1=0
  .have S:=pZ j;have F:=S.len;rw[az (by simp[j]),ah j,ai (Er (S.ok hb (by omega)) (by omega) (aoA G) (by simp))]
  .rw[aT (by simp[j]),ag j]
 .have C:sH l=false:=by simpa using C
  rw[C,aT (by decide),ag (by simp)]
structure awT(l l':List cj)(f t:ar)(k q:Int):Prop where
 inv:Gz l
 awS:Gz l'
 of:∀x j,fZ (ql l' x) j=fZ (ql l x) j+(if x=f then fZ [((k,-q,()):oF)] j else 0)+(if x=t then fZ [((k,q,()):oF)] j else 0)
 other:∀x,x≠f->x≠t->ql l' x=ql l x
 opn:∀j,li l' j=li l j
 len:l'.length<=l.length+2
 ok:okB l->l.length<=90->okB l'
theorem afr{l}{f t}{k q}(h:(yW l f t k q).2.1=0):awT l (yW l f t k q).1 f t k q:=by
 unfold yW at h ⊢;by_cases G:sH l=true
 .rw[ah G]at h ⊢;by_cases C:(fJ l f [(k,-q,())]).2.1=0
  .rw[ah C]at h ⊢;have S:=pZ C;have T:=pZ h;refine⟨S.inv,T.awS,λx j=>?_,λx J H=>by rw[T.other x H,S.other x J],λj=>?_,by have:=S.len;have:=T.len;omega,λhb hl=>T.ok (S.ok hb (by omega)) (by have:=S.len;omega)⟩
   .by_cases F:x=t
    .subst F;rw[T.own,ah rfl];by_cases y:x=f
     .subst y;rw[S.own,ah rfl]
     .rw[S.other x y,ag y];omega
    .rw[T.other x F,ag F];by_cases y:x=f
     .subst y;rw[S.own,ah rfl];omega
     .rw[S.other x y,ag y];omega
   .rw[T.opn,S.opn];have:fZ [((k,-q,()):oF)] j+fZ [((k,q,()):oF)] j=0:=by simp only[fZ];split<;>omega
    omega
  .rw[ag C]at h;exact absurd h C
 .rw[ag G]at h;simp at h
theorem anf{i}{q p}(hm:i.2.2.2.2.1.length<=1000000):Ua i q p=some (decide (Hd i q p)):=by
 show xZ aj i q p=_;unfold xZ;have e:=RJ hm;rw[ai e];by_cases C:Rg i
 .rw[ah C,aT (by decide)];refine de (λG=>?_) λG=>?_
  .refine de (λF=>?_) λF=>?_
   .by_cases y:q=0
    .rw[az (by simp[y]),an λh=>h.2.2.1 y]
    .rw[aT (by simp[y])];by_cases j : -1099511627776<=q
     .rw[eG j];congr 1;exact eA.2 ⟨λh=>⟨C,⟨G,F⟩,y,j,h⟩,λh=>h.2.2.2.2⟩
     .rw[cV j,an λh=>j h.2.2.2.1]
   .rw[an λh=>F h.2.1.2]
  .rw[an λh=>G h.2.1.1]
 .rw[ag C,az (by decide),an λh=>C h.1]
def noD:tS:=([],[],())
def atP(d:tS)(i:bR)(f t:ar)(q p:Int):tS×Int×Unit:=if sH d.1=true/\wy d.2.1=true then(if Hd i q p then(if f=t then(noD,24,())else(if cz (gZ i q p i.2.2.1)then(if(yW d.1 f t i.1 q).2.1=0 then(if(ig d.2.1 f t (gZ i q p i.2.2.1)).2.1=0 then(((yW d.1 f t i.1 q).1,(ig d.2.1 f t (gZ i q p i.2.2.1)).1,()),0,())else(noD,(ig d.2.1 f t (gZ i q p i.2.2.1)).2))else(noD,(yW d.1 f t i.1 q).2))else(noD,7,())))else(noD,2,()))else(noD,3,())
def ayw(d:tS)(n:Nat):Prop:=(okB d.1/\d.1.length<=n)/\(ta d.2.1/\d.2.1.length<=n)
theorem ang{d}(j:ayw d 100):aq4 d=some (sH d.1&&wy d.2.1):=by
 show He aj d=_;unfold He;rw[ai (Gc j.1.1)];cases sH d.1 with
 |true=>rw[aT rfl,ai (æ (by have:=j.2.2;omega))];rfl
 |false=>rw[az rfl];rfl
theorem ayx{d}{i}{f t:ar}{q p:Int}(X:(okB d.1/\d.1.length<=64)/\(ta d.2.1/\d.2.1.length<=94))(hm:i.2.2.2.2.1.length<=1000000)(K:cz q):ag0 d i f t q p=some (atP d i f t q p):=by
 show Hf aj d i f t q p=_;unfold Hf atP;have⟨⟨hb,Y⟩,R,W⟩:=X;have e1:=ang (d:=d) ⟨⟨hb,by omega⟩,R,by omega⟩;have e2:Ua i q p=some (decide (Hd i q p)):=anf hm;rw[ai e1];by_cases H:sH d.1=true/\wy d.2.1=true
 .rw[ah H,H.1,H.2,az (by decide),ai e2];by_cases j:Hd i q p
  .rw[ah j,ap j,az (by decide),PG,eqA];by_cases G:f=t
   .rw[ah G,eG G];rfl
   .have e3:=aeO hm j.1 K j.2.1 j.1.2.2.1;rw[ag G,cV G,ai e3];unfold cW;by_cases y:cz (gZ i q p i.2.2.1)
    .rw[ah y,ah y];show aj.af ((0:Int) != 0) _ (aj.ae (ID d.1 f t [(i.1,q,())]) λv4=>aj.af (v4.2.1 != 0) (some (noD,v4.2)) (aj.ae (qV d.2.1 f t (gZ i q p i.2.2.1)) λJ=>aj.af (J.2.1 != 0) (some (noD,J.2)) (some ((v4.1,J.1,()),0,()))))=_;rw[az (by decide),ai (aq3 hb (by omega) j.1.1 j.2.2.1 K (by have:=j.2.2.2;unfold cz;omega))];by_cases F:(yW d.1 f t i.1 q).2.1=0
     .rw[ah F,az (by simp[F]),ai (NO R y (by omega))];by_cases C:(ig d.2.1 f t (gZ i q p i.2.2.1)).2.1=0
      .rw[ah C,az (by simp[C])]
      .rw[ag C,aT (by simp[C])]
     .rw[ag F,aT (by simp[F])]
    .rw[ag y,ag y];exact Vq (by decide) rfl
  .rw[ag j,an j,aT (by decide)];rfl
 .have e:(sH d.1&&wy d.2.1)=false:=by cases hb':sH d.1<;>cases V:wy d.2.1<;>simp_all
  rw[ag H,e,aT (by decide)];rfl
structure ayy(d d':tS)(i:bR)(f t:ar)(q p:Int):Prop where
 right:Hd i q p
 ne:f≠t
 fit:cz (gZ i q p i.2.2.1)
 bk:awT d.1 d'.1 f t i.1 q
 ip:wy d.2.1=true
 ip':wy d'.2.1=true
 get:∀x,dr d'.2.1 x=dr d.2.1 x+(if x=f then -(gZ i q p i.2.2.1)else 0)+(if x=t then gZ i q p i.2.2.1 else 0)
 tot:cI xt d'.2.1=cI xt d.2.1
 Vp:ta d'.2.1
 len:d'.2.1.length<=d.2.1.length+2
theorem akC{d}{i}{f t}{q p}(h:(atP d i f t q p).2.1=0):ayy d (atP d i f t q p).1 i f t q p:=by
 unfold atP at h ⊢;by_cases V:sH d.1=true/\wy d.2.1=true
 .rw[ah V]at h ⊢;by_cases R:Hd i q p
  .rw[ah R]at h ⊢;by_cases K:f=t
   .rw[ah K]at h;simp at h
   .rw[ag K]at h ⊢;by_cases H:cz (gZ i q p i.2.2.1)
    .rw[ah H]at h ⊢;by_cases G:(yW d.1 f t i.1 q).2.1=0
     .rw[ah G]at h ⊢;by_cases j:(ig d.2.1 f t (gZ i q p i.2.2.1)).2.1=0
      .rw[ah j]at h ⊢;have y:∃g,g=gZ i q p i.2.2.1:=⟨_,rfl⟩;have⟨g,y⟩:=y;rw[<-y]at H j ⊢
       have J:ig d.2.1 f t g=qw d.2.1 [(f,-g,()),(t,g,())]:=by
        unfold ig at j ⊢;by_cases W:cz (-g)
        .rw[ah W]
        .rw[ag W]at j;split at j<;>simp at j
       rw[J]at j ⊢;have⟨Y,F,X⟩:=H9 j;have C:(qw d.2.1 [(f,-g,()),(t,g,())]).1.length<=d.2.1.length+2:=Sh _ _;refine⟨R,K,y▸H,afr G,V.2,?_,λx=>?_,?_,?_,C⟩
       .rw[F];exact Rr (wG _)
       .rw[F,Sk,Sl,qo,qo,Gs (Sm Y),<-y];show _+((if f=x then -g else 0)+((if t=x then g else 0)+0))=_
        have e1:(if f=x then -g else 0)=if x=f then -g else 0:=by
         by_cases e:f=x
         .rw[ah e,ah e.symm]
         .rw[ag e,ag (hZ e)]
        have e2:(if t=x then g else 0)=if x=t then g else 0:=by
         by_cases e:t=x
         .rw[ah e,ah e.symm]
         .rw[ag e,ag (hZ e)]
        rw[e1,e2];omega
       .rw[F,LN,kR,cx,cx,qp];show cI xt d.2.1+(-g+(g+0))=cI xt d.2.1;omega
       .rw[F];exact Yp X
      .rw[ag j]at h;exact absurd h j
     .rw[ag G]at h;exact absurd h G
    .rw[ag H]at h;simp at h
  .rw[ag R]at h;simp at h
 .rw[ag V]at h;simp at h
theorem awU{l}(h:Gz l)(u:ar):xM (ql l u):=by
 rcases ON h.2 u with⟨_,_,j⟩|⟨_,j⟩
 .rw[j];exact⟨λx y=>(by cases y),by simp⟩
 .exact(h.1 _ j).2
theorem IE{p}(h:ta p)(u):cz (dr p u):=by
 induction p with
 |nil=>show cz 0;unfold cz;omega
 |cons x p j=>
  rw[dr];split
  .exact h x (by simp)
  .exact j λy C=>h y (by simp[C])
def goV(f:Int->Int):List Int->List oF->List oF×Int×Unit
 |[],acc=>(acc,0,())
 |k::us,acc=>if cz (f k)then(if f k=0 then goV f us acc else goV f us (acc++[(k,f k,())]))else([],7,())
theorem ZI(l):∀(us:List Int) (acc:List oF),goV (xY l) us acc=DO l us acc
 |[],_=>rfl
 |k::us,acc=>by rw[goV,DO,ZI l us,ZI l us]
def bk(s:aU):List cj:=s.2.2.2.2.2.2.2.2.1
def sa(s:aU):List cj:=s.2.2.2.2.2.2.2.2.2.1
def Jr:aU:=(0,[],[],[],[],[],[],[],[],[],[],[],())
def asG(s:aU)(b a:List cj)(p:List aZ):aU:=(s.1,s.2.1,s.2.2.1,s.2.2.2.1,s.2.2.2.2.1,s.2.2.2.2.2.1,s.2.2.2.2.2.2.1,s.2.2.2.2.2.2.2.1,b,a,p,s.2.2.2.2.2.2.2.2.2.2.2.1,())
def rB(a:aN)(u:ar):Bool:=decide (u∈bW a)
def Df(t:List aN)(id:Int)(u:ar):Bool:=t.any λa=>po id a&&rB a u
def gD(own:ar->Bool):List cj->List cj->List cj->List cj×List cj×Int
 |[],j,stays=>(j,stays,0)
 |p::l,j,stays=>if own p.1=true then(if(fJ j p.1 p.2.1).2.1=0 then gD own l (fJ j p.1 p.2.1).1 stays else([],[],(fJ j p.1 p.2.1).2.1))else gD own l j (stays++[p])
def Gb(s:aU)(id:Int):aU×Int×Unit:=if sH (bk s)=true/\sH (sa s)=true then(if(gD (Df s.2.2.2.2.1 id) (bk s) (sa s) []).2.2=0 then(asG s (gD (Df s.2.2.2.2.1 id) (bk s) (sa s) []).2.1 (gD (Df s.2.2.2.2.1 id) (bk s) (sa s) []).1 (pu s),0,())else(Jr,(gD (Df s.2.2.2.2.1 id) (bk s) (sa s) []).2.2,()))else(Jr,3,())
def ã(s:aU)(id:Int):List cj:=(sa s).filter λp=>Df s.2.2.2.2.1 id p.1
theorem ajr(a b)(k):li (a++b) k=li a k+li b k:=by unfold li;rw[kR]
theorem NJ(p)(b)(k):li (p::b) k=fZ p.2.1 k+li b k:=by unfold li;rw[cx]
theorem ar5{s}{u}(hl:s.length<=1000000):xC s u=some (zb (λx=>decide (u=x)) s):=by
 refine mS (l:=s) (s0:=()) (by omega) (λi (_:Unit)=>((i:Int),())) (λi _=>∀j,∀h:j<s.length,j<i->decide (u=s[j])=false) (λ_ _=>some (zb (λx=>decide (u=x)) s)) rfl (λj _ h=>by omega) ?_ ?_
 .intro _ y C;refine F8 ?_;have:s.findIdx? (λx=>decide (u=x))=none:=by rw[gC];intro x J;obtain⟨j,F,rfl⟩:=dC.1 J;exact y j F F
  unfold zb;rw[this]
 .intro i hi _ y C R;refine HX hi ?_;rw[bO hi,ur];refine de (λH=>?_) λH=>?_
  .have:s.findIdx? (λx=>decide (u=x))=some i:=by rw[eF];exact⟨hi,ap H,λj F=>by rw[y j (by omega) F];simp⟩
   unfold zb;rw[this]
  .rw[cP i]
   exact R () λj F K=>by
    by_cases G:j=i
    .subst G;exact an H
    .exact y j F (by omega)
theorem ao5(u)(s:List ar):s.any (λx=>decide (u=x))=decide (u∈s):=by
 by_cases h:u∈s
 .rw[ap h];exact jt.2 ⟨u,h,by simp⟩
 .rw[an h,kZ];intro x j;simp;rintro rfl;exact h j
theorem Js{a}{u:ar}(h:a.2.2.2.1.length<=1000):ajs a u=some (rB a u):=by
 show oZ aj a u=_;unfold oZ;have hl:=Ep h;have e:ns (bW a) u=some (rB a u):=by show cT aj (bW a) u=_;unfold cT;rw[ai (ar5 (by omega)),aeL,ao5];rfl
 rw[ai (xD h),ai e]
theorem RT{α}(p q):∀l:List α,(l.filter p).any q=l.any λx=>p x&&q x
 |[]=>rfl
 |x::l=>by
  rw[bi,Db,<-RT p q l];cases h:p x
  .simp
  .simp
theorem ajt{s}{id}{u}(h:qP s.2.2.2.2.1):Wo s id u=some (Df s.2.2.2.2.1 id u):=by
 show wu aj s id u=_;unfold wu;have hl:=h.2;have hm:∀a∈s.2.2.2.2.1.filter (po id),a.2.2.2.1.length<=1000:=λa C=>h.1 a (aI.1 C).1
 have y:(s.2.2.2.2.1.filter (po id)).length<=1000:=cn (cp _ _) hl;rw[ai (Wn h)]
 have e:lj u.1 u.2.1 (s.2.2.2.2.1.filter (po id))=some (Df s.2.2.2.2.1 id u,u):=by
  show cQ aj _ _ _=_;unfold cQ
  have F:mc u.1 u.2.1 (s.2.2.2.2.1.filter (po id))=some (zb (λa=>rB a u) (s.2.2.2.2.1.filter (po id)),u):=by
   show dG aj _ _ _=_;refine uu (by omega) (λa=>rB a u) (λa (c:ar)=>ä c.1 c.2.1 a) u λx j=>?_
   show uv aj u.1 u.2.1 x=_;unfold uv;rw[ai (Js (hm x j))]
  rw[ai F,aeL,RT];rfl
 rw[ai e]
theorem aeM{s}(hb:okB (bk s))(hs:okB (sa s)):acz s=some (sH (bk s)&&sH (sa s)):=by
 show tI aj s=_;unfold tI;have y:X1 s.2.2.2.2.2.2.2.2.1=some (sH (bk s)):=Gc hb;have j:X1 s.2.2.2.2.2.2.2.2.2.1=some (sH (sa s)):=Gc hs;rw[ai y];cases sH (bk s)
 .rfl
 .rw[aT rfl,ai j];rfl
abbrev StZ:=Int×Int×List bB×List bR×List fI×List aN×List cd×List cU×List dk×List cj×List cj×List aZ×List bp×List cj×Unit
def stZ(s:aU)(i:Int)(z:List cj×List cj):StZ:=(i,s.1,s.2.1,s.2.2.1,s.2.2.2.1,s.2.2.2.2.1,s.2.2.2.2.2.1,s.2.2.2.2.2.2.1,s.2.2.2.2.2.2.2.1,s.2.2.2.2.2.2.2.2.1,z.1,s.2.2.2.2.2.2.2.2.2.2.1,s.2.2.2.2.2.2.2.2.2.2.2.1,z.2,())
def ar6(s:aU)(a:List cj):aU:=(s.1,s.2.1,s.2.2.1,s.2.2.2.1,s.2.2.2.2.1,s.2.2.2.2.2.1,s.2.2.2.2.2.2.1,s.2.2.2.2.2.2.2.1,s.2.2.2.2.2.2.2.2.1,a,s.2.2.2.2.2.2.2.2.2.2.1,s.2.2.2.2.2.2.2.2.2.2.2.1,())
def ac0(s:aU)(r:List cj×List cj×Int):aU×Int×Unit:=if r.2.2=0 then(asG s r.2.1 r.1 (pu s),0,())else(Jr,r.2.2,())
theorem X2{own}{p}{l j stays}(ho:own p.1=true)(hs:(fJ j p.1 p.2.1).2.1≠0):gD own (p::l) j stays=([],[],(fJ j p.1 p.2.1).2.1):=by unfold gD;rw[ah ho,ag hs]
theorem X3{own}{p}{l j stays}(ho:own p.1=true)(hs:(fJ j p.1 p.2.1).2.1=0):gD own (p::l) j stays=gD own l (fJ j p.1 p.2.1).1 stays:=by
 conv=>lhs;unfold gD
 rw[ah ho,ah hs]
theorem X4{own}{p}{l j stays}(ho:own p.1=false):gD own (p::l) j stays=gD own l j (stays++[p]):=by
 conv=>lhs;unfold gD
 rw[ag (by rw[ho];decide)]
theorem ao6{s}{id}(Y:qP s.2.2.2.2.1)(hb:okB (bk s))(hs:okB (sa s))(X:(bk s).length+(sa s).length<=90):Jt s id=some (Gb s id):=by
 show xE aj s id=_;unfold xE Gb;rw[ai (aeM hb hs)];by_cases F:sH (bk s)=true/\sH (sa s)=true
 .rw[ah F,F.1,F.2,az (by decide)];refine mS (l:=bk s) (s0:=(sa s,[])) (by omega) (λi z=>stZ s (i:Int) z) (λi z=>okB z.1/\z.1.length<=(sa s).length+i/\z.2.length<=i) (λl z=>some (ac0 s (gD (Df s.2.2.2.2.1 id) l z.1 z.2))) rfl ⟨hs,by dsimp only;omega,au _⟩ ?_ ?_
  .intro z _ j;refine F8 ?_;rfl
  .intro i hi z ⟨G,z2,z3⟩ j W;refine HX hi ?_;refine bz λk V=>?_
   have J:∀y:List cj×List cj,(okB y.1/\y.1.length<=(sa s).length+(i+1)/\y.2.length<=i+1)->k (stZ s 0 y).2=some (ac0 s (gD (Df s.2.2.2.2.1 id) ((bk s).drop (i+1)) y.1 y.2)):=by intro y H;rw[<-W y H];subst V;show j (IntKind.i64.wrap ((i:Int)+1),(stZ s 0 y).2)=_;rw[cP i];rfl
   clear V W;show aj.aH (bk s) (i:Int) _=_;have eo:Wo (ar6 s z.1) id (bk s)[i].1=some (Df s.2.2.2.2.1 id (bk s)[i].1):=ajt (s:=ar6 s z.1) Y;rw[bO hi];refine vY eo ?_;have K:=hb.1 _ (aE hi);cases ho:Df s.2.2.2.2.1 id (bk s)[i].1 with
   |false=>rw[X4 ho,aT (by rfl)];show aj.bc (z.2.length+1) 40 (k (stZ s 0 (z.1,z.2++[(bk s)[i]])).2)=_;rw[da];exact J (z.1,z.2++[(bk s)[i]]) ⟨G,by dsimp only;omega,by rw[aq];simp;omega⟩
   |true=>
    rw[az (by rfl)];show aj.ae (wx z.1 (bk s)[i].1 (bk s)[i].2.1) _=_;rw[ai (Er G (by omega) K.1 K.2)];by_cases C:(fJ z.1 (bk s)[i].1 (bk s)[i].2.1).2.1=0
    .rw[X3 ho C,az (by simp[C])];have S:=pZ C;have R:=S.len;exact J ((fJ z.1 (bk s)[i].1 (bk s)[i].2.1).1,z.2) ⟨S.ok G (by omega),by dsimp only;omega,by dsimp only;omega⟩
    .rw[X2 ho C,aT (by simp[C])];unfold ac0;rw[ag C];rfl
 .rw[ag F];have:(sH (bk s)&&sH (sa s))=false:=by cases h1:sH (bk s)<;>cases h2:sH (sa s)<;>simp_all
  rw[this,aT (by decide)];rfl
theorem asH{s}{id}(K:qP s.2.2.2.2.1)(G:(sa s).length<=100):NL s id=some (ã s id):=by
 show zV aj s id=_;unfold zV ã;refine(mS (l:=sa s) (s0:=[]) (by omega) (λi (z:List cj)=>((i:Int),z,())) (λi z=>z.length<=i) (λl z=>some (z++l.filter λp=>Df s.2.2.2.2.1 id p.1)) rfl (au _) ?_ ?_).trans (by rw[cS])
 .intro z _ j;refine F8 ?_;rw[qi,bZ]
 .intro i hi z R j J;refine HX hi ?_;refine bz λk H=>?_
  have F:∀y:List cj,y.length<=i+1->k (y,())=some (y++((sa s).drop (i+1)).filter λp=>Df s.2.2.2.2.1 id p.1):=by intro y C;rw[<-J y C];subst H;rw[cP i]
  show aj.aH (sa s) (i:Int) _=_;rw[bO hi,ai (ajt K),bi];by_cases ho:Df s.2.2.2.2.1 id (sa s)[i].1=true
  .rw[ho,aT rfl,ah rfl];show aj.bc (z.length+1) 40 (k (z++[(sa s)[i]],()))=_;rw[da,F _ (by rw[aq];simp;omega),bn];rfl
  .have ho:Df s.2.2.2.2.1 id (sa s)[i].1=false:=by simpa using ho
   rw[ho,az rfl,ag (by decide)];exact F z (by omega)
def ao7(t:List bR):Prop:=(∀i∈t,Rg i)/\t.length<=10
theorem ahf{α}(f:α->Int)(x:α)(t:List α)(id:Int):(x::t).find? (λa=>f a==id)=if f x=id then some x else t.find? (λa=>f a==id):=by
 rw[List.find?_cons];by_cases h:f x=id
 .simp[h]
 .rw[ag h,show(f x==id)=false by simpa using h]
def mY(t:List bB)(id:Int):Option bB:=t.find? λa=>a.1==id
def BI:bB:=(0,0,0,0,())
theorem tJ{t}{id}(hl:t.length<=1000000):BJ t id=some (match mY t id with|some i=>(i,true,())|none=>(BI,false,())):=by
 show iC aj t id=_;unfold iC;have y:iz id t=some (zb (λm=>m.1==id) t,id,()):=by show db aj id t=_;exact uu hl (λm=>m.1==id) (λm (c:Int×Unit)=>Pp c.1 m) (id,()) λx _=>rfl
 have C:Wp t id=some (zb (λm=>m.1==id) t):=by show pC aj t id=_;unfold pC;rw[ai y]
 rw[ai C];unfold mY;rcases lx (λm:bB=>m.1==id) t with⟨h1,j⟩|⟨k,hk,h1,j,_⟩
 .rw[h1,j,aT (by decide)];rfl
 .rw[h1,j,cV (by omega),bO hk]
def X5(l:List aN):Prop:=(l.map (·.1)).Pairwise (· < ·)
def jj(t:List aN)(id:Int):Option aN:=t.find? λa=>a.1==id
def yU:aN:=(0,0,0,[],())
theorem RU(x:aN)(t:List aN)(id:Int):jj (x::t) id=if x.1=id then some x else jj t id:=ahf (λa:aN=>a.1) x t id
theorem RV{id}:∀{t:List aN},(∀a∈t,id<a.1)->jj t id=none
 |[],_=>rfl
 |x::t,h=>by have:=h x (by simp);rw[RU,ag (by omega),RV λa j=>h a (by simp[j])]
theorem aju{t}{id:Int}(hl:t.length<=1000000)(hs:X5 t):
 (∃k:Nat,∃h:k<t.length,Ju t id=some ((k:Int),true,())/\jj t id=some t[k])\/(∃z,Ju t id=some (z,false,())/\jj t id=none):=by
 refine oY (λo=>(∃k:Nat,∃h:k<t.length,o=some ((k:Int),true,())/\jj t id=some t[k])\/(∃z,o=some (z,false,())/\jj t id=none)) (λz=>t.length+1-z.1.toNat) (λz=>∃j:Nat,j<=t.length/\z=((j:Int),())/\jj t id=jj (t.drop j) id) ⟨0,br _,rfl,rfl⟩ (by omega) ?_;rintro _ ⟨j,V,rfl,y⟩ H R;by_cases h:j<t.length
 .have J:=cu h;rw[J,RU]at y;rw[dx h];show(∃k:Nat,∃h:k<t.length,aj.aH t (j:Int) _=_/\_)\/(∃z,aj.aH t (j:Int) _=_/\_);rw[bO h];by_cases K:id<=t[j].1
  .rw[aT (ap K)];by_cases F:t[j].1=id
   .rw[ah F]at y;refine .inl ⟨j,h,?_,y⟩;rw[show(t[j].1==id)=true by simpa using F]
   .rw[ag F]at y;refine .inr ⟨(j:Int),?_,y.trans (RV λa G=>?_)⟩
    .rw[show(t[j].1==id)=false by simpa using F]
    .have C:((t.drop j).map (·.1)).Pairwise (· < ·):=by rw[List.map_drop];exact dt (Co _ _) hs
     rw[J,bI]at C;have:=(bw.1 C).1 a.1 (dm G);omega
  .rw[az (an K)];rw[ag (by omega)]at y;rw[cP j];exact R _ ⟨j+1,by omega,rfl,y⟩ (by omega)
 .have:j=t.length:=by omega
  subst this;rw[fP]at y;rw[dV];exact .inr ⟨_,rfl,y⟩
theorem HY{t}{id:Int}(y:qP t)(hs:X5 t):NM t id=some (match jj t id with|some i=>(i,true,())|none=>(yU,false,())):=by
 show mv aj t id=_;unfold mv;have hl:=y.2;rcases aju (id:=id) (by omega) hs with⟨k,hk,h1,j⟩|⟨z,h1,j⟩
 .rw[ai h1,j,az (by rfl)];show aj.aH t (k:Int) _=_;have C:Ls t[k]=some t[k]:=by show nk aj t[k]=_;unfold nk;rw[ai (Lu (by have:=y.1 _ (aE hk);omega))]
  rw[bO hk,ai C]
 .rw[ai h1,j,aT (by rfl)];rfl
open Go.Lib
theorem aq5(z)(h : -9223372036854775808<=z/\z<9223372036854775808):i64.wrap z=z:=bG z (by omega)
def Es(u:Nat):List Int:=if h:u<128 then[(u:Int)]else((u % 128+128:Nat):Int)::Es (u / 128)
termination_by u
decreasing_by omega
theorem Ri{u:Nat}(h:u<128):Es u=[(u:Int)]:=by rw[Es,zF h]
theorem Rj{u:Nat}(h:128<=u):Es u=((u % 128+128:Nat):Int)::Es (u / 128):=by rw[Es,dif_neg (by omega)]
theorem aaO:∀(k u:Nat),u<128 ^ (k+1)->(Es u).length<=k+1
 |k,u,h=>by
  rcases dO u 128 with hu|hu
  .rw[Ri hu];simp
  .rw[Rj hu];cases k with
   |zero=>simp at h;omega
   |succ k=>have:=aaO k (u / 128) (by rw[Nat.pow_succ]at h;omega);simp;omega
theorem Ub{u}(h:u<18446744073709551616):(Es u).length<=10:=aaO 9 u (by omega)
theorem ayz(z)(h:0<=z/\z<18446744073709551616):u64.wrap z=z:=IntWalk.u64_in z (by omega)
theorem u8c(z)(h:0<=z/\z<256):IntKind.u8.wrap z=z:=IntWalk.u8_in z (by omega)
def fold(n:Int):Nat:=if 0<=n then 2*n.toNat else 2*(-(n+1)).toNat+1
theorem ag1(n)(j : -9223372036854775808<=n/\n<=9223372036854775807):fold n<18446744073709551616:=by unfold fold;split<;>omega
def oG(l:List Int):List Int:=l.flatMap λn=>Es (fold n)
def ui(n:Int):Prop := -9223372036854775808<=n/\n<=9223372036854775807
def MG(sh u:Nat)(b:Int):Nat:=u ||| (b.toNat % 128*2 ^ sh % 18446744073709551616)
theorem Uc{sh u}{b}(y:u<18446744073709551616):MG sh u b<18446744073709551616:=by
 have j:b.toNat % 128*2 ^ sh % 18446744073709551616<2 ^ 64:=by omega
 have:=Nat.or_lt_two_pow (show u<2 ^ 64 by omega) j;unfold MG;omega
theorem adK{sh u:Nat}{b:Int}(C:u<18446744073709551616)(hs:sh<=63)(hb:0<=b/\b<256):
 bits BinOp.or u64 (u:Int) (u64.wrap (u64.wrap (bits BinOp.and IntKind.u8 b 127)*2 ^ min (Int.toNat (sh:Int)) u64.bits))=(MG sh u b:Int):=by
 have h:∀n:Fin 256,bits BinOp.and IntKind.u8 ((n.val:Nat):Int) 127=((n.val % 128:Nat):Int):=by decide +kernel
 have y:=h ⟨b.toNat,by omega⟩;have j:((b.toNat:Nat):Int)=b:=by omega
 rw[j]at y
 have hm:min (Int.toNat (sh:Int)) u64.bits=sh:=by
  have:u64.bits=64:=by decide +kernel
  rw[this,aX];exact jU (by omega)
 rw[y,hm,ayz ((b.toNat % 128:Nat):Int) (by omega),cg]
 have e:(((b.toNat % 128:Nat):Int)*2 ^ sh % 18446744073709551616)=((b.toNat % 128*2 ^ sh % 18446744073709551616:Nat):Int):=by
  have F:((2 ^ sh:Nat):Int)=(2:Int) ^ sh:=by rw[Int.natCast_pow];rfl
  rw[<-F,<-nr];omega
 rw[e,bits_or_u64_nat _ _ C (by omega)];rfl
def uw:Nat->Nat->List Int->Option Nat×List Int×Int
 |_,_,[]=>(none,[],4)
 |sh,u,b::r=>if 63<sh\/(sh=63/\1<b)\/(b=0/\0<sh)then(none,[],3)else if b<128 then(some (MG sh u b),r,0)else uw (sh+7) (MG sh u b) r
def unf(u:Nat):Int:=if u % 2=0 then((u / 2:Nat):Int)else -((u / 2:Nat):Int)-1
theorem ai6(a:Nat)(h:a<9223372036854775808):bits .xor .i64 (a:Int) 0=(a:Int):=by
 have y:(BitVec.ofInt 64 (a:Int)).toNat=a:=by rw[BitVec.ofInt_natCast,tH];exact kr (by omega)
 show i64.wrap ((BitVec.ofInt 64 (a:Int) ^^^ BitVec.ofInt 64 0).toNat:Int)=_;have j:BitVec.ofInt 64 0=0#64:=by decide
 rw[j,BitVec.xor_zero,y,aq5 _ (by omega)]
theorem ai7(a:Nat)(h:a<9223372036854775808):bits .xor .i64 (a:Int) (-1) = -(a:Int)-1:=by
 have y:(BitVec.ofInt 64 (a:Int)).toNat=a:=by rw[BitVec.ofInt_natCast,tH];exact kr (by omega)
 show i64.wrap ((BitVec.ofInt 64 (a:Int) ^^^ BitVec.ofInt 64 (-1)).toNat:Int)=_;have j:BitVec.ofInt 64 (-1)=BitVec.allOnes 64:=by decide
 rw[j,BitVec.xor_allOnes,xo,y,dR];omega
theorem anh(u:Nat)(j:u<18446744073709551616):bits BinOp.xor i64 (i64.wrap ((u:Int).fdiv (2 ^ min (Int.toNat 1) u64.bits))) (i64.wrap (0-i64.wrap (bits BinOp.and u64 (u:Int) 1)))=unf u:=by
 have e:(2:Int) ^ min (Int.toNat 1) u64.bits=2:=by decide +kernel
 have C:bits BinOp.and u64 (u:Int) 1=((u % 2:Nat):Int):=by have:=bits_and_u64_nat u 1 j (by decide);rw[Nat.and_one_is_mod]at this;exact this
 rw[e,C,eH _ (by omega),show(u:Int) / 2=((u / 2:Nat):Int)by omega,aq5 ((u / 2:Nat):Int) (by omega),aq5 ((u % 2:Nat):Int) (by omega),aq5 _ (by omega)];unfold unf;by_cases h:u % 2=0
 .rw[ah h,h];exact ai6 _ (by omega)
 .have y:u % 2=1:=by omega
  rw[ag h,y];exact ai7 _ (by omega)
def vZ(y:List Int)(e lo hi:Int):Int×List Int×Int:=
 if e≠0 then(0,y,e)else
 match uw 0 0 y with
 |(none,r,j)=>(0,r,j)
 |(some u,r,j)=>if unf u<lo\/hi<unf u then(0,[],7)else(unf u,r,j)
theorem Ya:∀(j:List Int) (sh u:Nat),u<18446744073709551616->∀x,(uw sh u j).1=some x->x<18446744073709551616
 |[],sh,u,hu,x,h=>by simp[uw]at h
 |b::r,sh,u,hu,x,h=>by
  unfold uw at h;split at h
  .simp at h
  .split at h
   .simp at h;rw[<-h];exact Uc hu
   .exact Ya r _ _ (Uc hu) x h
theorem auK(acc x k)(h:acc<2 ^ k):acc ||| (x*2 ^ k)=acc+x*2 ^ k:=by rw[kH,Nat.or_comm,<-Nat.two_pow_add_eq_or_of_lt h,Nat.add_comm]
theorem ai8{sh acc b:Nat}(y:acc<2 ^ sh)(j:b % 128*2 ^ sh<18446744073709551616):MG sh acc (b:Int)=acc+b % 128*2 ^ sh:=by unfold MG;rw[aX,kr j,auK _ _ _ y]
theorem ai9(sh:Nat)(h:sh<=64):2 ^ (64-sh)*2 ^ sh=18446744073709551616:=by rw[<-ug,Nat.sub_add_cancel h]
theorem auL(v P acc:Nat):acc+v % 128*P+v / 128*(128*P)=acc+v*P:=by
 have h:v*P=(128*(v / 128)+v % 128)*P:=by congr 1;omega
 have j:v / 128*(128*P)=128*(v / 128)*P:=by rw[<-Dd,kH (v / 128) 128]
 rw[h,j,iY];omega
theorem Ud:∀(G:List Int) (k acc u:Nat) (r:List Int) (e:Int),(∀b∈G,0<=b/\b<256)->k<=10->acc<2 ^ (7*k)->uw (7*k) acc G=(some u,r,e)->
 ∃v,G=Es v++r/\u=acc+v*2 ^ (7*k)/\(0<k->0<v)/\k<=9/\v<2 ^ (64-7*k)/\e=0
 |[],_,_,_,_,_,_,_,_,h=>by simp[uw]at h
 |b::G,k,acc,u,r,e,hb,hk,ha,h=>by
  have K:=hb b (by simp);obtain⟨n,rfl⟩:=cR K.1;unfold uw at h;split at h
  .simp at h
  .rename_i hc;have C:k<=9:=by omega
   have j:n % 128*2 ^ (7*k)<18446744073709551616:=by
    rcases dO k 9 with h9|h9
    .have Y:n % 128*2 ^ (7*k)<=127*2 ^ (7*k):=dE _ (by omega);have X:2 ^ (7*k)<=2 ^ 56:=yv (by decide) (by omega);have J:(2:Nat) ^ 56=72057594037927936:=by decide
     omega
    .have:k=9:=by omega
     subst this;have hn1:n<=1:=by omega
     have J:(2:Nat) ^ (7*9)=9223372036854775808:=by decide
     rw[J];omega
   rw[ai8 ha j]at h;split at h
   .rename_i hlt;obtain⟨rfl,rfl,rfl⟩:=h;have H:n<128:=by omega
    refine⟨n,by rw[Ri H];rfl,by rw[kr H],by omega,C,?_,rfl⟩;rw[kr H,<-ai9 (7*k) (by omega)]at j;exact Nat.lt_of_mul_lt_mul_right j
   .rename_i hge;have H:128<=n/\n<256:=by omega
    have y:2 ^ (7*(k+1))=128*2 ^ (7*k):=by rw[show 7*(k+1)=7+7*k by omega,ug]
    have F:acc+n % 128*2 ^ (7*k)<2 ^ (7*(k+1)):=by rw[y];have:n % 128*2 ^ (7*k)<=127*2 ^ (7*k):=dE _ (by omega);omega
    rw[show 7*k+7=7*(k+1)by omega]at h;have⟨v,Y,X,J,h4,h5,h6⟩:=Ud G (k+1) _ u r e (λb R=>hb b (by simp[R])) (by omega) F h;have hv0:=J (by omega);refine⟨128*v+(n-128),?_,?_,λ_=>by omega,C,?_,h6⟩
    .rw[Rj (by omega),Y];have W:(128*v+(n-128)) % 128+128=n:=by omega
     have V:(128*v+(n-128)) / 128=v:=by omega
     rw[W,V];rfl
    .rw[X,y];have W:n % 128=(128*v+(n-128)) % 128:=by omega
     have V:v=(128*v+(n-128)) / 128:=by omega
     have:=auL (128*v+(n-128)) (2 ^ (7*k)) acc;rw[<-W,<-V]at this;exact this
    .have h7:2 ^ (64-7*k)=128*2 ^ (64-7*(k+1)):=by rw[show 64-7*k=7+(64-7*(k+1))by omega,ug]
     rw[h7];omega
theorem ani(u):fold (unf u)=u:=by unfold unf fold;split<;>split<;>omega
theorem aj2(u)(h:u<18446744073709551616):ui (unf u):=by unfold unf ui;split<;>omega
theorem NP:∀(j:List Int) (sh u:Nat) (r:List Int),uw sh u j=(none,r,0)->False
 |[],sh,u,r,h=>by simp[uw]at h
 |b::j,sh,u,r,h=>by
  unfold uw at h;split at h
  .simp at h
  .split at h
   .simp at h
   .exact NP j _ _ r h
theorem aaP(j)(hb:∀b∈j,0<=b/\b<256)(n)(r)(lo hi)(h:vZ j 0 lo hi=(n,r,0)):j=Es (fold n)++r/\ui n:=by
 unfold vZ at h;rw[ag (by simp)]at h;cases y:uw 0 0 j with
 |mk o p=>
  have⟨F,J⟩:=p;rw[y]at h;cases o with
  |none=>simp only[fc]at h;obtain⟨_,rfl,rfl⟩:=h;exfalso;exact NP j 0 0 _ y
  |some u=>
   simp only at h;split at h
   .simp at h
   .simp only[fc]at h;obtain⟨rfl,rfl,rfl⟩:=h;have⟨v,H,C,_,_,G,_⟩:=Ud j 0 0 u F 0 hb (by omega) (by decide) y;simp only[Nat.mul_zero,Nat.pow_zero,HW,cq]at C;subst C;exact⟨by rw[ani];exact H,aj2 _ (by simpa using G)⟩
theorem X'(j)(e lo hi)(hb:∀b∈j,0<=b/\b<256)(y:e=0)(h:(vZ j e lo hi).2.2=0):j=Es (fold (vZ j e lo hi).1)++(vZ j e lo hi).2.1/\ui (vZ j e lo hi).1:=by subst y;refine aaP j hb _ _ lo hi ?_;exact jg rfl (jg rfl h)
theorem aaQ:∀(j:List Int) (sh u:Nat),∀z∈(uw sh u j).2.1,z∈j
 |[],sh,u,z,h=>by simp[uw]at h
 |b::j,sh,u,z,h=>by
  unfold uw at h;split at h
  .simp at h
  .split at h
   .exact aB.2 (.inr h)
   .exact aB.2 (.inr (aaQ j _ _ z h))
theorem ç(y)(e lo hi)(hb:∀z∈y,0<=z/\z<256):∀z∈(vZ y e lo hi).2.1,0<=z/\z<256:=by
 intro z j;refine hb z ?_;have hs:=aaQ y 0 0 z;unfold vZ at j;split at j
 .exact j
 .cases C:uw 0 0 y with
  |mk o p=>
   rw[C]at j hs;cases o with
   |none=>exact hs j
   |some u=>
    simp only at j;split at j
    .simp at j
    .exact hs j
theorem ahk(j)(e lo hi)(h:(vZ j e lo hi).2.2=0):e=0:=by
 unfold vZ at h;split at h
 .exact h
 .omega
theorem anj(x)(h:x<18446744073709551616):x ^^^ 18446744073709551615=18446744073709551615-x:=by
 have y:(BitVec.ofNat 64 x ^^^ BitVec.allOnes 64).toNat=x ^^^ 18446744073709551615:=by rw[BitVec.toNat_xor,tH,BitVec.toNat_allOnes,kr (by simpa using h)]
 have j:BitVec.ofNat 64 x ^^^ BitVec.allOnes 64 = ~~~ BitVec.ofNat 64 x:=by rw[BitVec.xor_allOnes]
 rw[<-y,j,xo,tH,kr (by simpa using h)]
theorem aiA(n)(y:ui n):bits BinOp.xor u64 (u64.wrap (i64.wrap (n*2 ^ min (Int.toNat 1) i64.bits))) (u64.wrap (n.fdiv (2 ^ min (Int.toNat 63) i64.bits)))=(fold n:Int):=by
 have F:(2:Int) ^ min (Int.toNat 1) i64.bits=2:=by decide +kernel
 have C:(2:Int) ^ min (Int.toNat 63) i64.bits=9223372036854775808:=by decide +kernel
 unfold ui at y;rw[F,C,dR,cg,cg,eH _ (by omega)];unfold fold;by_cases h:0<=n
 .rw[ah h];have j:n / 9223372036854775808 % 18446744073709551616=((0:Nat):Int):=by omega
  rw[j,show((n*2+9223372036854775808) % 18446744073709551616-9223372036854775808) % 18446744073709551616=((2*n.toNat:Nat):Int)by omega,bits_xor_u64_nat _ _ (by omega) (by omega),Nat.xor_zero]
 .rw[ag h];have j:n / 9223372036854775808 % 18446744073709551616=((18446744073709551615:Nat):Int):=by omega
  rw[j,show((n*2+9223372036854775808) % 18446744073709551616-9223372036854775808) % 18446744073709551616=(((n*2+18446744073709551616).toNat:Nat):Int)by omega,bits_xor_u64_nat _ _ (by omega) (by omega),anj _ (by omega)];omega
theorem awV(u:Nat):bits BinOp.or IntKind.u8 (IntKind.u8.wrap (u:Int)) 128=((u % 128+128:Nat):Int):=by
 have h:∀n:Fin 256,bits BinOp.or IntKind.u8 ((n.val:Nat):Int) 128=((n.val % 128+128:Nat):Int):=by decide +kernel
 have j:=h ⟨u % 256,by omega⟩;rw[IntKind.wrap_u8,show(u:Int) % 256=((u % 256:Nat):Int)by omega,j];dsimp only;omega
theorem ag2{β}{k}{f}(b)(h:∀K:Bool×Unit->Option β,f K=K (b,())):aj.aG k f=k (b,()):=h k
theorem awW{α β}{x}{l:List α}(K:α->Option β):aj.aH (x::l) 0 K=K x:=by dsimp only;unfold aah;simp
def Bt(l:List Int):Prop:=∀b∈l,0<=b/\b<256
theorem Ue(u:Nat)(j:u<18446744073709551616):VF (u:Int)=some (unf u):=by show rc aj u=_;unfold rc;rw[uz,anh u j]
theorem ank{n}(j:ui n):aaR n=some (fold n:Int):=by show uW aj n=_;unfold uW;rw[uz,uz,aiA n j]
def anl(x:Option Nat×List Int×Int):Option ((Int×Bool×Unit)×(Bool×(List Int)×Int×Unit)):=some ((((x.1.getD 0:Nat):Int),x.1.isSome,()),true,x.2.1,x.2.2,())
theorem anm{G}(hb:Bt G)(hl:G.length<9223372036854775807):AL true G 0=anl (uw 0 0 G):=by
 show oS aj true G 0=_;refine(iI (λz=>z.2.2.2.1.length) (λz=>∃(u sh:Nat) (l:List Int),z=((u:Int),(sh:Int),true,l,0,())/\u<18446744073709551616/\sh<=70/\Bt l/\l.length<9223372036854775807) (λz=>anl (uw z.2.1.toNat z.1.toNat z.2.2.2.1)) ⟨0,0,G,rfl,by omega,by omega,hb,hl⟩ (by dsimp only;omega) ?_);rintro _ ⟨u,sh,l,rfl,V,hsh,J,H⟩ C ha;cases l with
 |nil=>rw[aT (by rfl),dT (show DQ true [] 0 4=some ((),true,[],4,())from rfl)];rfl
 |cons b r=>
  have h0:=J b (by simp);have hr:Bt r:=λx hx=>J x (by simp[hx])
  show aj.af (((b::r).length:Int)==0) _ _=anl (uw sh u (b::r));rw[az (by simp;omega)];show aj.aH (b::r) 0 _=_;rw[awW,Jd (by omega) (by simp;omega)];refine(ag2 (decide (63<sh\/(sh=63/\1<b)\/(b=0/\0<sh))) λK=>?_).trans ?_
  .show aj.af (decide ((63:Int)<(sh:Int))) _ _=_;by_cases h1:63<sh
   .rw[aT (by simpa using by omega),ap (.inl h1)]
   .rw[az (by simpa using by omega)];show aj.af ((sh:Int)==63) _ _=_;by_cases X:sh=63
    .rw[aT (by simp[X])];refine de (λW=>?_) λW=>?_
     .rw[ap (.inr (.inl ⟨X,W⟩))]
     .by_cases F:b=0
      .rw[aT (by simp[F]),ap (show 63<sh\/(sh=63/\1<b)\/(b=0/\0<sh)from .inr (.inr ⟨F,by omega⟩))];show K (decide ((0:Int)<(sh:Int)),())=_;rw[ap (by omega)]
      .rw[az (by simp[F]),an (by omega)]
    .rw[az (by simp;omega)];by_cases F:b=0
     .rw[aT (by simp[F])];show K (decide ((0:Int)<(sh:Int)),())=_;congr 2;apply eA.2;omega
     .rw[az (by simp[F]),an (by omega)]
  .have Y:(List.take (b::r).length (b::r)).drop (Int.toNat 1)=r:=by simp
   by_cases j:63<sh\/(sh=63/\1<b)\/(b=0/\0<sh)
   .rw[ap j];show aj.af true _ _=_;rw[aT rfl,dT (show DQ true _ 0 3=some ((),true,[],3,())from rfl)];unfold uw;rw[ah j];rfl
   .rw[an j];show aj.af false _ _=_;rw[az rfl];show aj.jb (sh:Int) _=_;rw[uz];unfold uw;rw[ag j];have R:=adK (sh:=sh) (u:=u) (b:=b) V (by omega) h0;refine de (λy=>?_) λy=>?_
    .rw[ah y];show some ((Go.bits Go.BinOp.or u64 (u:Int) (u64.wrap ((u64.wrap (Go.bits Go.BinOp.and Go.IntKind.u8 b 127))*(2 ^ (min (Int.toNat (sh:Int)) u64.bits)))),true,()),true,(List.take (b::r).length (b::r)).drop (Int.toNat 1),0,())=_;rw[R,Y];rfl
    .rw[ag y];show C (Go.bits Go.BinOp.or u64 (u:Int) (u64.wrap ((u64.wrap (Go.bits Go.BinOp.and Go.IntKind.u8 b 127))*(2 ^ (min (Int.toNat (sh:Int)) u64.bits)))),i64.wrap ((sh:Int)+7),true,(List.take (b::r).length (b::r)).drop (Int.toNat 1),0,())=_;rw[R,Y];have es:i64.wrap ((sh:Int)+7)=((sh+7:Nat):Int):=by rw[bG _ (by omega)];omega
     rw[es];exact ha _ ⟨MG sh u b,sh+7,r,rfl,Uc V,by omega,hr,by simp at H;omega⟩ (by show r.length<(b::r).length;simp)
theorem è:∀(j:List Int) (sh u:Nat),(uw sh u j).2.1.length<=j.length
 |[],sh,u=>by simp[uw]
 |b::r,sh,u=>by
  unfold uw;split
  .simp
  .split
   .simp
   .have:=è r (sh+7) (MG sh u b);simp;omega
def rd(lo hi:Int)(s:List Int×Int):Int×(List Int×Int):=((vZ s.1 s.2 lo hi).1,(vZ s.1 s.2 lo hi).2.1,(vZ s.1 s.2 lo hi).2.2)
theorem R8{lo hi}{s:List Int×Int}(hb:Bt s.1)(hl:s.1.length<9223372036854775807):QP true s.1 s.2 lo hi=some ((rd lo hi s).1,true,(rd lo hi s).2.1,(rd lo hi s).2.2,()):=by
 have⟨y,e⟩:=s;show iF aj true y e lo hi=_;unfold iF rd vZ;rw[dT (show OP true y e=some (e==0,true,y,e,())from rfl)];by_cases G:e=0
 .subst G;rw[az (by rfl),ag (by simp)];show aj.ae (AL true y 0) _=_;rw[anm hb hl];have C:=Ya y 0 0 (by decide);rcases H:uw 0 0 y with⟨_|u,r,F⟩
  .rw[dT (show anl (none,r,F)=some ((((0:Nat):Int),false,()),true,r,F,())from rfl)];refine(dT (Ue 0 (by decide)) _).trans ?_;rw[aT (by rfl)]
  .rw[H]at C;rw[dT (show anl (some u,r,F)=some (((u:Int),true,()),true,r,F,())from rfl)];refine(dT (Ue u (C u rfl)) _).trans ?_;rw[az (by rfl)];refine(ag2 (decide (unf u<lo\/hi<unf u)) λK=>?_).trans ?_
   .refine de (λj=>?_) λj=>?_
    .rw[ap (.inl j)]
    .congr 2;apply eA.2;simp[j]
   .refine de (λj=>?_) λj=>?_
    .dsimp only;rw[ah j];rfl
    .dsimp only;rw[ag j]
 .rw[aT (by simp[G]),ah G]
theorem fd7(u:Nat):(u:Int).fdiv (2 ^ (min (Int.toNat 7) (Go.IntKind.bits Go.IntKind.u64)))=((u / 128:Nat):Int):=by
 have e:(2:Int) ^ (min (Int.toNat 7) (Go.IntKind.bits Go.IntKind.u64))=128:=by decide +kernel
 rw[e,eH _ (by omega)];omega
theorem aq6{u:Nat}{b:List Int}(y:u<18446744073709551616)(hb:b.length<=100000000):QQ true b (u:Int)=some ((),true,b++Es u,()):=by
 refine(iI (λz=>z.1.toNat) (λz=>∃(v:Nat) (l:List Int),z=((v:Int),true,l,())/\v<18446744073709551616/\l.length+(Es v).length<=100000020) (λz=>some ((),true,z.2.2.1++Es z.1.toNat,())) ⟨u,b,rfl,y,by have:=Ub y;omega⟩ (by omega) ?_);rintro _ ⟨v,l,rfl,hv,hl⟩ j C;rw[aX];by_cases h:128<=v
 .rw[eG (by omega)];rw[Rj h]at hl ⊢;simp only[aJ]at hl;rw[da (by simp only[aJ,eV];omega) (by simp only[aJ,eV];omega),uz];rw[fd7,awV];refine(C _ ⟨v / 128,_,rfl,by omega,by simp only[aq,aJ,eV];omega⟩ (by omega)).trans ?_;rw[aX,bn];rfl
 .rw[cV (by omega)];rw[Ri (by omega)]at hl ⊢;rw[da (by simp only[aJ,eV]at hl ⊢;omega) (by simp only[aJ,eV]at hl ⊢;omega)];rw[u8c _ (by omega)]
theorem Dh(a b:List Int):oG (a++b)=oG a++oG b:=by unfold oG;rw[jM]
theorem xH(n:Int):oG [n]=Es (fold n):=by unfold oG;simp
theorem Gg{l:List Int}(h:∀n∈l,ui n):(oG l).length<=10*l.length:=by
 induction l with
 |nil=>simp[oG]
 |cons x l j=>
  have F:=Ub (ag1 x (h x (by simp)));have C:=j λn y=>h n (by simp[y])
  unfold oG at C ⊢;rw[cF,aq,aJ];omega
theorem Rh{l b:List Int}(hl:∀n∈l,ui n)(F:l.length<=1000000)(hb:b.length<=50000000):yD true b l=some ((),true,b++oG l,()):=by
 show dQ aj true b l=_;unfold dQ;rw[wA,dT (show Hg true b=some (true,true,b,())from rfl),aT rfl];refine gQ (l:=l) (by omega) (λi s=>s=(true,b++oG (l.take i),())) (λ_ _=>some ((),true,b++oG l,())) (by simp[oG]) ?_ ?_
 .rintro _ j rfl;rw[dV,bs]
 .rintro i hi _ rfl j G;have C:=hl _ (aE hi);have y:(oG (l.take i)).length<=10*(l.take i).length:=Gg λn F=>hl n (eJ F)
  rw[bf]at y;rw[dx hi,bO hi,dT (ank C)];refine(dT (aq6 (ag1 _ C) (by rw[aq];omega)) _).trans ?_;rw[cP i];refine G _ ?_;rw[show l.take (i+1)=l.take i++[l[i]]by simp,Dh,xH,bn]
theorem ag3{l}(hl:l.length<=100000000):F2 l=some l:=by
 show iG aj l=_;unfold iG;rw[CV];refine xx ?_ ?_
 .rw[az (by rfl),da];rfl
 .intro h;rw[aT (by rfl),xk.1 h]
theorem asT{l}(hl:l.length<=100000000):aiB l=some ((),true,l,0,()):=by show AM aj l=_;unfold AM;rw[dT (ag3 hl)]
theorem asY{l}(hl:l.length<=100000000):OQ true l=some (l,true,l,()):=by show kU aj true l=_;unfold kU;rw[dT (show Hg true l=some (true,true,l,())from rfl),az (by rfl)];exact(dT (ag3 hl) _).trans rfl
def Yb(s:List Int×Int):Int:=if s.2≠0 then s.2 else if 0<s.1.length then 5 else 0
theorem asU(s):QR true s.1 s.2=some (Yb s,true,s.1,s.2,()):=by
 have⟨l,e⟩:=s;show o7 aj true l e=_;unfold o7 Yb;rw[dT (show Fu true l e=some (e,true,l,e,())from rfl)];by_cases j:e=0
 .subst j;rw[az (by rfl)];by_cases h:0<l.length
  .rw[eG (by dsimp only;omega)];simp[h]
  .rw[cV (by dsimp only;omega)];simp[h]
 .rw[aT (by simp[j])];simp[j]
set_option synthInstance.maxSize 100000
set_option synthInstance.maxHeartbeats 0
structure OkS(t:aU):Prop where
 a:∀a∈gN t,ly a
 aL:(gN t).length<=8
 c:∀a∈t.2.2.2.2.1,avz a/\a.2.2.2.1.length<=20
 cL:t.2.2.2.2.1.length<=20
 f:ta (pu t)
 fL:(pu t).length<=94
 h:lk (ho t)
 hL:(ho t).length<=94
set_option maxHeartbeats 1000000
set_option maxRecDepth 1000000
set_option maxHeartbeats 2000000
theorem OkS.st{t}(O:OkS t):StR (pu t) (ho t) [] 0:=⟨O.f,by have:=O.fL;omega,O.h,by have:=O.hL;omega,au _⟩
theorem OkS.as{t}(O:OkS t):qP t.2.2.2.2.1:=⟨λa j=>by have:=(O.c a j).2;omega,by have:=O.cL;omega⟩
theorem OkS.arF{t}(O:OkS t)(id):Rm t (t.2.2.2.2.1.filter (po id)):=⟨O.a,by have:=O.aL;omega,λa j=>(O.c a (aI.1 j).1).2,cn (cp _ _) O.cL⟩
def lP(t:aU)(id:Int):List Ah:=yG (gN t) (t.2.2.2.2.1.filter (po id)) (oo (t.2.2.2.2.1.filter (po id))) (lm (t.2.2.2.2.1.filter (po id)))
theorem Si(as)(A):(gn as A).length<=A.length:=by unfold gn;rw[aW];exact cp _ _
theorem akl{t}(O:OkS t){id}(y:(fD (lP t id) (pu t) (ho t) []).2.2.2=0):
 StR (fD (lP t id) (pu t) (ho t) []).1 (fD (lP t id) (pu t) (ho t) []).2.1 (fD (lP t id) (pu t) (ho t) []).2.2.1 10000:=by
 have W:=O.arF id;have⟨K,J⟩:=W.lens;have cL:=W.cL;unfold lP at y ⊢;generalize V:t.2.2.2.2.1.filter (po id)=A at *;have R:=Si (gN t) A;have S1:=Gq (jA (gN t) (oo A)) (b_ _ _) (st:=(pu t,ho t,[],0)) (n:=0) (λ_=>O.st) (by unfold jA;rw[aW];omega);rw[show(jA (gN t) (oo A)).length=(oo A).length by unfold jA;rw[aW]]at S1;have G:=S1.mono (m:=400) (by omega);have S2:=Gq (gn (gN t) A) (Pt W.c) G (by omega);have F:=S2.mono (m:=1200) (by omega);have hm:=Nat.mul_le_mul J K;have S3:=Gq (jB (gN t) (lm A) (oo A)) (Sj _ _ _) F (by rw[Ey];omega);rw[Ey]at S3;have C:=S3.mono (m:=9200) (by omega);have S4:=Gq (jB (gN t) [fU] (oo A)) (Sj _ _ _) C (by rw[Ey];simp;omega);rw[Ey]at S4;have j:=S4.mono (m:=10000) (by simp;omega);have tot:oH (yG (gN t) A (oo A) (lm A)) (pu t,ho t,[],0)=oH (jB (gN t) [fU] (oo A)) (oH (jB (gN t) (lm A) (oo A)) (oH (gn (gN t) A) (oH (jA (gN t) (oo A)) (pu t,ho t,[],0)))):=by unfold yG;rw[q6,q6,q6]
 rw[<-tot]at j;have⟨_,H,_⟩:=acG (yG (gN t) A (oo A) (lm A)) (pu t) (ho t) [];rw[H y]at j;exact j y
theorem akm{t}(O:OkS t)(id):LM t id=some (rF t (fD (lP t id) (pu t) (ho t) [])):=by
 have:=av0 (s:=t) (p:=pu t) (h:=ho t) (id:=id) O.as (O.arF id) O.st
 rwa [aki]at this
theorem Gr{p}{f t}{n}(h:(ig p f t n).2.1=0):
 (∀v,dr (ig p f t n).1 v=dr p v+((if f=v then -n else 0)+(if t=v then n else 0)))/\cI xt (ig p f t n).1=cI xt p:=by
 have⟨_,e⟩:=Sg h;rw[e]at h ⊢;have⟨j,y,_⟩:=H9 h;rw[y];refine⟨λv=>?_,?_⟩
 .rw[Sk,Sl,<-Gs (Sm j),qo,qo];have:me [] v=0:=rfl;rw[this];simp only[xt,n9]
 .rw[LN,kR,cx,cx,qp];simp only[xt];omega
def wL(w:Int->Int)(l:List bu):Int:=cI (λy=>w y.1*y.2.2.1) l
def wH(w:Int->Int)(h:List bp):Int:=cI (λy=>wL w y.2.1) h
theorem NZ(w):wL w []=0:=rfl
theorem Rn(w)(x)(l):wL w (x::l)=w x.1*x.2.2.1+wL w l:=cx ..
theorem Yq(w)(a b):wL w (a++b)=wL w a+wL w b:=kR ..
theorem akn{l}(h:LB l)(x:bu)(w:Int->Int):wL w (Eu l x)=wL w l-w x.1*tp l x.1 x.2.1+w x.1*x.2.2.1:=by
 have e:wL w l=wL w (fM x l)+(wL w (zf x l)+wL w (Ad x l)):=by
  conv=>lhs;rw[Yg x h]
  rw[Yq,Yq]
 have C:wL w (zf x l)=w x.1*tp l x.1 x.2.1:=by
  rcases LC h x with hm|⟨y,hm,hs,_⟩
  .rw[hm,H3 hm,NZ,Fl]
  .rw[hm,Wv hm,Rn,NZ,hs.1,n9]
 unfold Eu;rw[Yq,Yq,e,C];by_cases j:x.2.2.1=0
 .rw[ah j,NZ,j,Fl];omega
 .rw[ag j,Rn,NZ];omega
theorem aff{l}{x}(h:(xI l x).2.1=0)(w):j8 x/\wL w (xI l x).1=wL w l-w x.1*x.2.2.1:=by
 unfold xI at h ⊢;by_cases h1:LD l=true
 .rw[ah h1]at h ⊢;by_cases j:j8 x
  .rw[ah j]at h ⊢;by_cases y:tp l x.1 x.2.1<x.2.2.1
   .rw[ah y]at h;simp at h
   .rw[ag y];refine⟨j,?_⟩;rw[akn (bA h1:Dq l).2.1];dsimp only;rw[Int.mul_sub];omega
  .rw[ag j]at h;simp at h
 .rw[ag h1]at h;simp at h
theorem atl{l}{x}(h:(IU l x).2.1=0)(w):wL w (IU l x).1=wL w l+w x.1*x.2.2.1:=by
 unfold IU at h ⊢;by_cases h1:LD l=true
 .rw[ah h1]at h ⊢;by_cases C:j8 x
  .rw[ah C]at h ⊢;by_cases y:cz (tp l x.1 x.2.1+x.2.2.1)
   .rw[ah y]at h ⊢;by_cases j:tp l x.1 x.2.1=0/\l.length=16
    .rw[ah j]at h;simp at h
    .rw[ag j];rw[akn (bA h1:Dq l).2.1];dsimp only;rw[nZ];omega
   .rw[ag y]at h;simp at h
  .rw[ag C]at h;simp at h
 .rw[ag h1]at h;simp at h
theorem Yr(w)(a b):wH w (a++b)=wH w a+wH w b:=kR ..
theorem Ys{l}(h:jN (l.map (·.1)))(u:ar)(j:List bu)(w:Int->Int):wH w (Ev l u j)=wH w l-wL w (cE l u)+wL w j:=by
 have e:wH w l=wH w (Gv u l)+(wH w (Yt u l)+wH w (yV u l)):=by
  conv=>lhs;rw[aoP u h]
  rw[Yr,Yr]
 have C:wH w (Yt u l)=wL w (cE l u):=by
  rcases Sn h u with⟨hm,_,y⟩|⟨hm,_⟩
  .rw[hm,y];rfl
  .rw[hm];unfold wH;rw[cx,qp];exact n9 _
 unfold Ev;rw[Yr,Yr,e,C];by_cases y:j=[]
 .rw[ah y,y,NZ];show _+(0+_)=_;omega
 .have F:wH w [(u,j,())]=wL w j:=by unfold wH;rw[cx,qp];exact n9 _
  rw[ag y,F];omega
theorem afg{h}{u}{x}(j:(kS h u x).2.1=0):j8 x/\(∀v,v≠u->cE (kS h u x).1 v=cE h v)/\
 ∀w,wL w (cE (kS h u x).1 u)=wL w (cE h u)-w x.1*x.2.2.1/\wH w (kS h u x).1=wH w h-w x.1*x.2.2.1:=by
 unfold kS at j ⊢;by_cases C:Bz h=true
 .rw[ah C]at j ⊢;by_cases y:(xI (cE h u) x).2.1=0
  .rw[ah y];have hs:=Ro C;refine⟨(aff y λ_=>0).1,λv hv=>?_,λw=>?_⟩
   .rw[Rp hs,ag hv]
   .have e:=(aff y w).2;refine⟨?_,?_⟩
    .rw[Rp hs,ah rfl,e]
    .rw[Ys hs,e];omega
  .rw[ag y]at j;exact absurd j y
 .rw[ag C]at j;simp at j
theorem ako{h}{u}{x}(j:(tq h u x).2.1=0):(∀v,v≠u->cE (tq h u x).1 v=cE h v)/\∀w,wH w (tq h u x).1=wH w h+w x.1*x.2.2.1:=by
 unfold tq at j ⊢;by_cases C:Bz h=true
 .rw[ah C]at j ⊢;by_cases y:(IU (cE h u) x).2.1=0
  .rw[ah y];have hs:=Ro C;refine⟨λv hv=>?_,λw=>?_⟩
   .rw[Rp hs,ag hv]
   .rw[Ys hs,atl y w];omega
  .rw[ag y]at j;exact absurd j y
 .rw[ag C]at j;simp at j
theorem aoQ{h}{f t}{x}{tag}(j:(uB h f t x tag).2.1=0):j8 x/\(∀v,v≠f->v≠t->cE (uB h f t x tag).1 v=cE h v)/\
 ∀w,wL w (cE (uB h f t x tag).1 f)=wL w (cE h f)-w x.1*x.2.2.1/\wH w (uB h f t x tag).1=wH w h:=by
 unfold uB at j ⊢;by_cases F:Bz h=true
 .rw[ah F]at j ⊢;by_cases C:f=t
  .rw[ah C]at j;simp at j
  .rw[ag C]at j ⊢;by_cases y:(kS h f x).2.1=0
   .rw[ah y]at j ⊢;have⟨J,a2,a3⟩:=afg y;have⟨b1,H⟩:=ako j;refine⟨J,λv hv G=>?_,λw=>?_⟩
    .rw[b1 v G,a2 v hv]
    .have⟨c1,c2⟩:=a3 w;refine⟨by rw[b1 f C,c1],?_⟩;rw[H w,c2];dsimp only;omega
   .rw[ag y]at j;exact absurd j y
 .rw[ag F]at j;simp at j
def prA(as:List fI)(k:Int):Int:=ck (fk as k).1
def zi(as:List fI)(l:List bu):Int:=wL (prA as) l
theorem aoR{as}(j:∀a∈as,ly a)(k):0<=prA as k:=by
 unfold prA;induction as with
 |nil=>exact jT 0
 |cons a as y=>
  rw[fk];split
  .exact(j a bU).2.1.1
  .exact y λb hb=>j b (bd _ hb)
structure Gw(as:List fI)(u:ar)(p:List aZ)(h:List bp)(p':List aZ)(h':List bp):Prop where
 f:ta p->ta p'
 oth:∀v,v≠u->v≠tU->dr p' v=dr p v/\cE h' v=cE h v
 up:dr p u<=dr p' u
 val:zi as (cE h' u)+dr p' u=zi as (cE h u)+dr p u
 cash:cI xt p'=cI xt p
 ie:∀w,wH w h'=wH w h
theorem Gw.wF(as)(u)(p)(h):Gw as u p h p h:=⟨id,λ_ _ _=>⟨rfl,rfl⟩,jT _,rfl,rfl,λ_=>rfl⟩
theorem Gw.trans{as}{u}{p p1 p2}{h y j:List bp}(a:Gw as u p h p1 y)(b:Gw as u p1 y p2 j):Gw as u p h p2 j:=⟨λx=>b.f (a.f x),λv y j=>⟨(b.oth v y j).1.trans (a.oth v y j).1,(b.oth v y j).2.trans (a.oth v y j).2⟩,Int.le_trans a.up b.up,b.val.trans a.val,b.cash.trans a.cash,λw=>(b.ie w).trans (a.ie w)⟩
theorem atm{m d}(j:0<d):m<=Gj m d*d:=by unfold Gj;have:=FT (-m) (n3 j);rw[Int.neg_mul];omega
theorem atn{as}(ha:∀a∈as,ly a){u}(hu:u≠tU){x}{m}{p}{h}(j:(oC as u x m p h).2.2=0):
 Gw as u p h (oC as u x m p h).1 (oC as u x m p h).2.1/\
 (dr p u+m<=dr (oC as u x m p h).1 u\/zi as (cE (oC as u x m p h).2.1 u)=zi as (cE h u)-prA as x.1*jz x):=by
 have J:=aoR ha x.1;unfold oC at j ⊢;by_cases h1:(fk as x.1).2.1=true
 .rw[ah h1]at j ⊢;by_cases R:ck (fk as x.1).1=0
  .rw[ah R];refine⟨Gw.wF ..,.inr ?_⟩;dsimp only;unfold prA;rw[R,Int.zero_mul];omega
  .rw[ag R]at j ⊢;by_cases Y:cz (min (Gj m (ck (fk as x.1).1)) (jz x)*ck (fk as x.1).1)
   .rw[ah Y]at j ⊢;by_cases H:(uB h u tU (x.1,x.2.1,min (Gj m (ck (fk as x.1).1)) (jz x),()) 0).2.1=0
    .rw[ah H]at j ⊢;by_cases G:(ig p tU u (min (Gj m (ck (fk as x.1).1)) (jz x)*ck (fk as x.1).1)).2.1=0
     .rw[ah G];have⟨a1,a2,a3⟩:=aoQ H;have⟨b1,b2⟩:=Gr G;have X:0<ck (fk as x.1).1:=by have:0<=ck (fk as x.1).1:=J;omega
      have hup:=atm (m:=m) X;have hq:0<min (Gj m (ck (fk as x.1).1)) (jz x):=a1.2.2;have y:=b1 u;rw[ag (λe=>hu e.symm),ah rfl]at y;have C:zi as (cE (uB h u tU (x.1,x.2.1,min (Gj m (ck (fk as x.1).1)) (jz x),()) 0).1 u)=zi as (cE h u)-prA as x.1*min (Gj m (ck (fk as x.1).1)) (jz x):=(a3 (prA as)).1;have F:prA as x.1*min (Gj m (ck (fk as x.1).1)) (jz x)=min (Gj m (ck (fk as x.1).1)) (jz x)*ck (fk as x.1).1:=gE ..;have W:=Int.mul_pos hq X;refine⟨⟨λ_=>(LL G).1,λv hv V=>⟨?_,a2 v hv V⟩,?_,?_,b2,λw=>(a3 w).2⟩,?_⟩
      .rw[b1 v,ag (λe=>V e.symm),ag (λe=>hv e.symm)];omega
      .rw[y];omega
      .rw[y,C,F];omega
      .rw[y,C];rcases Int.le_total (Gj m (ck (fk as x.1).1)) (jz x)with K|K
       .left;rw[Int.min_eq_left K];omega
       .right;rw[Int.min_eq_right K]
     .rw[ag G]at j;exact absurd j G
    .rw[ag H]at j;exact absurd j H
   .rw[ag Y]at j;simp at j
 .rw[ag h1]at j;simp at j
theorem Sp{as}(C:∀a∈as,ly a){u:ar}(y:u≠tU)(c:Int):∀(l:List bu) (p:List aZ) (h:List bp),(jV as u c l p h).2.2=0->
 Gw as u p h (jV as u c l p h).1 (jV as u c l p h).2.1/\(c<=dr (jV as u c l p h).1 u\/zi as (cE (jV as u c l p h).2.1 u)=zi as (cE h u)-zi as l)
 |[],p,h,_=>⟨Gw.wF ..,.inr (by show _=_-(0:Int);rw[Int.sub_zero];rfl)⟩
 |x::l,p,h,he=>by
  rw[jV]at he ⊢;by_cases F:cz (c-dr p u)
  .rw[ah F]at he ⊢;have ev:zi as (x::l)=prA as x.1*jz x+zi as l:=Rn ..;by_cases G:0<c-dr p u
   .rw[ah G]at he ⊢;by_cases hs:(oC as u x (c-dr p u) p h).2.2=0
    .rw[ah hs]at he ⊢;have⟨a,j⟩:=atn C y hs;have⟨b,b1⟩:=Sp C y c l _ _ he;refine⟨a.trans b,?_⟩;rcases j with j|j
     .left;have:=b.up;omega
     .rcases b1 with b1|b1
      .exact .inl b1
      .right;rw[b1,j,ev];omega
    .rw[ag hs]at he;exact absurd he hs
   .rw[ag G]at he ⊢;have⟨b,b1⟩:=Sp C y c l _ _ he;refine⟨b,.inl ?_⟩;have:=b.up;omega
  .rw[ag F]at he;simp at he
theorem akp{as}(F:∀a∈as,ly a){u}{c}{p}{h}(j:(gJ as p h u c).2.2=0):
 u≠tU/\Gw as u p h (gJ as p h u c).1 (gJ as p h u c).2.1/\(c<=dr (gJ as p h u c).1 u\/zi as (cE (gJ as p h u c).2.1 u)=0):=by
 unfold gJ at j ⊢;by_cases C:wy p=true/\Bz h=true
 .rw[ah C]at j ⊢;by_cases y:u=tU
  .rw[ah y]at j;simp at j
  .rw[ag y]at j ⊢;have⟨b,b1⟩:=Sp F y c _ _ _ j;refine⟨y,b,b1.imp id λe=>?_⟩;rw[e];omega
 .rw[ag C]at j;simp at j
structure av1(as:List fI)(b t:ar)(n:Int)(p:List aZ)(h:List bp)(p':List aZ)(h':List bp):Prop where
 f:ta p'
 oth:∀v,v≠b->v≠t->v≠tU->dr p' v=dr p v/\cE h' v=cE h v
 to:dr p' t=dr p t+n/\cE h' t=cE h t
 by':zi as (cE h' b)+dr p' b=zi as (cE h b)+dr p b-n/\(n<=zi as (cE h b)+dr p b->0<=dr p' b)
 bT:b≠tU
 cash:cI xt p'=cI xt p
 ie:∀w,wH w h'=wH w h
theorem ato{as}(X:∀a∈as,ly a){p}{h}{b t}{n}(V:n≠0)(j:b≠t)(K:t≠tU)(y:(jl as p h b t n).2.2.2=0):
 av1 as b t n p h (jl as p h b t n).1 (jl as p h b t n).2.1/\(jl as p h b t n).2.2.1=[(b,t,n,())]:=by
 unfold jl at y ⊢;rw[ag V]at y ⊢;by_cases G:(gJ as p h b n).2.2=0
 .rw[ah G]at y ⊢;by_cases F:(ig (gJ as p h b n).1 b t n).2.1=0
  .rw[ah F];have⟨a0,a,H⟩:=akp X G;have⟨b1,Y⟩:=Gr F;have hb:=b1 b;have C:=b1 t;rw[ah rfl,ag (λe=>j e.symm)]at hb;rw[ag j,ah rfl]at C;refine⟨⟨(LL F).1,λv J R v3=>⟨?_,(a.oth v J v3).2⟩,⟨?_,(a.oth t (λe=>j e.symm) K).2⟩,⟨?_,λW=>?_⟩,a0,Y.trans a.cash,a.ie⟩,rfl⟩
   .rw[b1 v,ag (λe=>J e.symm),ag (λe=>R e.symm),(a.oth v J v3).1];omega
   .rw[C,(a.oth t (λe=>j e.symm) K).1];omega
   .dsimp only;rw[hb];have:=a.val;omega
   .rw[hb];have:=a.val;rcases H with H|H
    .omega
    .rw[H]at this;omega
  .rw[ag F]at y;exact absurd y F
 .rw[ag G]at y;exact absurd y G
theorem c_(as):∀(l:List bu) (acc:List Int),(qY as l acc).2.1=0->(qY as l acc).1.sum=acc.sum+zi as l
 |[],acc,_=>by show acc.sum=acc.sum+0;omega
 |x::l,acc,h=>by
  rw[qY]at h ⊢;split
  .next h1=>
   rw[ah h1]at h;split
   .next j=>
    rw[ah j]at h;rw[c_ as l _ h,lr,fG,vB];have:zi as (x::l)=prA as x.1*jz x+zi as l:=Rn ..;rw[this,gE (prA as x.1)];unfold prA;omega
   .next j=>rw[ag j]at h;simp at h
  .next h1=>rw[ag h1]at h;simp at h
theorem akq{as}{p}{h}{u}(y:(uC as p h u).2.1=0):(uC as p h u).1=max 0 (zi as (cE h u)+dr p u):=by
 unfold uC at y ⊢;by_cases j:(yE as (cE h u)).2.1=0
 .rw[ah j]at y ⊢
  have e:(yE as (cE h u)).1=zi as (cE h u):=by
   unfold yE at j ⊢;split
   .next g1=>
    rw[ah g1]at j;split
    .next g2=>
     rw[ah g2]at j;have:=c_ as (cE h u) [] g2;rw[(N0 j).1,this];show 0+_=_;omega
    .next g2=>rw[ag g2]at j;exact absurd j g2
   .next g1=>rw[ag g1]at j;simp at j
  rw[e]at y ⊢;split
  .rfl
  .next g=>rw[ag g]at y;simp at y
 .rw[ag j]at y;exact absurd y j
def LQ(p:List aZ)(u:ar):Int:=(fb p u).1
theorem acH{p}{u}(j:(fb p u).2.1=0):dr p u ≠ -9223372036854775808/\LQ p u=max 0 (- dr p u):=by
 unfold LQ;unfold fb at j ⊢;by_cases y:dr p u = -9223372036854775808
 .rw[ah y]at j;simp at j
 .rw[ag y];refine⟨y,?_⟩;split
  .omega
  .omega
theorem Sq{p}{u}(h:dr p u ≠ -9223372036854775808):LQ p u=max 0 (- dr p u):=by
 unfold LQ fb;rw[ag h];split
 .omega
 .omega
theorem acI{p q}{u}(h:dr q u=dr p u):LQ q u=LQ p u:=by unfold LQ fb;rw[h]
def kC(v:ar)(j:List kA):Int:=cI (λd=>if d.2.1=v then d.2.2.1 else 0) j
structure Fair(M:ar->ar->Prop)(p:List aZ)(h:List bp)(p':List aZ)(h':List bp)(ds:List kA):Prop where
 ow:∀v,v≠tU->v≠fU->LQ p v-LQ p' v=kC v ds
 may:∀d∈ds,(0<d.2.2.1/\cz d.2.2.1)/\M d.1 d.2.1
 cash:cI xt p'=cI xt p
 ie:∀w,wH w h'=wH w h
theorem Fair.wF(M)(p)(h):Fair M p h p h []:=⟨λv _ _=>by show _=(0:Int);omega,λ_ h=>(by cases h),rfl,λ_=>rfl⟩
theorem Fair.trans{M}{p p1 p2}{h h1 j}{d e:List kA}(a:Fair M p h p1 h1 d)(b:Fair M p1 h1 p2 j e):Fair M p h p2 j (d++e):=⟨λv g1 C=>by have x:=a.ow v g1 C;have y:=b.ow v g1 C;unfold kC at *;rw[kR];omega,λd F=>(aQ.1 F).elim (a.may d) (b.may d),b.cash.trans a.cash,λw=>(b.ie w).trans (a.ie w)⟩
structure Clean(as:List fI)(U:ar->Prop)(p:List aZ)(h:List bp):Prop where
 f:ta p
 c:∀v,U v->v≠tU/\v≠fU/\(0<=dr p v\/zi as (cE h v)=0)
def FA(as:List fI)(M:ar->ar->Prop)(U V:ar->Prop)(a:Ah):Prop:=∀p h,Clean as U p h->(a p h).2.2.2=0->Fair M p h (a p h).1 (a p h).2.1 (a p h).2.2.1/\Clean as V (a p h).1 (a p h).2.1
theorem akr{as}(Y:∀a∈as,ly a){M}(hM:∀u,M u u){U}{u}(W:u≠fU):
 FA as M U (λv=>U v\/v=u) (λp h=>FX as p h u):=by
 intro p h C y;dsimp only at y ⊢;unfold FX at y ⊢;by_cases G:(fb p u).2.1=0
 .rw[ah G]at y ⊢;by_cases F:(gJ as p h u 0).2.2=0
  .rw[ah F]at y ⊢;have⟨s0,s,V⟩:=akp Y F
   have K:Clean as (λv=>U v\/v=u) (gJ as p h u 0).1 (gJ as p h u 0).2.1:=⟨s.f C.f,λv hv=>by
    by_cases j:v=u
    .subst j;exact⟨s0,W,V⟩
    .have⟨c1,c2,c3⟩:=C.c v (hv.resolve_right j);have⟨e1,e2⟩:=s.oth v j c1;exact⟨c1,c2,by rw[e1,e2];exact c3⟩⟩
   have⟨g1,g2⟩:=acH G;have g3:dr (gJ as p h u 0).1 u ≠ -9223372036854775808:=by have:=s.up;have:=BO C.f u;unfold cz at this;omega
   have g4:=Sq g3;have g5:=s.up;by_cases J:(fb p u).1=(fb (gJ as p h u 0).1 u).1
   .rw[ah J];refine⟨⟨λv H R=>?_,λ_ h=>(by cases h),s.cash,s.ie⟩,K⟩;show LQ p v-LQ (gJ as p h u 0).1 v=(0:Int);by_cases j:v=u
    .subst j;unfold LQ;omega
    .rw[acI (s.oth v j H).1];omega
   .rw[ag J];refine⟨⟨λv H R=>?_,λd X=>?_,s.cash,s.ie⟩,K⟩
    .dsimp only;unfold kC;rw[cx,qp];show _=(if u=v then LQ p u-LQ (gJ as p h u 0).1 u else 0)+0;by_cases j:u=v
     .subst j;rw[ah rfl];omega
     .rw[ag j,acI (s.oth v (λe=>j e.symm) H).1];omega
    .rw[ay.1 X];have o1:=BP C.f u;have o2:0<=LQ (gJ as p h u 0).1 u:=by omega
     refine⟨?_,hM u⟩;show 0<LQ p u-LQ (gJ as p h u 0).1 u/\cz (LQ p u-LQ (gJ as p h u 0).1 u);unfold cz at *;have:(fb p u).1=LQ p u:=rfl;have:LQ p u≠LQ (gJ as p h u 0).1 u:=J;omega
  .rw[ag F]at y;exact absurd y F
 .rw[ag G]at y;exact absurd y G
theorem afh{as}(ha:∀a∈as,ly a){M}{U}{b t}{n:Int}{p:List aZ}{h:List bp}(C:Clean as U p h)(hM:M b t)
 (K:0<n) (H:b≠t) (ht:t≠tU) (Y:n <= - dr p t) (J:dr p t ≠ -9223372036854775808) (hb:b=fU\/0<=dr p b/\n<=zi as (cE h b)+dr p b) (he:(jl as p h b t n).2.2.2=0):
 Fair M p h (jl as p h b t n).1 (jl as p h b t n).2.1 (jl as p h b t n).2.2.1/\Clean as U (jl as p h b t n).1 (jl as p h b t n).2.1/\av1 as b t n p h (jl as p h b t n).1 (jl as p h b t n).2.1:=by
 have⟨r,ed⟩:=ato ha (n3 K) H ht he;rw[ed];generalize (jl as p h b t n).1=p' at *;generalize (jl as p h b t n).2.1=h' at *;have⟨G,X⟩:=r.to;have⟨b1,R⟩:=r.by';have hI:=BO C.f t;refine⟨⟨λv W V=>?_,λd hd=>?_,r.cash,r.ie⟩,⟨r.f,λv hv=>?_⟩,r⟩
 .unfold kC;rw[cx,qp];dsimp only;by_cases j:t=v
  .subst j;rw[ah rfl,Sq J,Sq (by rw[G];unfold cz at hI;omega),G];omega
  .rw[ag j];by_cases y:v=b
   .subst y;have⟨c1,c2⟩:=hb.resolve_left V;have:=R c2;rw[Sq (by omega),Sq (by omega)];omega
   .rw[acI (r.oth v y (λe=>j e.symm) W).1];omega
 .rw[ay.1 hd];exact⟨⟨K,by show cz n;unfold cz at *;omega⟩,hM⟩
 .have⟨c1,c2,F⟩:=C.c v hv;refine⟨c1,c2,?_⟩;by_cases y:v=b
  .subst y;have⟨_,c5⟩:=hb.resolve_left c2;exact .inl (R c5)
  .by_cases j:v=t
   .subst j;rw[G,X];rcases F with F|F
    .left;omega
    .exact .inr F
   .have⟨e1,e2⟩:=r.oth v y j c1;rw[e1,e2];exact F
theorem d_{as}(X:∀a∈as,ly a){M}{U}{b t:ar}(Y:M b t)(hb:b=fU\/U b)(W:U t):
 FA as M U U (λp h=>Ew as p h b t):=by
 intro p h C j;dsimp only at j ⊢;unfold Ew at j ⊢;by_cases G:(fb p t).2.1=0
 .rw[ah G]at j ⊢;by_cases F:(uC as p h b).2.1=0
  .rw[ah F]at j ⊢;by_cases J:b=t
   .rw[ah J];exact⟨Fair.wF ..,C⟩
   .rw[ag J]at j ⊢;have⟨g1,g2⟩:=acH G;have g3:=akq F;have K:(fb p t).1=max 0 (- dr p t):=g2;generalize R:min (fb p t).1 (uC as p h b).1=n at *;rw[K,g3]at R;by_cases h0:n=0
    .subst h0;have e:jl as p h b t 0=(p,h,[],0):=by unfold jl;rw[ah rfl]
     rw[e];exact⟨Fair.wF ..,C⟩
    .have H:=C.c t W
     have:=afh X (M:=M) (b:=b) (t:=t) (n:=n) C Y (by omega) J H.1 (by omega) g1 (hb.imp id λV=>by
      have⟨_,_,y⟩:=C.c b V;rcases y with y|y
      .exact⟨y,by omega⟩
      .rw[y]at R ⊢;omega) j
     exact⟨this.1,this.2.1⟩
  .rw[ag F]at j;exact absurd j F
 .rw[ag G]at j;exact absurd j G
theorem e_{as}{M:ar->ar->Prop}{U:ar->Prop}:∀(l:List Ah),(∀a∈l,FA as M U U a)->∀(p:List aZ) (h:List bp) (d:List kA),Clean as U p h->(fD l p h d).2.2.2=0->
 ∃y,(fD l p h d).2.2.1=d++y/\Fair M p h (fD l p h d).1 (fD l p h d).2.1 y/\Clean as U (fD l p h d).1 (fD l p h d).2.1
 |[],_,p,h,d,C,_=>⟨[],by rw[bZ];rfl,Fair.wF ..,C⟩
 |a::l,hl,p,h,d,C,he=>by
  rw[fD]at he ⊢;by_cases j:(a p h).2.2.2=0
  .rw[ah j]at he ⊢;have⟨f,G⟩:=hl a bU p h C j;have⟨y,e,g,F⟩:=e_ l (λb hb=>hl b (bd _ hb)) _ _ _ G he;exact⟨(a p h).2.2.1++y,by rw[e,bn],f.trans g,F⟩
  .rw[ag j]at he;exact absurd he j
theorem afi{as}(F:∀a∈as,ly a){M:ar->ar->Prop}(G:∀u,M u u):∀(us:List ar) (U:ar->Prop),(∀u∈us,u≠fU)->∀(p:List aZ) (h:List bp) (d:List kA),Clean as U p h->(fD (jA as us) p h d).2.2.2=0->
 ∃y,(fD (jA as us) p h d).2.2.1=d++y/\Fair M p h (fD (jA as us) p h d).1 (fD (jA as us) p h d).2.1 y/\Clean as (λv=>U v\/v∈us) (fD (jA as us) p h d).1 (fD (jA as us) p h d).2.1
 |[],U,_,p,h,d,C,_=>⟨[],by rw[bZ];rfl,Fair.wF ..,C.f,λv hv=>C.c v (hv.resolve_right λh=>by cases h)⟩
 |u::us,U,hu,p,h,d,C,he=>by
  unfold jA at he ⊢;rw[bI,fD]at he ⊢;by_cases j:(FX as p h u).2.2.2=0
  .rw[ah j]at he ⊢;have⟨f,J⟩:=akr F G (U:=U) (hu u bU) p h C j;have⟨y,e,g,H⟩:=afi F G us _ (λb hb=>hu b (bd _ hb)) _ _ _ J he;refine⟨(FX as p h u).2.2.1++y,by rw[<-bn];exact e,f.trans g,H.f,λv hv=>H.c v ?_⟩;rcases hv with hv|hv
   .exact .inl (.inl hv)
   .rcases aB.1 hv with hv|hv
    .exact .inl (.inr hv)
    .exact .inr hv
  .rw[ag j]at he;exact absurd he j
theorem aks(o:List Int)(i k:Nat)(v:Int):(o.set i v).getD k 0=if i=k/\i<o.length then v else o.getD k 0:=by
 by_cases h:i=k
 .subst h;by_cases j:i<o.length
  .rw[ah ⟨rfl,j⟩];simp[j]
  .rw[ag (λh=>j h.2),List.set_eq_of_length_le (by omega)]
 .rw[ag (λj=>h j.1),getD_set_ne h]
theorem afj{B:List Int}:∀(qs:List CM) (o:List Int),(∀k,o.getD k 0<=B.getD k 0)->(∀q∈qs,0<=q.1/\o.getD q.1.toNat 0+1<=B.getD q.1.toNat 0)->(qs.Pairwise λa b=>a.1≠b.1)->∀k,(bump qs o).getD k 0<=B.getD k 0
 |[],o,h,_,_=>h
 |q::qs,o,h,G,hp=>by
  have⟨p1,p2⟩:=bw.1 hp;have C:=G q bU;refine afj qs _ (λk=>?_) (λF j=>?_) p2
  .rw[aks];split
   .next y=>rw[<-y.1];exact C.2
   .exact h k
  .have y:=G F (bd _ j);have H:=p1 F j;refine⟨y.1,?_⟩;rw[getD_set_ne (by omega)];exact y.2
theorem akt{T S w:Int}(hS:0<S)(y:T<=S)(j:0<=w):T*w / S<=w/\(0<T*w % S->T*w / S+1<=w):=by
 have a:=gz y j;have m:=mW (T*w) S;have c:=iw (T*w) (n3 hS);refine⟨?_,λC=>?_⟩
 .rcases Int.lt_or_le w (T*w / S)with g|g
  .have:=eI (show w+1<=T*w / S by omega) (gg hS);rw[nZ]at this;omega
  .exact g
 .rcases Int.lt_or_le w (T*w / S+1)with g|g
  .have:=eI (show w<=T*w / S by omega) (gg hS);omega
  .exact g
theorem f_{T}{l:List Int}(h:OkW T l)(k:Nat):(CN T l).getD k 0<=l.getD k 0:=by
 have nn:∀k,0<=l.getD k 0:=λk=>by
  rw[bV];cases e:l[k]? with
  |none=>simp
  |some v=>exact h.nn v (ir e)
 unfold CN;by_cases C:T=0
 .rw[ah C]
  have:(List.replicate l.length (0:Int)).getD k 0=0:=by
   rw[bV];cases e:(List.replicate l.length (0:Int))[k]? with
   |none=>rfl
   |some v=>exact List.eq_of_mem_replicate (ir e)
  rw[this];exact nn k
 .rw[ag C];have K:=h.quo C;have hS:0<l.sum:=by have:=h.t0;have:=h.ts;omega
  refine afj _ _ (λk=>?_) (λq G=>?_) ((Yu (Rq _ _ _ _)).sublist (Cw _ _)) k
  .by_cases j:k<l.length
   .have e:=LR T l.sum l 0 k j;have y:k<(partsOf (jm T l.sum l 0)).length:=by unfold partsOf;rw[aW,zj];exact j
    have F:(partsOf (jm T l.sum l 0))[k]=T*l[k] / l.sum:=(ku ..).trans (bS (λq:CM=>q.2.1) e);rw[bV,aw y,bV,aw j,fg,fg,F];exact(akt hS h.ts (h.nn _ (aE j))).1
   .have F:(partsOf (jm T l.sum l 0)).getD k 0=0:=by rw[bV,bD (by unfold partsOf;rw[aW,zj];omega)];rfl
    rw[F];exact nn k
  .have H:=K.pos q G;have hm:=(rG _).mem_iff.1 (eJ G);have J:=(K.q q hm).1;refine⟨J,?_⟩;rw[(Sr (n:=0) (acJ _ _ _) hm).1];obtain⟨k,j,rfl⟩:=gS hm;rw[zj]at j;rw[LR T l.sum l 0 k j]at H ⊢;rw[show(0+(k:Int)).toNat=k by omega,bV,aw j,fg];exact(akt hS h.ts (h.nn _ (aE j))).2 H
structure Yv(as:List fI)(U:ar->Prop)(p:List aZ)(h:List bp)(gs:List UA):Prop where
 nd:(gs.map (·.1)).Nodup
 u:∀g∈gs,U g.1
 g:∀g∈gs,0<=g.2/\(0<g.2->0<=dr p g.1/\g.2<=zi as (cE h g.1)+dr p g.1)
structure Yw(U:ar->Prop)(p:List aZ)(ts:List UA):Prop where
 nd:(ts.map (·.1)).Nodup
 u:∀g∈ts,U g.1
 t:∀g∈ts,0<=g.2/\(0<g.2->dr p g.1 ≠ -9223372036854775808/\g.2 <= - dr p g.1)
theorem g_{as}(ha:∀a∈as,ly a){M}{U}:∀(n:Nat) (gs ts:List UA),gs.length+ts.length<=n->(∀g∈gs,∀t∈ts,M g.1 t.1)->
 ∀(p:List aZ) (h:List bp) (d:List kA),Clean as U p h->Yv as U p h gs->Yw U p ts->(fD ((kx gs ts).map (o4 as)) p h d).2.2.2=0->
 ∃ds,(fD ((kx gs ts).map (o4 as)) p h d).2.2.1=d++ds/\Fair M p h (fD ((kx gs ts).map (o4 as)) p h d).1 (fD ((kx gs ts).map (o4 as)) p h d).2.1 ds/\Clean as U (fD ((kx gs ts).map (o4 as)) p h d).1 (fD ((kx gs ts).map (o4 as)) p h d).2.1
 |_,[],ts,_,_,p,h,d,C,_,_,_=>by rw[kx];exact⟨[],by rw[bZ];rfl,Fair.wF ..,C⟩
 |_,(u,x)::gs,[],_,_,p,h,d,C,_,_,_=>by rw[kx];exact⟨[],by rw[bZ];rfl,Fair.wF ..,C⟩
 |n,(u,x)::gs,(v,y)::ts,hn,hM,p,h,d,C,G,T,he=>by
  obtain⟨m,rfl⟩:∃m,n=m+1:=⟨n-1,by simp only[aJ]at hn;omega⟩;simp only[aJ]at hn;rw[kx,bI,fD]at he ⊢;have ax9:o4 as (u,v,min x y) p h=jl as p h u v (min x y):=rfl;rw[ax9]at he ⊢;have⟨gx0,gx⟩:=G.g (u,x) bU;have⟨ty0,ty⟩:=T.t (v,y) bU;have Gu:=G.u (u,x) bU;have Tv:=T.u (v,y) bU;have gnd:=dK.1 G.nd;have tnd:=dK.1 T.nd;have axA:M u v:=hM (u,x) bU (v,y) bU;dsimp only at gx0 gx ty0 ty Gu Tv
  have X:∀F K,(jl as p h u v (min x y)).1=F->(jl as p h u v (min x y)).2.1=K->(jl as p h u v (min x y)).2.2.2=0->
   Fair M p h F K (jl as p h u v (min x y)).2.2.1/\Clean as U F K/\(∀g∈gs,0<g.2->dr F g.1=dr p g.1/\cE K g.1=cE h g.1)/\(∀t∈ts,0<t.2->dr F t.1=dr p t.1)/\
   (x<=y->0<y-x->dr F v ≠ -9223372036854775808/\y-x <= - dr F v)/\(¬x<=y->0<x-y->0<=dr F u/\x-y<=zi as (cE K u)+dr F u):=by
   intro F K ep eh he1;by_cases h0:min x y=0
   .have e:jl as p h u v (min x y)=(p,h,[],0):=by unfold jl;rw[ah h0]
    rw[e]at ep eh ⊢;obtain rfl:p=F:=ep;obtain rfl:h=K:=eh;refine⟨Fair.wF ..,C,λ_ _ _=>⟨rfl,rfl⟩,λ_ _ _=>rfl,λY h2=>?_,λY h2=>?_⟩
    .have:=ty (by omega);exact⟨this.1,by omega⟩
    .have:=gx (by omega);exact⟨this.1,by omega⟩
   .have⟨g1,g2⟩:=gx (by omega);have⟨t1,t2⟩:=ty (by omega);have huv:u≠v:=λe=>by rw[e]at g1;omega
    have⟨f,C1,r⟩:=afh ha C axA (n:=min x y) (by omega) huv (C.c v Tv).1 (by omega) t1 (.inr ⟨g1,by omega⟩) he1;rw[ep,eh]at f C1 r;have⟨r1,r2⟩:=r.to;have⟨b1,b2⟩:=r.by';have b3:=b2 (by omega);have hI:=BO C.f v;unfold cz at hI;refine⟨f,C1,λg j W=>?_,λt V W=>?_,λY h2=>?_,λY h2=>?_⟩
    .have k1:=(G.g g (bd _ j)).2 W;refine r.oth g.1 (λe=>gnd.1 (aK.2 ⟨g,j,e⟩)) (λe=>?_) (C.c g.1 (G.u g (bd _ j))).1;rw[e]at k1;omega
    .have k1:=(T.t t (bd _ V)).2 W;refine(r.oth t.1 (λe=>?_) (λe=>tnd.1 (aK.2 ⟨t,V,e⟩)) (C.c t.1 (T.u t (bd _ V))).1).1;rw[e]at k1;omega
    .rw[r1];omega
    .omega
  generalize hr:jl as p h u v (min x y)=r at *;have⟨F,K,R,e0⟩:=r;by_cases Y:e0=0
  .rw[ah Y]at he ⊢;have⟨f,C1,m1,m2,m3,m4⟩:=X F K rfl rfl Y;have Gt:Yv as U F K gs:=⟨gnd.2,λg j=>G.u g (bd _ j),λg j=>⟨(G.g g (bd _ j)).1,λW=>by have⟨a1,a2⟩:=m1 g j W;rw[a1,a2];exact(G.g g (bd _ j)).2 W⟩⟩;have Tt:Yw U F ts:=⟨tnd.2,λg j=>T.u g (bd _ j),λg j=>⟨(T.t g (bd _ j)).1,λW=>by rw[m2 g j W];exact(T.t g (bd _ j)).2 W⟩⟩
   have fin:∀J H,J.length+H.length<=m->(∀g∈J,∀t∈H,M g.1 t.1)->Yv as U F K J->Yw U F H->(fD ((kx J H).map (o4 as)) F K (d++R)).2.2.2=0->
    ∃ds,(fD ((kx J H).map (o4 as)) F K (d++R)).2.2.1=d++ds/\Fair M p h (fD ((kx J H).map (o4 as)) F K (d++R)).1 (fD ((kx J H).map (o4 as)) F K (d++R)).2.1 ds/\Clean as U (fD ((kx J H).map (o4 as)) F K (d++R)).1 (fD ((kx J H).map (o4 as)) F K (d++R)).2.1:=by
    intro J H hl hM' G' T' he';have⟨ds,e1,f1,C2⟩:=g_ ha m J H hl hM' F K (d++R) C1 G' T' he';exact⟨R++ds,by rw[e1,bn],f.trans f1,C2⟩
   by_cases hc:x<=y
   .rw[ah hc]at he ⊢;refine fin gs ((v,y-x)::ts) (by simp only[aJ];omega) (λg j t V=>?_) Gt ⟨dK.2 tnd,λg j=>?_,λg j=>?_⟩ he
    .rcases aB.1 V with rfl|V
     .exact hM g (bd _ j) (v,y) bU
     .exact hM g (bd _ j) t (bd _ V)
    .rcases aB.1 j with rfl|j
     .exact Tv
     .exact Tt.u g j
    .rcases aB.1 j with rfl|j
     .exact⟨by omega,m3 hc⟩
     .exact Tt.t g j
   .rw[ag hc]at he ⊢;refine fin ((u,x-y)::gs) ts (by simp only[aJ];omega) (λg j t V=>?_) ⟨dK.2 gnd,λg j=>?_,λg j=>?_⟩ Tt he
    .rcases aB.1 j with rfl|j
     .exact hM (u,x) bU t (bd _ V)
     .exact hM g (bd _ j) t (bd _ V)
    .rcases aB.1 j with rfl|j
     .exact Gu
     .exact Gt.u g j
    .rcases aB.1 j with rfl|j
     .exact⟨by omega,m4 hc⟩
     .exact Gt.g g j
  .rw[ag Y]at he;exact absurd he Y
theorem afk{l:List ar}{t:List Int}(F:t.length=l.length){g:UA}(y:g∈l.zip t):∃(k:Nat) (j:k<l.length),g.1=l[k]/\g.2=t.getD k 0:=by
 obtain⟨k,j,rfl⟩:=gS y;have C:k<l.length:=by rw[qj]at j;omega
 refine⟨k,C,by rw[Ei],?_⟩;rw[Ei,bV,aw (by omega)];rfl
theorem h_{l:List ar}(f:ar->Int){k:Nat}(j:k<l.length):(l.map f).getD k 0=f l[k]:=by rw[bV,aw (by rw[aW];exact j),ku];rfl
theorem i_{as}(ha:∀a∈as,ly a){M:ar->ar->Prop}{U:ar->Prop}{l:List ar}(H:l.Nodup)(hl:l.length<=1000)(hU:∀u∈l,U u)(hM:∀b∈l,∀t∈l,M b t):FA as M U U (pE as l):=by
 intro p h C F;unfold pE at F ⊢;by_cases R:(gV (fb p) l []).2.2.1=0
 .rw[ah R]at F ⊢;by_cases K:(gV (l5 as p h) l []).2.2.1=0
  .rw[ah K]at F ⊢;have⟨w1,w2,c1,c2⟩:=j_ C.f hl R K;have⟨a1,_,_,a4⟩:=LU R;have⟨b1,_,_,b4⟩:=LU K;rw[cS]at a1 b1;have⟨s1,s2⟩:=w1.split;have⟨s3,s4⟩:=w2.split;have l1:(Fv as p h l).length=l.length:=s1.trans c1;have l2:(Fw as p h l).length=l.length:=s3.trans c2;have lg:∀g∈l.zip (Fv as p h l),g.1∈l:=λg j=>(qk (show(g.1,g.2)∈_ from j)).1
   have lt:∀g∈l.zip (Fw as p h l),g.1∈l:=λg j=>(qk (show(g.1,g.2)∈_ from j)).1
   have pos:∀t:List Int,(∀x∈t,0<=x/\x<=Yx as p h l)->∀g∈l.zip t,0<=g.2:=λt X g j=>(X _ (qk (show(g.1,g.2)∈l.zip t from j)).2).1
   have⟨ds,f1,f2,f3⟩:=g_ ha (M:=M) (U:=U) _ (l.zip (Fv as p h l)) (l.zip (Fw as p h l)) (au _) (λg j t X=>hM _ (lg g j) _ (lt t X)) p h [] C
    ⟨by rw[List.map_fst_zip (by omega)];exact H,λg j=>hU _ (lg g j),λg j=>⟨pos _ s2 g j,λY=>by
     have⟨k,J,W,V⟩:=afk l1 j;have y:(Fv as p h l).getD k 0<=_:=f_ w1 k;rw[b1,h_ _ J]at y;have G:=akq (as:=as) (p:=p) (h:=h) (u:=l[k]) (b4 _ (aE J));rw[W];unfold l5 at y;rw[V]at Y ⊢;by_cases hc:dr p l[k]<0
     .rw[ah hc]at y;omega
     .rw[ag hc,G]at y;omega⟩⟩
    ⟨by rw[List.map_fst_zip (by omega)];exact H,λg j=>hU _ (lt g j),λg j=>⟨pos _ s4 g j,λY=>by have⟨k,J,W,V⟩:=afk l2 j;have y:(Fw as p h l).getD k 0<=_:=f_ w2 k;rw[a1,h_ _ J]at y;have⟨o1,o2⟩:=acH (a4 _ (aE J));rw[W];unfold LQ at o2;rw[V]at Y ⊢;exact⟨o1,by omega⟩⟩⟩ F
   rw[cS]at f1;rw[f1];exact⟨f2,f3⟩
  .rw[ag K]at F;exact absurd F K
 .rw[ag R]at F;exact absurd F R
def ahz(t:aU)(id:Int)(b v:ar):Prop:=b=v\/b=fU\/∃a∈t.2.2.2.2.1,a.2.1=id/\(a.2.2.1=1/\b∈bW a\/a.2.2.1=2/\b∈bW a/\v∈bW a)
theorem Ib{a}{u}(h:u∈bW a):u.1=a.1:=by
 unfold bW at h;split at h
 .rw[ay.1 h]
 .obtain⟨c,_,rfl⟩:=aK.1 h;rfl
theorem k_{a}(h:avz a):(bW a).Nodup:=by
 unfold bW;split
 .simp
 .refine List.nodup_iff_pairwise_ne.2 (oa.2 (h.2.imp λj e=>?_));have:=bS (λu:ar=>u.2.1) e;dsimp only at this;omega
theorem Clean.mono{as}{U V}{p:List aZ}{h:List bp}(C:Clean as U p h)(hv:∀u,V u->U u):Clean as V p h:=⟨C.f,λv j=>C.c v (hv v j)⟩
theorem acK{t}(O:OkS t)(id:Int)(J:(fD (lP t id) (pu t) (ho t) []).2.2.2=0):
 Fair (ahz t id) (pu t) (ho t) (fD (lP t id) (pu t) (ho t) []).1 (fD (lP t id) (pu t) (ho t) []).2.1 (fD (lP t id) (pu t) (ho t) []).2.2.1:=by
 unfold lP yG at J ⊢;generalize hA:t.2.2.2.2.1.filter (po id)=A at *;have j:∀a∈A,a∈t.2.2.2.2.1/\a.2.1=id:=λa F=>by rw[<-hA]at F;have⟨G,W⟩:=aI.1 F;exact⟨G,bA W⟩
 have N1:∀u∈oo A,∃a∈A,u∈bW a:=λu C=>bQ.1 C
 have X:∀u∈lm A,∃a∈A,a.2.2.1=1/\u∈bW a:=λu C=>by have⟨a,F,C⟩:=bQ.1 C;have⟨G,W⟩:=aI.1 F;exact⟨a,G,by simpa using W,C⟩
 have ne1:∀u∈oo A,u≠fU:=λu C e=>by have⟨a,F,C⟩:=N1 u C;have G:=Ib C;have W:=(O.c a (j a F).1).1.1;rw[e]at G;have:(0:Int)=a.1:=G;omega
 have Y:∀a∈A,∀u∈bW a,u∈oo A:=λa F u C=>bQ.2 ⟨a,F,C⟩
 have hMr:∀u,ahz t id u u:=λu=>.inl rfl
 have F:=O.a;rw[Pu]at J ⊢;by_cases e1:(fD (jA (gN t) (oo A)) (pu t) (ho t) []).2.2.2=0
 .rw[ah e1]at J ⊢;have⟨d1,G,f1,C1⟩:=afi F hMr (oo A) (λ_=>False) ne1 (pu t) (ho t) [] ⟨O.f,λv hv=>hv.elim⟩ e1;have C1:=C1.mono (V:=λv=>v∈oo A) λu C=>.inr C
  rw[cS]at G;rw[G]at J ⊢
  have⟨d2,W,f2,C2⟩:=e_ (M:=ahz t id) (gn (gN t) A++(jB (gN t) (lm A) (oo A)++jB (gN t) [fU] (oo A))) (λa y=>by
   rcases aQ.1 y with y|y
   .obtain⟨x,hx,rfl⟩:=aK.1 y;have⟨H,x2⟩:=aI.1 hx;have hc:=O.c x (j x H).1;exact i_ F (k_ hc.1) (by have:=Du hc.2;omega) (Y x H) λb hb v hv=>.inr (.inr ⟨x,(j x H).1,(j x H).2,.inr ⟨by simpa using x2,hb,hv⟩⟩)
   .rcases aQ.1 y with y|y
    .have⟨u,C,hb⟩:=bQ.1 y;have⟨b,R,K⟩:=aK.1 hb;subst K;have⟨x,H,x2,x3⟩:=X b R;exact d_ F (.inr (.inr ⟨x,(j x H).1,(j x H).2,.inl ⟨x2,x3⟩⟩)) (.inr (Y x H b x3)) C
    .have⟨u,C,hb⟩:=bQ.1 y;have⟨b,R,K⟩:=aK.1 hb;subst K;obtain rfl:=ay.1 R;exact d_ F (.inr (.inl rfl)) (.inl rfl) C) _ _ d1 C1 J
  rw[W];exact f1.trans f2
 .rw[ag e1]at J;exact absurd J e1
def Y9(n:Nat)(q:Nat->Bool):Bool:=(List.range' 0 n).all q
theorem amW{X β}{n}(hn:n<9223372036854775808){F}(st:Nat->X)(q:Nat->Bool){r no:Option β}{z0:X}(hz:z0=st 0)
 (adB:∀again:X->Option β,F (st n) again=r)
 (T4:∀i,i<n->∀again:X->Option β,F (st i) again=bif q i then again (st (i+1))else no):
 aj.aV F z0=bif Y9 n q then r else no:=by
 subst hz
 have key:∀(m k i:Nat),i+m=n->m<k->xW k F (st i)=bif (List.range' i m).all q then r else no:=by
  intro m;induction m with
  |zero=>
   intro k i hi hk;cases k with
   |zero=>omega
   |succ k=>
    have:i=n:=by omega
    subst this;exact adB _
  |succ m j=>
   intro k i hi hk;cases k with
   |zero=>omega
   |succ k=>show F (st i) (xW k F)=_;rw[T4 i (by omega),j k (i+1) (by omega) (by omega),xl,List.all_cons];cases q i<;>rfl
 exact key n FU 0 (by omega) (by rw[PQ];omega)
theorem amX{n}{q}:Y9 n q=true↔∀i,i<n->q i=true:=by unfold Y9;rw[mq];exact⟨λh i hi=>h i (by rw[List.mem_range'_1];omega),λh i hi=>h i (by rw[List.mem_range'_1]at hi;omega)⟩
def zm(m:bB):Prop:=1<=m.1/\m.1<=8/\0<=m.2.1/\m.2.1<=4611686018427387904/\0<=m.2.2.1/\m.2.2.1<=3/\0<=m.2.2.2.1/\m.2.2.2.1<=2097152
instance (m:bB):Decidable (zm m):=by unfold zm;infer_instance
theorem J3(m):ZF m=some (if zm m then 0 else 2):=by
 refine bz λk j=>?_
 have y:k (true,())=some 2:=by subst j;rfl
 have C:∀c,k (c,())=if c=true then some 2 else some 0:=by intro c;subst j;cases c<;>rfl
 simp only[Bool.cond_decide,y,C,bg];by_cases h:zm m
 .rw[ah h];unfold zm at h;repeat' split
  all_goals first|rfl|(exfalso;omega)
 .rw[ag h];unfold zm at h;repeat' split
  all_goals first|rfl|(exfalso;omega)
theorem adC(a):Pq a=some (if ly a then 0 else 2):=by
 show pJ aj a=_;refine bz λk hk=>?_
 have kt:k (true,())=some 2:=by subst hk;rfl
 have kb:∀c,k (c,())=if c=true then some 2 else some 0:=by intro c;subst hk;cases c<;>rfl
 have e:sY aj a.2.1=_:=Sa _;rw[e];show(bif _ then _ else bif _ then _ else bif _ then _ else bif _ then _ else _)=_;simp only[Bool.cond_eq_ite,kt,kb,bg,jH,Bool.and_eq_false_iff,pk];by_cases h:ly a
 .rw[ah h];unfold ly at h;repeat' split
  all_goals first|rfl|(exfalso;omega)
 .rw[ag h];unfold ly at h;repeat' split
  all_goals first|rfl|(exfalso;omega)
def CU{α:Type}(l:List α)(p:Nat->α->Bool):Bool:=Y9 l.length λi=>if h:i<l.length then p i l[i]else true
theorem aaF{X α β}{l}(hn:l.length<9223372036854775808){F}(st:Nat->X)(p:Nat->α->Bool){r no:Option β}{z0:X}(hz:z0=st 0)
 (adB:∀again:X->Option β,F (st l.length) again=r)
 (T4:∀i (hi:i<l.length),∀again:X->Option β,F (st i) again=bif p i l[i]then again (st (i+1))else no):
 aj.aV F z0=bif CU l p then r else no:=
 amW hn st _ hz adB λi hi again=>by rw[zF hi];exact T4 i hi again
theorem GF{α}{l:List α}{p:Nat->α->Bool}:CU l p=true↔∀i (h:i<l.length),p i l[i]=true:=by
 unfold CU;rw[amX];constructor
 .intro h i hi;have:=h i hi;rwa [zF hi]at this
 .intro h i hi;rw[zF hi];exact h i hi
theorem ai2{X α β:Type}{l:List α}(hn:l.length<9223372036854775808){F:X->(X->Option β)->Option β}(st:Nat->X)(p:α->Bool)(e:Nat->Option β){r:Option β}{z0:X}(hz:z0=st 0)
 (adB:∀again:X->Option β,F (st l.length) again=r)
 (T4:∀i (hi:i<l.length),∀again:X->Option β,F (st i) again=bif p l[i]then e i else again (st (i+1))):
 (l.any p=true/\∃i,i<l.length/\aj.aV F z0=e i)\/(l.any p=false/\aj.aV F z0=r):=by
 subst hz
 have key:∀(m k i:Nat),i+m=l.length->m<k->((l.drop i).any p=true/\∃j,j<l.length/\xW k F (st i)=e j)\/((l.drop i).any p=false/\xW k F (st i)=r):=by
  intro m;induction m with
  |zero=>
   intro k i hi hk;cases k with
   |zero=>omega
   |succ k=>
    have:i=l.length:=by omega
    subst this;exact .inr ⟨by rw[fP];rfl,adB _⟩
  |succ m C=>
   intro k i hi hk;cases k with
   |zero=>omega
   |succ k=>
    have y:i<l.length:=by omega
    have G:xW (k+1) F (st i)=bif p l[i]then e i else xW k F (st (i+1)):=T4 i y _;rw[G,cu y,Db];cases hp:p l[i]with
    |true=>exact .inl ⟨rfl,i,y,rfl⟩
    |false=>rw[Dc];exact C k (i+1) (by omega) (by omega)
 have:=key l.length FU 0 (by omega) (by rw[PQ];omega)
 rwa [ry]at this
def prv(l:List Int)(i:Nat):Int:=if i=0 then 0 else l.getD (i-1) 0
theorem v_{l}{i}(hi:i<l.length):prv l (i+1)=l[i]:=by unfold prv;rw[ag (by omega),show i+1-1=i by omega,bV,aw hi];rfl
def N5(l:List Int)(i:Nat)(c:Int):Bool:=decide (1<=c/\c<=16/\(0<i->prv l i<c))
def aqx(l:List Int)(i:Nat)(c:Int):Bool:=decide (prv l i<c/\c<=16)
theorem auG(l):CU l (aqx l)=CU l (N5 l):=by
 apply tn.2;rw[GF,GF];unfold aqx N5;simp only[bg];constructor
 .intro h
  have pos:∀i (hi:i<l.length),1<=l[i]:=by
   intro i;induction i with
   |zero=>intro hi;have:=(h 0 hi).1;unfold prv at this;rw[ah rfl]at this;omega
   |succ i j=>intro hi;have:=(h (i+1) hi).1;rw[v_ (by omega)]at this;have:=j (by omega);omega
  exact λi hi=>⟨pos i hi,(h i hi).2,λ_=>(h i hi).1⟩
 .intro h i hi;refine⟨?_,(h i hi).2.1⟩;by_cases y:i=0
  .subst y;have:=(h 0 hi).1;unfold prv;rw[ah rfl];omega
  .exact(h i hi).2.2 (by omega)
theorem aqy{l}(h:CU l (N5 l)=true):l.length<=16:=by
 rw[GF]at h;unfold N5 at h;simp only[bg]at h
 have up:∀i (hi:i<l.length),(i:Int)+1<=l[i]:=by
  intro i;induction i with
  |zero=>intro hi;have:=(h 0 hi).1;omega
  |succ i j=>intro hi;have:=(h (i+1) hi).2.2 (by omega);rw[v_ (by omega)]at this;have:=j (by omega);omega
 by_cases y:l.length=0
 .omega
 .have:=up (l.length-1) (by omega);have:=(h (l.length-1) (by omega)).2.1;omega
def ak2(a:aN):Prop:=(1<=a.1/\a.1<=16)/\(1<=a.2.1/\a.2.1<=8)/\(1<=a.2.2.1/\a.2.2.1<=4)/\(a.2.2.1=1->a.2.2.2.1.length=0)/\(a.2.2.1=4->a.2.2.2.1.length<=1)
instance (a:aN):Decidable (ak2 a):=by unfold ak2;infer_instance
def okA(a:aN):Bool:=decide (ak2 a)&&CU a.2.2.2.1 (N5 a.2.2.2.1)
theorem agt(k):Xp k=some (if k=1 then 0 else if k=4 then 1 else 16):=by
 show tD aj k=_;unfold tD;by_cases y:k=1
 .rw[aT (by simp[y]),ah y]
 .rw[az (by simp[y]),ag y];by_cases j:k=4
  .rw[aT (by simp[j]),ah j]
  .rw[az (by simp[j]),ag j]
theorem OM{a}(hl:a.2.2.2.1.length<=1000000):adD a=some (if okA a=true then 0 else 2):=by
 show q' aj a=_;unfold q';have e1:tD aj a.2.2.1=_:=agt _;rw[e1];refine bz λR y=>?_
 have X:R (false,())=some 2:=by subst y;rfl
 have kt:R (true,())=if(1<=a.2.2.1/\a.2.2.1<=4)/\((a.2.2.2.1.length:Int)<=if a.2.2.1=1 then 0 else if a.2.2.1=4 then 1 else 16)/\CU a.2.2.2.1 (N5 a.2.2.2.1)=true then some 0 else some 2:=by
  subst y;show aj.aG _ _=_;refine bz λk8 V=>?_
  have J:k8 (true,())=some 2:=by subst V;exact aT rfl _ _
  have Y:k8 (false,())=if CU a.2.2.2.1 (N5 a.2.2.2.1)=true then some 0 else some 2:=by
   subst V;refine(az (c:=false) rfl _ _).trans ?_;refine(aaF (l:=a.2.2.2.1) (by omega) (λi=>(prv a.2.2.2.1 i,(i:Int),())) (aqx a.2.2.2.1) (r:=some 0) (no:=some 2) rfl (λF=>dV _ _) λi hi F=>?_).trans ?_
   .refine HX hi ?_;rw[bO hi];refine bz λk K=>?_
    have k1:k (true,())=some 2:=by subst K;rfl
    have k2:k (false,())=F (prv a.2.2.2.1 (i+1),((i+1:Nat):Int),()):=by rw[<-cP i,v_ hi];subst K;rfl
    unfold aqx;refine de (λG=>?_) λG=>?_
    .rw[k1,an (by omega)];rfl
    .by_cases C:16<a.2.2.2.1[i]
     .rw[ap C,k1,an (by omega)];rfl
     .rw[an C,k2,ap (by omega)];rfl
   .rw[auG];cases CU a.2.2.2.1 (N5 a.2.2.2.1)<;>rfl
  refine(az (c:=!true) rfl _ _).trans ?_;by_cases G:a.2.2.1<1
  .rw[eG G,J,ag (by omega)]
  rw[cV G];by_cases C:4<a.2.2.1
  .rw[eG C,J,ag (by omega)]
  rw[cV C,ai rfl];generalize (if a.2.2.1=1 then(0:Int)else if a.2.2.1=4 then 1 else 16)=mo;by_cases H:mo<(a.2.2.2.1.length:Int)
  .rw[ap H,J,ag (by omega)]
  .rw[an H,Y];by_cases j:CU a.2.2.2.1 (N5 a.2.2.2.1)=true
   .rw[ah j,ah ⟨by omega,by omega,j⟩]
   .rw[ag j,ag λh=>j h.2.2]
 clear y
 have e:(if okA a=true then(0:Int)else 2)=if((1<=a.1/\a.1<=16)/\(1<=a.2.1/\a.2.1<=8))/\(1<=a.2.2.1/\a.2.2.1<=4)/\((a.2.2.2.1.length:Int)<=if a.2.2.1=1 then 0 else if a.2.2.1=4 then 1 else 16)/\CU a.2.2.2.1 (N5 a.2.2.2.1)=true then 0 else 2:=by
  by_cases h:okA a=true
  .rw[ah h];have W:=h;unfold okA at W;rw[aD,bg]at W;have hc:=aqy W.2;have hh:=W.1;unfold ak2 at hh;rw[ah ⟨⟨hh.1,hh.2.1⟩,hh.2.2.1,by split<;>(try split)<;>omega,W.2⟩]
  .rw[ag h,ag];rintro⟨⟨G,C⟩,H,j,h5⟩;refine h ?_;unfold okA;rw[aD,bg];refine⟨?_,h5⟩;refine⟨G,C,H,λK=>?_,λK=>?_⟩
   .rw[ah K]at j;omega
   .rw[ag (by omega),ah K]at j;omega
 rw[e];refine de (λG=>?_) λG=>?_
 .refine de (λC=>?_) λC=>?_
  .refine de (λH=>?_) λH=>?_
   .by_cases j:a.2.1<=8
    .rw[ap j,kt];by_cases h:(1<=a.2.2.1/\a.2.2.1<=4)/\((a.2.2.2.1.length:Int)<=if a.2.2.1=1 then 0 else if a.2.2.1=4 then 1 else 16)/\CU a.2.2.2.1 (N5 a.2.2.2.1)=true
     .rw[ah h,ah ⟨⟨⟨G,C⟩,H,j⟩,h⟩]
     .rw[ag h,ag λg=>h g.2]
    .rw[an j,X,ag λg=>j g.1.2.2]
   .rw[X,ag λg=>H g.1.2.1]
  .rw[X,ag λg=>C g.1.1.2]
 .rw[X,ag λg=>G g.1.1.1]
theorem auH{X α γ:Type}{l:List α}(hn:l.length<9223372036854775808){F:X->(X->Option (γ×Bool×Unit))->Option (γ×Bool×Unit)}(st:Nat->X)(p:α->Bool)(e:Nat->γ){d:γ}{z0:X}(hz:z0=st 0)
 (adB:∀again:X->Option (γ×Bool×Unit),F (st l.length) again=some (d,false,()))
 (T4:∀i (hi:i<l.length),∀again:X->Option (γ×Bool×Unit),F (st i) again=bif p l[i]then some (e i,true,())else again (st (i+1))):
 ∃x,aj.aV F z0=some (x,l.any p,()):=by
 rcases ai2 hn st p (λi=>some (e i,true,())) hz adB T4 with⟨h1,i,y,j⟩|⟨h1,j⟩
 .exact⟨_,by rw[h1];exact j⟩
 .exact⟨_,by rw[h1];exact j⟩
theorem Xq{l:List bu}{id:Int}(hl:l.length<=1000000):∃x,JB l id=some (x,l.any λy=>y.1==id,()):=by
 refine auH (l:=l) (by omega) (λi=>((i:Int),())) (λy=>y.1==id) (λi=>l.getD i default) (z0:=(0,())) rfl (λagain=>dV _ _) (λi hi again=>?_);have e:l.getD i default=l[i]:=by rw[bV,aw hi];rfl
 rw[dx hi,bO hi,cP i,e]
theorem aaG{a}(h:a.2.2.2.1.length<=1000):(bW a).length<=1000:=by
 unfold bW;split
 .simp
 .rw[aW];exact h
theorem ai3{l:List aN}(j:∀a∈l,a.2.2.2.1.length<=1000):(l.flatMap bW).length<=1000*l.length:=by
 induction l with
 |nil=>simp
 |cons a l y=>
  rw[cF,aq,aJ];have F:=aaG (j a bU);have C:=y λb hb=>j b (bd _ hb)
  omega
def chP(l:List cd)(i:Nat)(x:cd):Bool:=decide (x.1≠x.2.1/\(∀(j:0<i) (hi:i-1<l.length),oj l[i-1].1 x.1))
theorem awL(a b:ar):(cX false ((a.1==b.1)&&(a.2.1==b.2.1)))=decide (a=b):=by have⟨y,a2,_⟩:=a;have⟨b1,j,_⟩:=b;apply tn.2;rw[bg];show((y==b1)&&(a2==j))=true↔_;simp
theorem agu{l:List cd}(hl:l.length<=1000000):amY l=some (CU l (chP l)):=by
 refine(aaF (l:=l) (by omega) (λi=>((i:Int),())) (chP l) (r:=some true) (no:=some false) rfl (λj=>dV _ _) λi hi j=>?_).trans (by cases CU l (chP l)<;>rfl);refine HX hi ?_;rw[bO hi];refine bz λk J=>?_
 have H:k (true,())=some false:=by subst J;rfl
 have G:k (false,())=j (((i+1:Nat):Int),()):=by rw[<-cP i];subst J;rfl
 rw[awL];unfold chP;refine de (λC=>?_) λC=>?_
 .rw[H,an (λh=>h.1 C)];rfl
 .by_cases F:0<i
  .rw[eG (by omega),Hb i F (by rw[iE];omega),bO,ai (B4 _ _)];by_cases y:oj l[i-1].1 l[i].1
   .rw[ap y];refine G.trans ?_;rw[ap ⟨C,λ_ _=>y⟩];rfl
   .rw[an y];refine H.trans ?_;rw[an λh=>y (h.2 F (by omega))];rfl
  .rw[cV (by omega),G,ap ⟨C,λh=>absurd h F⟩];rfl
theorem ag5(z):0<=kz z:=by unfold kz;split<;>omega
theorem IF{z}(h:¬cz z):cW z=(0,7,()):=by unfold cW;rw[ag h]
theorem IG{z}(h:cz z):cW z=(z,0,()):=by unfold cW;rw[ah h]
theorem awZ{a}(h:cz a):LH a=some (cW (kz a)):=by
 show uF aj a=_;unfold uF kz;by_cases j:a<0
 .have e:=Jv (a:=0) (b:=a) (by unfold cz;omega) h;rw[zC]at e;rw[eG j,ah j,ai e]
 .rw[cV j,ag j,IG h]
def EX(l:List oF):Int:=cI (λx=>kz x.2.1) l
theorem Uk{α}{f}:∀{l:List α},(∀x∈l,0<=f x)->0<=cI f l
 |[],_=>by rw[qp];omega
 |x::l,h=>by
  have:=h x (by simp);have:=Uk (l:=l) λy j=>h y (by simp[j])
  rw[cx];omega
theorem Ul(l):0<=EX l:=Uk λ_ _=>ag5 _
def adP(l:List oF):Int×Int×Unit:=if En l=true then cW (EX l)else(0,3,())
theorem ag6{z}(h:9223372036854775807<z):¬cz z:=by unfold cz;omega
theorem aqH{l}(ho:Vm l)(hl:l.length<=1000):aiF l=some (adP l):=by
 show AP aj l=_;unfold AP adP;rw[ai (R0 (l:=l) (by omega))];cases hv:En l with
 |false=>rw[aT (by rfl)];rfl
 |true=>
  rw[az (by rfl),ah rfl];refine(mS (l:=l) (s0:=[]) (by omega) (λi (z:List Int)=>((i:Int),z,())) (λi z=>z.length<=i/\(∀x∈z,cz x)/\0<=z.sum) (λl' z=>some (cW (z.sum+EX l'))) rfl ⟨au _,by simp,by simp⟩ ?_ ?_).trans ?_
  .rintro z ⟨J,F,H⟩ j;refine F8 ?_;rw[ai (tv F (by omega))];show some (cW z.sum)=some (cW (z.sum+0));rw[n9]
  .rintro i hi z ⟨J,F,H⟩ j G;show aj.af (decide ((i:Int)<(l.length:Int))) (aj.aH l (i:Int) _) _=_;have y:=ho _ (aE hi);have K:=ag5 l[i].2.1;have R:=Ul (l.drop (i+1));rw[dx hi,bO hi];show aj.ae (LH l[i].2.1) _=some (cW (z.sum+(kz l[i].2.1+EX (l.drop (i+1)))));rw[ai (awZ y)];by_cases C:cz (kz l[i].2.1)
   .rw[IG C,az (by rfl)];show aj.bc (z.length+1) 8 (j (i64.wrap ((i:Int)+1),z++[kz l[i].2.1],()))=_;rw[da,cP i];refine(G (z++[kz l[i].2.1]) ⟨by simp;omega,λx y=>?_,by simp;omega⟩).trans ?_
    .rcases aQ.1 y with y|y
     .exact F x y
     .simp only[ay]at y;subst y;exact C
    .rw[lr,fG,vB];congr 2;omega
   .rw[IF C,aT (by rfl),IF (ag6 (by unfold cz at C;omega))]
  .rw[vB,r']
def ag7(l:List cj)(us:List ar):Int:=cI (λu=>EX (ql l u)) us
def AQ(l:List cj)(us:List ar):Int×Int×Unit:=if sH l=true then cW (ag7 l us)else(0,3,())
theorem ag8{l}(h:sH l=true)(u):En (ql l u)=true:=ap (awU (bA h) u)
theorem aqI(l)(us):0<=ag7 l us:=Uk λ_ _=>Ul _
theorem ans{l}{us}(hb:okB l)(hl:us.length<=100000):OU l us=some (AQ l us):=by
 show wX aj l us=_;unfold wX AQ;rw[ai (Gc hb)];cases hv:sH l with
 |false=>rw[aT (by rfl)];rfl
 |true=>
  rw[az (by rfl),ah rfl];refine(mS (l:=us) (s0:=[]) (by omega) (λi (z:List Int)=>((i:Int),z,())) (λi z=>z.length<=i/\(∀x∈z,cz x)/\0<=z.sum) (λl' z=>some (cW (z.sum+ag7 l l'))) rfl ⟨au _,by simp,by simp⟩ ?_ ?_).trans ?_
  .rintro z ⟨J,F,H⟩ j;refine F8 ?_;rw[ai (tv F (by omega))];show some (cW z.sum)=some (cW (z.sum+0));rw[n9]
  .rintro i hi z ⟨J,F,H⟩ j G;show aj.af (decide ((i:Int)<(us.length:Int))) (aj.aH us (i:Int) _) _=_;obtain⟨o1,K⟩:=NN hb us[i];have R:=Ul (ql l us[i]);have V:=aqI l (us.drop (i+1));rw[dx hi,bO hi,ai (RZ hb),ai (aqH o1 (by omega))];show _=some (cW (z.sum+(EX (ql l us[i])+ag7 l (us.drop (i+1)))));unfold adP;rw[ah (ag8 hv _)];by_cases C:cz (EX (ql l us[i]))
   .rw[IG C,az (by rfl)];show aj.bc (z.length+1) 8 (j (i64.wrap ((i:Int)+1),z++[EX (ql l us[i])],()))=_;rw[da,cP i];refine(G (z++[EX (ql l us[i])]) ⟨by simp;omega,λx y=>?_,by simp;omega⟩).trans ?_
    .rcases aQ.1 y with y|y
     .exact F x y
     .simp only[ay]at y;subst y;exact C
    .rw[lr,fG,vB];congr 2;omega
   .rw[IF C,aT (by rfl),IF (ag6 (by unfold cz at C;omega))]
  .rw[vB,r']
def j9(id:Int)(l:List aN):List ar:=(l.filter (po id)).flatMap bW
theorem adQ{id}{l}(h:∀a∈l,a.2.2.2.1.length<=1000)(hl:l.length<=20):(j9 id l).length<=20000:=by
 have C:=ai3 (l:=l.filter (po id)) λa j=>h a (aI.1 j).1
 have y:=cp (po id) l;unfold j9;omega
theorem ant{s}{id}(F:qP s.2.2.2.2.1)(hl:s.2.2.2.2.1.length<=20):adR s id=some (j9 id s.2.2.2.2.1):=by
 show yb aj s id=_;unfold yb;have hm:∀a∈s.2.2.2.2.1.filter (po id),a.2.2.2.1.length<=1000:=λa y=>F.1 a (aI.1 y).1
 have H:(s.2.2.2.2.1.filter (po id)).length<=20:=cn (cp _ _) hl;rw[ai (Wn F)];unfold j9;generalize s.2.2.2.2.1.filter (po id)=l at *;refine(mS (l:=l) (s0:=[]) (by omega) (λi (z:List ar)=>((i:Int),l,z,())) (λi z=>z.length<=1000*i) (λl' z=>some (z++l'.flatMap bW)) rfl (au _) ?_ ?_).trans (by rw[cS])
 .intro z _ j;refine F8 ?_;rw[List.flatMap_nil,bZ]
 .intro i hi z J j y;show aj.af (decide ((i:Int)<(l.length:Int))) (aj.aH l (i:Int) λ_=>aj.cr l (Int.toNat (i:Int)) _) _=_;have C:=hm _ (aE hi);have G:=Ep C;rw[dx hi,bO hi,ij hi,ai (xD C)];show aj.bc (z.length+(bW l[i]).length) 16 (j (i64.wrap ((i:Int)+1),l,z++bW l[i],()))=_;rw[da,cP i,y _ (by rw[aq];omega),cF,bn]
def uY(s:aU)(id:Int):Int×Int×Unit:=AQ (bk s) (j9 id s.2.2.2.2.1)
theorem adS{s}{id}(j:qP s.2.2.2.2.1)(hl:s.2.2.2.2.1.length<=20)(hb:okB (bk s)):Xt s id=some (uY s id):=by show tE aj s id=_;unfold tE;have:=adQ (id:=id) j.1 hl;have e:OU s.2.2.2.2.2.2.2.2.1 (j9 id s.2.2.2.2.1)=some (uY s id):=ans hb (by omega);rw[ai (ant j hl),ai e]
def ch(s:aU):List cd:=s.2.2.2.2.2.1
def ag9(l:List cd)(u:ar):Option cd:=l.find? λc=>decide (c.1=u)
def K_:cd:=((0,0,()),(0,0,()),false,())
theorem aqJ{l}{u}(hl:l.length<=1000000):adT l u=some (match ag9 l u with|some i=>(i,true,())|none=>(K_,false,())):=by
 show yc aj l u=_;unfold yc
 have y:iP u.1 u.2.1 l=some (zb (λc=>decide (c.1=u)) l,u):=by
  show dg aj u.1 u.2.1 l=_;refine uu hl (λc=>decide (c.1=u)) (λm (c:ar)=>Um c.1 c.2.1 m) u λx _=>?_
  show some (cX false ((x.1.1==u.1)&&(x.1.2.1==u.2.1)),u)=_;rw[ur]
 have C:aba l u=some (zb (λc=>decide (c.1=u)) l):=by show tV aj l u=_;unfold tV;rw[ai y]
 rw[ai C];unfold ag9;rcases lx (λc:cd=>decide (c.1=u)) l with⟨h1,j⟩|⟨k,hk,h1,j,_⟩
 .rw[h1,j,aT (by decide)];rfl
 .rw[h1,j,cV (by omega),bO hk]
def AR(l:List cd)(u:ar):ar×Int×Unit:=
 match ag9 l u with
 |none=>((0,0,()),19,())
 |some c=>if c.2.2.1=true then(c.2.1,0,())else((0,0,()),20,())
theorem aqK{l}{u}(hl:l.length<=1000000):P0 l u=some (AR l u):=by
 show uZ aj l u=_;unfold uZ AR;rw[ai (aqJ hl)];cases ag9 l u with
 |none=>rfl
 |some c=>refine zG rfl ?_;cases h:c.2.2.1<;>simp only[h]<;>rfl
def anu(m:bB)(day:Int):Int:=if m.2.2.1=1/\day<=m.2.2.2.1 then 0 else 18
theorem aqL(m)(day):adU m day=some (anu m day):=by
 show yd aj m day=_;unfold yd anu
 have e:∃n,adV m day=some n/\(n=0↔¬(m.2.2.1=1/\day<=m.2.2.2.1)):=by
  show ∃n,B5 aj m day=some n/\_;by_cases j:m.2.2.1=1
  .by_cases y:m.2.2.2.1<day
   .refine⟨0,yC true (λk=>?_) rfl,by omega⟩;rw[iD j,ap y]
   .refine⟨_,yC false (λk=>?_) rfl,?_⟩
    .rw[iD j,an y]
    .split<;>omega
  .refine⟨0,yC true (λk=>fT j _ _) rfl,by omega⟩
 have⟨n,F,C⟩:=e;rw[ai F];refine dM (λh=>?_) λh=>?_
 .rw[ag (C.1 h)]
 .rw[ah (CD.1 λhh=>h (C.2 hh))]
def agA(j used more:Int):Int:=if used<0\/more<0 then 2 else if j<used+more then 16 else 0
theorem aqM{m}{used more}(H:cz used)(hm:cz more)(K:cz m.2.1):abb m used more=some (agA m.2.1 used more):=by
 show u2 aj m used more=_;unfold u2 agA
 have e:Xu used [more]=some (if more<used then more else used):=by
  show AS aj used [more]=_;refine mS (l:=[more]) (s0:=()) (by simp) (λi (_:Unit)=>((if i=0 then used else if more<used then more else used),(i:Int),())) (λ_ _=>True) (λ_ _=>some (if more<used then more else used)) rfl trivial ?_ ?_
  .intro _ _ j;rfl
  .intro i hi _ _ j J;have:i=0:=by simp at hi;exact hi
   subst this;exact J () trivial
 rw[ai e];by_cases F:used<0\/more<0
 .rw[eG (by split<;>omega),ah F]
 .have G:=tv (l:=[used,more]) (λx y=>by
   simp only[aB,dD,kO]at y;rcases y with rfl|rfl
   .exact H
   .exact hm) (by simp)
  have es:[used,more].sum=used+more:=by simp
  rw[es]at G;rw[cV (by split<;>omega),ag F,ai G];refine yC (decide (m.2.1<used+more)) (λk=>?_) ?_
  .by_cases C:cz (used+more)
   .rw[IG C];rfl
   .rw[IF C,aT (by rfl),ap (by unfold cz at *;omega)]
  .show aj.af (decide (m.2.1<used+more)) (some 16) (some 0)=_;rw[axa];split<;>rfl
instance (a b:bu):Decidable (CJ a b):=by infer_instance
instance (x:bu):Decidable (j8 x):=by infer_instance
instance (l:List bu):Decidable (Dq l):=by infer_instance
instance (l:List bp):Decidable (Yo l):=by infer_instance
def XC(p:List aZ)(h:List bp)(u:ar):dY:=(u,max 0 (dr p u),cE h u,())
abbrev PHR:=List aZ×List bp×List dY
def sf(z:PHR)(u:ar):PHR:=if max 0 (dr z.1 u)=0/\cE z.2.1 u=[]then z else((qw z.1 [(u,-(max 0 (dr z.1 u)),())]).1,eB z.2.1 u,z.2.2++[XC z.1 z.2.1 u])
theorem Sv{p}(y:wy p=true)(C:ta p)(u)(c)(K:c=max 0 (dr p u)):
 (qw p [(u,-c,())]).2.1=0/\wy (qw p [(u,-c,())]).1=true/\ta (qw p [(u,-c,())]).1/\
 (qw p [(u,-c,())]).1.length<=p.length+1/\
 (∀x,dr (qw p [(u,-c,())]).1 x=if x=u then dr p u-c else dr p x)/\
 cI xt (qw p [(u,-c,())]).1+c=cI xt p:=by
 have hs:∀x,me (p++[(u,-c,())]) x=if x=u then dr p u-c else dr p x:=λx=>by
  rw[Sl,qo,<-Gs (Sm y)];show dr p x+((if u=x then -c else 0)+0)=_;by_cases h:x=u
  .subst h;rw[ah rfl,ah rfl];omega
  .rw[ag (hZ h),ag h];omega
 have G:∀x,cz (me (p++[(u,-c,())]) x):=λx=>by
  have J:=IE C x;have R:=IE C u;rw[hs x];split
  .unfold cz at *;omega
  .exact J
 have F:(qw p [(u,-c,())]).2.1=0:=by unfold qw;rw[ah y];exact J9 _ λx _=>G x
 have⟨_,j,H⟩:=H9 F;refine⟨F,by rw[j];exact Rr (wG _),by rw[j];exact Yp H,Sh _ _,λx=>by rw[j,Sk,hs x],?_⟩;rw[j,LN,kR,cx,qp];show cI xt p+(-c+0)+c=cI xt p;omega
structure GOk(p0:List aZ)(h0:List bp)(z:PHR)(us:List ar):Prop where
 p:wy z.1=true
 f:ta z.1
 h:HS z.2.1
 lp:z.1.length<=p0.length+us.length
 lh:z.2.1.length<=h0.length
 cash:cI xt z.1+cI (λr:dY=>r.2.1) z.2.2=cI xt p0
 ie:∀k,FY k z.2.1+cI (λr:dY=>ahS k r.2.2.1) z.2.2=FY k h0
 get:∀x,x∉us->dr z.1 x=dr p0 x/\cE z.2.1 x=cE h0 x
 len:z.2.2.length<=us.length
 ret:∀r∈z.2.2,0<=r.2.1/\r.2.1<=9223372036854775807/\tu r.2.2.1
theorem aiN{H}{J}{z}{us}(G:GOk H J z us)(u):GOk H J (sf z u) (us++[u]):=by
 have R:(us++[u]).length=us.length+1:=by simp
 have j:=p9 G.h.2 u;unfold sf;split
 .exact⟨G.p,G.f,G.h,by have:=G.lp;omega,G.lh,G.cash,G.ie,λx F=>G.get x λh=>F (by simp[h]),by have:=G.len;omega,G.ret⟩
 .have⟨_,X,W,b4,V,b6⟩:=Sv G.p G.f u _ rfl;have K:=IE G.f u;refine⟨X,W,abr G.h u,by dsimp only;have:=G.lp;omega,cn (cp _ _) G.lh,?_,λk=>?_,λx F=>?_,by rw[aq];have:=G.len;simp;omega,λr y=>?_⟩
  .rw[kR,cx,qp];have:=G.cash;show cI xt (qw z.1 _).1+(cI _ z.2.2+(max 0 (dr z.1 u)+0))=_;omega
  .rw[kR,cx,qp];have h1:=G.ie k;have Y:=abt G.h.1 u k;show FY k (eB z.2.1 u)+(cI _ z.2.2+(ahS k (cE z.2.1 u)+0))=_;omega
  .have C:x≠u:=λe=>F (by simp[e])
   have:=G.get x λh=>F (by simp[h])
   refine⟨?_,?_⟩
   .rw[<-this.1];rw[V,ag C]
   .rw[<-this.2];rw[ZP,ag C]
  .rcases aQ.1 y with y|y
   .exact G.ret r y
   .simp only[ay]at y;subst y;refine⟨?_,?_,j⟩
    .show 0<=max 0 (dr z.1 u);omega
    .show max 0 (dr z.1 u)<=_;unfold cz at K;omega
theorem YP{j}{y}:∀(vs us:List ar) {z:PHR},GOk j y z us->GOk j y (vs.foldl sf z) (us++vs)
 |[],us,z,G=>by rw[bZ];exact G
 |u::vs,us,z,G=>by have:=YP vs (us++[u]) (aiN G u);rw[bn]at this;exact this
theorem SX{j}{y:List bp}(F:wy j=true)(G:ta j)(hh:HS y):GOk j y (j,y,[]) []:=⟨F,G,hh,by simp,au _,by show cI xt j+0=_;omega,λk=>by show FY k y+0=_;omega,λx _=>⟨rfl,rfl⟩,au _,λr C=>by cases C⟩
theorem anH{s}{u}(j:(pu s).length<=1000000)(hh:lk (ho s)):ZQ s u=some (XC (pu s) (ho s) u):=by
 show Hk aj s u=_;unfold Hk;have C:nl s.2.2.2.2.2.2.2.2.2.2.1 u=some (dr (pu s) u):=Gl j;have y:H' s.2.2.2.2.2.2.2.2.2.2.2.1 u=some (cE (ho s) u):=zg hh;rw[ai C,ai y];unfold XC;have:(if dr (pu s) u>0 then dr (pu s) u else 0)=max 0 (dr (pu s) u):=by split<;>omega
 rw[this]
def zst(s:aU)(w:List aN)(p:List aZ)(h:List bp)(out:List dY):=(s.1,s.2.1,s.2.2.1,s.2.2.2.1,s.2.2.2.2.1,s.2.2.2.2.2.1,s.2.2.2.2.2.2.1,s.2.2.2.2.2.2.2.1,s.2.2.2.2.2.2.2.2.1,s.2.2.2.2.2.2.2.2.2.1,p,h,w,out,())
def zsu(s:aU)(w:List aN)(p:List aZ)(h:List bp)(out:List dY)(v:List ar):=(s.1,s.2.1,s.2.2.1,s.2.2.2.1,s.2.2.2.2.1,s.2.2.2.2.2.1,s.2.2.2.2.2.2.1,s.2.2.2.2.2.2.2.1,s.2.2.2.2.2.2.2.2.1,s.2.2.2.2.2.2.2.2.2.1,p,h,w,out,v,())
theorem aqY{l}{u}(h:lk l)(hi:Bz l=true):abv l u []=some (eB l u,0,()):=by
 show IJ aj l u []=_;have G:Rl l=some true:=by rw[JG h,hi]
 have F:agJ []=some true:=Sc (by simp);refine bz λk y=>?_
 have j:k (0,())=some (eB l u,0,()):=by
  subst y;show aj.ae (Gp l u [] 0) _=_;have C:Gp l u [] 0=some (eB l u,0,()):=by show lO aj l u [] 0=_;unfold lO;rw[ai G,az (by rfl),az (by rfl),ai (auZ h)]
  rw[ai C]
 rw[ai F,az (by rfl)];exact j
theorem aeb{s}{u}{c}{o_}(F:wy (pu s)=true)(hi:Bz (ho s)=true)(j:ta (pu s))(hl:(pu s).length<=900000)(hh:lk (ho s))(J:c=max 0 (dr (pu s) u)):
 MN s (u,c,o_,())=some (fV s (qw (pu s) [(u,-c,())]).1 (eB (ho s) u),0,()):=by
 show xy aj s (u,c,o_,())=_;have H:=IE j u;have y:cz (-c):=by unfold cz at *;omega
 have K:i64.wrap (0-c) = -c:=by rw[bG _ (by unfold cz at H;omega)];omega
 have V:zQ s.2.2.2.2.2.2.2.2.2.2.1 [(u,-c,())]=some (qw (pu s) [(u,-c,())]):=aaY j (λx C=>by simp only[ay]at C;subst C;exact y) (by show(pu s).length+1<=_;omega);have⟨W,_⟩:=Sv F j u c J;have R:abv s.2.2.2.2.2.2.2.2.2.2.2.1 u []=some (eB (ho s) u,0,()):=aqY (l:=ho s) (u:=u) hh hi;show aj.ae (zQ s.2.2.2.2.2.2.2.2.2.2.1 [(u,i64.wrap (0-c),())]) _=_;rw[K,ai V];refine bz λk G=>?_
 rw[aT (by rw[W];rfl)];refine vY R ?_;subst G;rfl
theorem aqZ{z}(h:Bz z.2.1=true)(u):Bz (sf z u).2.1=true:=by
 unfold sf;split
 .exact h
 .exact aiO h u
theorem anI:∀(vs:List ar) {z:PHR},Bz z.2.1=true->Bz (vs.foldl sf z).2.1=true
 |[],_,h=>h
 |u::vs,_,h=>anI vs (aqZ h u)
def axn:aU:=(0,[],[],[],[],[],[],[],[],[],[],[],())
def jn(s:aU)(us:List ar):PHR:=us.foldl sf (pu s,ho s,[])
def PB(s:aU)(id:Int):aU×(List dY)×Int×Unit:=if wy (pu s)=true/\Bz (ho s)=true then(fV s (jn s (j9 id s.2.2.2.2.1)).1 (jn s (j9 id s.2.2.2.2.1)).2.1,(jn s (j9 id s.2.2.2.2.1)).2.2,0,())else(axn,[],3,())
theorem aec(s)(us)(u):jn s (us++[u])=sf (jn s us) u:=by unfold jn;rw[CF];rfl
theorem aed(l:List aN)(i:Nat)(hi:i<l.length):(l.take (i+1)).flatMap bW=(l.take i).flatMap bW++bW l[i]:=by rw[ax hi,jM];simp
theorem P2{l:List aN}(h:∀a∈l,a.2.2.2.1.length<=20)(hl:l.length<=20):(l.flatMap bW).length<=400:=by
 have key:∀(l:List aN),(∀a∈l,a.2.2.2.1.length<=20)->(l.flatMap bW).length<=20*l.length:=by
  intro l;induction l with
  |nil=>intro _;simp
  |cons a l j=>
   intro h;have F:=j λx y=>h x (by simp[y])
   have C:(bW a).length<=20:=by
    unfold bW;split
    .simp
    .rw[aW];exact h a (by simp)
   rw[cF,aq,aJ];omega
 have:=key l h;omega
theorem aiP{s}(y:wy (pu s)=true)(hi:Bz (ho s)=true)(C:ta (pu s))(hl:(pu s).length<=1000)(hh:lk (ho s)){us:List ar}(j:us.length<=1000):
 wy (jn s us).1=true/\Bz (jn s us).2.1=true/\ta (jn s us).1/\(jn s us).1.length<=2000/\lk (jn s us).2.1/\(jn s us).2.2.length<=1000/\jN ((jn s us).2.1.map (·.1)):=by
 have G:=YP us [] (SX y C ⟨(bA hi).2,hh.1⟩);rw[cS]at G;exact⟨G.p,anI us hi,G.f,by have:=G.lp;show(us.foldl sf _).1.length<=_;omega,⟨G.h.2,cn G.lh hh.2⟩,cn G.len j,G.h.1⟩
theorem apc{s:aU}{id:Int}(hf:ta (pu s))(hl:(pu s).length<=1000)(hh:lk (ho s))(hA:∀a∈s.2.2.2.2.1,a.2.2.2.1.length<=20)(hAl:s.2.2.2.2.1.length<=20):Ij s id=some (PB s id):=by
 show E3 aj s id=_;have hAs:qP s.2.2.2.2.1:=⟨λa G=>by have:=hA a G;omega,by omega⟩;have e1:Lv s.2.2.2.2.2.2.2.2.2.2.1=some (wy (pu s)):=æ (by show(pu s).length<=_;omega);have e2':Rl s.2.2.2.2.2.2.2.2.2.2.2.1=some (Bz (ho s)):=JG hh;refine bz λk17 hk=>?_
 have kt:¬(wy (pu s)=true/\Bz (ho s)=true)->k17 (true,())=some (PB s id):=by intro hn;subst hk;unfold PB;rw[ag hn];rfl
 have kf:wy (pu s)=true->Bz (ho s)=true->k17 (false,())=some (PB s id):=by
  intro hp hi;subst hk;unfold PB;rw[ah ⟨hp,hi⟩];show aj.af false _ (aj.ae (X0 s.2.2.2.2.1 id) _)=_;rw[az rfl,ai (Wn hAs)];unfold j9;have W:∀a∈s.2.2.2.2.1.filter (po id),a.2.2.2.1.length<=20:=λa G=>hA a (aI.1 G).1
  have ay2:(s.2.2.2.2.1.filter (po id)).length<=20:=cn (cp _ _) hAl;generalize s.2.2.2.2.1.filter (po id)=v2 at *;have hul:=P2 W ay2;refine lQ (N:=v2.length) (by omega) (λi=>((i:Int),zst s v2 (jn s ((v2.take i).flatMap bW)).1 (jn s ((v2.take i).flatMap bW)).2.1 (jn s ((v2.take i).flatMap bW)).2.2)) _ rfl ?_ ?_
  .intro Y;show aj.af (decide ((v2.length:Int)<(v2.length:Int))) _ _=_;rw[dV,bs];rfl
  .intro i y Y G;show aj.af (decide ((i:Int)<(v2.length:Int))) _ _=_;rw[dx y];show aj.aH v2 (i:Int) _=_;have hac:=W _ (aE y);rw[bO y];show aj.cr v2 (Int.toNat (i:Int)) _=_;rw[ij y,ai (xD (by omega))];have hlt:((v2.take i).flatMap bW).length<=400:=P2 (λa G=>W a (eJ G)) (by rw[bf];omega);rw[aed v2 i y]at G
   have hvl:(bW v2[i]).length<=20:=by
    unfold bW;split
    .simp
    .rw[aW];exact hac
   generalize bW v2[i]=v6 at *;generalize (v2.take i).flatMap bW=us at *;refine lQ (N:=v6.length) (by omega) (λk=>((k:Int),zsu s v2 (jn s (us++v6.take k)).1 (jn s (us++v6.take k)).2.1 (jn s (us++v6.take k)).2.2 v6)) _ (by rw[List.take_zero,bZ];rfl) ?_ ?_
   .intro H;show aj.af (decide ((v6.length:Int)<(v6.length:Int))) _ _=_;rw[dV,bs];rw[cP i (by omega)];exact G
   .intro k F H X;show aj.af (decide ((k:Int)<(v6.length:Int))) _ _=_;rw[dx F];refine bz λC R=>?_
    have es:us++v6.take (k+1)=(us++v6.take k)++[v6[k]]:=by rw[ax F,bn]
    have j:C (zsu s v2 (sf (jn s (us++v6.take k)) v6[k]).1 (sf (jn s (us++v6.take k)) v6[k]).2.1 (sf (jn s (us++v6.take k)) v6[k]).2.2 v6)=some (fV s (jn s (v2.flatMap bW)).1 (jn s (v2.flatMap bW)).2.1,(jn s (v2.flatMap bW)).2.2,0,()):=by subst R;rw[es,aec]at X;rw[cP k (by omega)];exact X
    clear R X G;show aj.aH v6 (k:Int) _=_;rw[bO F];show aj.cr v6 (Int.toNat (k:Int)) _=_;rw[ij F];have hlen:(us++v6.take k).length<=1000:=by rw[aq,bf];omega
    obtain⟨gp,gi,gf,gl,gh,go,_⟩:=aiP hp hi hf hl hh hlen;generalize jn s (us++v6.take k)=Z at *;obtain⟨p,h,out⟩:=Z;generalize v6[k]=u at *;simp only at gp gi gf gl gh go;have e3:ZQ (fV s p h) u=some (XC p h u):=anH (s:=fV s p h) (by show p.length<=_;omega) gh;show aj.ae (ZQ (fV s p h) u) _=_;rw[ai e3];refine bz λV K=>?_
    have J:¬(max 0 (dr p u)=0/\cE h u=[])->V (v2,out,v6,())=some (fV s (jn s (v2.flatMap bW)).1 (jn s (v2.flatMap bW)).2.1,(jn s (v2.flatMap bW)).2.2,0,()):=by
     intro hne;subst K;show aj.ae (MN (fV s p h) (u,max 0 (dr p u),cE h u,())) _=_;have h2:=aeb (s:=fV s p h) (u:=u) (c:=max 0 (dr p u)) (o_:=cE h u) gp gi gf (by show p.length<=_;omega) gh (show max 0 (dr p u)=max 0 (dr (pu (fV s p h)) u)from rfl);rw[ai h2,az (by rfl)];show aj.bc (out.length+1) 48 (C (zsu s v2 (qw p [(u,-(max 0 (dr p u)),())]).1 (eB h u) (out++[XC p h u]) v6))=_;rw[da (by omega) (by omega)];have:sf (p,h,out) u=((qw p [(u,-(max 0 (dr p u)),())]).1,eB h u,out++[XC p h u]):=by unfold sf;rw[ag hne]
     rw[this]at j;exact j
    clear K
    have skip:(max 0 (dr p u)=0/\cE h u=[])->C (zsu s v2 p h out v6)=some (fV s (jn s (v2.flatMap bW)).1 (jn s (v2.flatMap bW)).2.1,(jn s (v2.flatMap bW)).2.2,0,()):=by
     intro hy;have:sf (p,h,out) u=(p,h,out):=by unfold sf;rw[ah hy]
     rw[this]at j;exact j
    show aj.af (max 0 (dr p u)==0) (aj.af (((cE h u).length:Int)==0) (C (zsu s v2 p h out v6)) (V (v2,out,v6,()))) (V (v2,out,v6,()))=_;refine dM (λh1=>?_) λh1=>?_
    .by_cases h2:cE h u=[]
     .rw[aT (by rw[h2];rfl)];exact skip ⟨h1,h2⟩
     .rw[az (by
       cases hl:cE h u with
       |nil=>exact absurd hl h2
       |cons x xs=>simp;omega)]
      exact J λhh=>h2 hh.2
    .exact J λhh=>h1 hh.1
 clear hk;rw[ai e1];cases hp:wy (pu s)with
 |false=>rw[aT (by rfl)];exact kt λh=>by rw[hp]at h;cases h.1
 |true=>
  rw[az (by rfl),ai e2'];cases hi:Bz (ho s)with
  |false=>exact kt λh=>by rw[hi]at h;cases h.2
  |true=>exact kf hp hi
theorem aqN{l}{f t}(h:lk l)(hl:l.length<=900):OV l f t=some (GB l f t):=by
 show AT aj l f t=_;unfold AT GB;have C:=p9 h.1 f;rw[ai (JG h)];by_cases hi:Bz l=true
 .have hs:=Ro hi;rw[hi,az (by rfl),ah rfl,ur];by_cases j:f=t
  .rw[ap j,aT rfl,ah j]
  .rw[an j,az rfl,ag j,ai (zg h)];by_cases y:cE l t=[]
   .rw[ah y,az (by rw[y];rfl),ai (zg h),ai (Ym h hs (by simp)),ai (Ym (Se h (by omega) hs f zh) (LV hs f []) (by have:=C.1;omega))]
   .rw[ag y,eG (by
     cases hh:cE l t with
     |nil=>exact absurd hh y
     |cons x xs=>simp<;>omega)]
 .have hi:Bz l=false:=by simpa using hi
  rw[hi,aT (by rfl),ag (by decide)]
def uK(s:aU)(u:ar):Int:=
 match jj s.2.2.2.2.1 u.1 with
 |none=>11
 |some a=>if rB a u=true then(if a.2.2.1=1 then 17 else 0)else 11
def OW(s:aU)(u:ar):aN:=(jj s.2.2.2.2.1 u.1).getD yU
structure OkP(s:aU):Prop where
 mL:s.2.1.length<=10
 mI:∀m∈s.2.1,cz m.2.1
 aA:qP s.2.2.2.2.1
 aL:s.2.2.2.2.1.length<=20
 aS:X5 s.2.2.2.2.1
 cL:(ch s).length<=100
 hb:okB (bk s)
 bl:(bk s).length<=64
 pf:ta (pu s)
 pl:(pu s).length<=94
 hh:lk (ho s)
 hl:(ho s).length<=94
theorem anv{t}{id}{m}(h:mY t id=some m):m∈t:=cf h
theorem anw{t}{id}{a}(h:jj t id=some a):a∈t:=cf h
theorem abc{s}(O:OkP s)(u):abd s u=some (if uK s u=0 then(OW s u,0,())else(yU,uK s u,())):=by
 show rL aj s u=_;unfold rL uK OW;rw[ai (HY O.aA O.aS)];cases C:jj s.2.2.2.2.1 u.1 with
 |none=>exact yC true (λk=>aT rfl _ _) rfl
 |some a=>
  have F:=O.aA.1 _ (anw C);refine yC (!(rB a u)) (λk=>?_) ?_
  .refine zG rfl ?_;rw[ai (Js F)]
  .show aj.af (!(rB a u)) (some (yU,11,())) (aj.af (a.2.2.1==1) (some (yU,17,())) (some (a,0,())))=some (if(if rB a u=true then(if a.2.2.1=1 then(17:Int)else 0)else 11)=0 then(a,(0:Int),())else(yU,(if rB a u=true then(if a.2.2.1=1 then(17:Int)else 0)else 11),()));by_cases y:rB a u=true
   .rw[y,az (by rfl)];refine dM (λj=>?_) λj=>?_
    .rw[ah rfl,ah j,ag (by decide)]
    .rw[ah rfl,ag j,ah rfl]
   .rw[ag y,ag (by decide),aT (by simpa using y)]
def Ik(s:aU)(f:ar):Int:=if uK s f=0 then(match mY s.2.1 (OW s f).2.1 with|none=>18|some m=>anu m s.1)else uK s f
theorem anx{s}(O:OkP s)(f):abe s f=some (Ik s f):=by
 show u6 aj s f=_;unfold u6 Ik;have j:=O.mL;rw[ai (abc O f)];by_cases h:uK s f=0
 .rw[ah h,ah h,az (by rfl)];refine vY (tJ (by omega)) ?_;cases mY s.2.1 (OW s f).2.1 with
  |none=>rfl
  |some m=>refine zG rfl ?_;rw[ai (aqL m s.1)]
 .rw[ag h,ag h,fT h]
def EZ(s:aU)(u:ar):Prop:=ql (bk s) u=[]/\dr (pu s) u=0/\cE (ho s) u=[]
instance (s:aU) (u:ar):Decidable (EZ s u):=by unfold EZ;infer_instance
theorem axb{α}(l:List α):((l.length:Int)==0)=decide (l=[]):=by
 cases l with
 |nil=>rfl
 |cons x xs=>simp;omega
theorem aqO{s}(O:OkP s)(u:ar):Un s u=some (decide (EZ s u)):=by
 show ye aj s u=_;unfold ye;have C:=O.pl;have H:Lw s.2.2.2.2.2.2.2.2.1 u=some (ql (bk s) u):=RZ O.hb;have G:nl s.2.2.2.2.2.2.2.2.2.2.1 u=some (dr (pu s) u):=Gl (by show(pu s).length<=_;omega);have F:H' s.2.2.2.2.2.2.2.2.2.2.2.1 u=some (cE (ho s) u):=zg O.hh;rw[ai H,axb];by_cases j:ql (bk s) u=[]
 .rw[ap j,aT rfl,ai G];refine dM (λy=>?_) λy=>?_
  .rw[ai F,axb];congr 1;exact eA.2 ⟨λh=>⟨j,y,h⟩,λh=>h.2.2⟩
  .rw[an (p:=EZ s u) λh=>y h.2.1]
 .rw[an j,az rfl,an (p:=EZ s u) λh=>j h.1]
def JM(s:aU)(f t:ar):Int:=
 if uK s t=0 then(
  match mY s.2.1 (OW s t).2.1 with
  |none=>15
  |some m=>if m.2.2.1=0 then(if EZ s t then(if(AQ (bk s) [f]).2.1=0 then(if(uY s m.1).2.1=0 then agA m.2.1 (uY s m.1).1 (AQ (bk s) [f]).1 else(uY s m.1).2.1)else(AQ (bk s) [f]).2.1)else 21)else 15)
 else uK s t
theorem axc(z):cz (cW z).1:=by
 unfold cW;split
 .assumption
 .unfold cz;simp
theorem asC(l)(us):cz (AQ l us).1:=by
 unfold AQ;split
 .exact axc _
 .unfold cz;simp
theorem aqP{s}(O:OkP s)(f t):adW s f t=some (JM s f t):=by
 show yf aj s f t=_;unfold yf JM;have G:=O.mL;rw[ai (abc O t)];by_cases h:uK s t=0;case neg=>rw[ag h,ag h,fT h]
 rw[ah h,ah h,az (by rfl)];refine vY (tJ (by omega)) ?_;cases hm:mY s.2.1 (OW s t).2.1 with
 |none=>exact yC true (λk=>aT rfl _ _) rfl
 |some m=>
 have e:qU m=some (if m.2.2.1=0 then 0 else 15):=by
  show jP aj m=_;refine i7 (λj=>?_) λj=>?_
  .rw[ah j]
  .rw[ag j]
 refine yC (!decide (m.2.2.1=0)) (λk=>?_) ?_
 .refine zG rfl ?_;rw[ai e];by_cases j:m.2.2.1=0
  .rw[ah j,ap j];rfl
  .rw[ag j,an j];rfl
 show aj.af (!decide (m.2.2.1=0)) (some (15:Int)) (aj.ae (Un s t) _)=some (if m.2.2.1=0 then(if EZ s t then(if(AQ (bk s) [f]).2.1=0 then(if(uY s m.1).2.1=0 then agA m.2.1 (uY s m.1).1 (AQ (bk s) [f]).1 else(uY s m.1).2.1)else(AQ (bk s) [f]).2.1)else 21)else 15);by_cases j:m.2.2.1=0;case neg=>rw[an j,aT (by rfl),ag j]
 rw[ap j,az (by rfl),ah j,ai (aqO O t)];by_cases F:EZ s t;case neg=>rw[an F,aT (by rfl),ag F]
 have H:OU s.2.2.2.2.2.2.2.2.1 [f]=some (AQ (bk s) [f]):=ans O.hb (by simp);rw[ap F,az (by rfl),ah F,ai H];by_cases C:(AQ (bk s) [f]).2.1=0;case neg=>rw[fT C,ag C]
 rw[iD C,ah C];refine vY (adS O.aA O.aL O.hb) ?_;by_cases y:(uY s m.1).2.1=0;case neg=>rw[fT y,ag y]
 rw[az (by simpa using y),ah y];exact vY (aqM (used:=(uY s m.1).1) (more:=(AQ (bk s) [f]).1) (asC _ _) (asC _ _) (O.mI m (anv hm))) rfl
def zUn:ar:=(0,0,())
def qa(s:aU)(f:ar):ar×Int×Unit:=if Ik s f=0 then(if(AR (ch s) f).2.1=0 then(if JM s f (AR (ch s) f).1=0 then((AR (ch s) f).1,0,())else(zUn,JM s f (AR (ch s) f).1,()))else(zUn,(AR (ch s) f).2.1,()))else(zUn,Ik s f,())
theorem axd{s}(O:OkP s)(f):anz s f=some (qa s f):=by
 show DX aj s f=_;unfold DX qa;have F:=O.cL;rw[ai (anx O f)];by_cases C:Ik s f=0;case neg=>rw[fT C,ag C];rfl
 have e:P0 s.2.2.2.2.2.1 f=some (AR (ch s) f):=aqK (by show(ch s).length<=_;omega);rw[iD C,ah C,ai e];by_cases y:(AR (ch s) f).2.1=0;case neg=>rw[fT y,ag y];rfl
 rw[iD y,ah y,ai (aqP O f _)];by_cases j:JM s f (AR (ch s) f).1=0;case neg=>rw[fT j,ag j];rfl
 rw[iD j,ah j]
def I2(u:ar)(c:cd):Bool:=decide (c.1≠u)
theorem agD(c)(u):ML u.1 u.2.1 c=some (!(I2 u c),u):=by show some (cX false ((c.1.1==u.1)&&(c.1.2.1==u.2.1)),u)=_;rw[ur];unfold I2;by_cases h:c.1=u<;>simp[h]
theorem axe{l}{u}(hl:l.length<=1000000):
 (fo u.1 u.2.1 l=some (-1,u)/\∀a∈l,I2 u a=true)\/
 ∃i:Nat,i<l.length/\fo u.1 u.2.1 l=some ((i:Int),u)/\(∀a∈l.take i,I2 u a=true)/\∀h:i<l.length,I2 u l[i]=false:=by
 have e:fo u.1 u.2.1 l=some (zb (λc=>!(I2 u c)) l,u):=by exact uu hl (λc=>!(I2 u c)) (λm (c:ar)=>ML c.1 c.2.1 m) u λx _=>agD x u
 rw[e];unfold zb;cases h:l.findIdx? λc=>!(I2 u c)with
 |none=>rw[gC]at h;exact .inl ⟨rfl,λa y=>by simpa using h a y⟩
 |some k=>have⟨H,G,F⟩:=eF.1 h;refine .inr ⟨k,H,rfl,λa y=>?_,λ_=>by simpa using G⟩;obtain⟨j,C,rfl⟩:=dC.1 y;rw[bf]at C;have:=F j (by omega);rw[lc];simpa using this
theorem auO{l}{u}(hl:l.length<=1000000):mf u.1 u.2.1 l=some (l.filter (I2 u),u):=by
 show cY aj u.1 u.2.1 l=_;unfold cY;rcases axe (u:=u) hl with⟨e,R⟩|⟨y,F,e,hp,hn⟩
 .rw[ai e,aT (by rfl),lM.2 R]
 .rw[ai e,az (show((y:Int) == -1)=false by simp)];have J:y+1<=l.length:=F;have hf0:(l.take (y+1)).filter (I2 u)=l.take y:=by rw[ax F,eU,lM.2 hp,bi,hn F];simp
  have hz:((y:Int),i64.wrap ((y:Int)+1),u.1,u.2.1,l,())=(((y:Nat):Int),((y+1:Nat):Int),u.1,u.2.1,l,()):=by rw[cP y]
  show aj.aV _ ((y:Int),i64.wrap ((y:Int)+1),u.1,u.2.1,l,())=_;rw[hz];refine(iI (λz=>l.length+1-z.2.1.toNat) (λz=>∃(i j:Nat) (s:List cd),i<j/\j<=l.length/\s.length=l.length/\s.take i=(l.take j).filter (I2 u)/\s.drop j=l.drop j/\z=((i:Int),(j:Int),u.1,u.2.1,s,())) (λ_=>some (l.filter (I2 u),u)) ⟨y,y+1,l,by omega,J,rfl,hf0.symm,rfl,rfl⟩ (by dsimp only;omega) ?_);rintro _ ⟨i,j,s,hij,hj,hs,X,hd,rfl⟩ again ha;show aj.af (decide ((j:Int)<(s.length:Int))) _ _=_;by_cases h:j<s.length
  .have C:j<l.length:=by omega
   have hx:s[j]=l[j]:=by
    have V:(s.drop j)[0]?=(l.drop j)[0]?:=by rw[hd]
    rw[cN,cN,jh,aw h,aw C]at V;exact cK V
   rw[dx h];refine bz λk5 H=>?_
   have kk:∀(G:Nat) (s':List cd),G<j+1->s'.length=l.length->s'.take G=(l.take (j+1)).filter (I2 u)->s'.drop (j+1)=l.drop (j+1)->k5 ((G:Int),u.1,u.2.1,s',())=some (l.filter (I2 u),u):=by intro G s' g1 g2 g3 g4;subst H;dsimp only;rw[cP j];exact ha _ ⟨G,j+1,s',by omega,by omega,g2,g3,g4,rfl⟩ (by dsimp only;omega)
   clear H ha
   have K:s.drop (j+1)=l.drop (j+1):=by
    have:=bS (List.drop 1) hd
    rwa [mN,mN]at this
   have W:i<s.length:=by omega
   show aj.aH s (j:Int) _=_;rw[bO h];show aj.cr s (Int.toNat (j:Int)) _=_;rw[ij h,hx,ai (agD _ _)];by_cases hv:I2 u l[j]=true
   .rw[hv,aT (by rfl)];show aj.aH s (i:Int) _=_;rw[bO W];show aj.cr s (Int.toNat (i:Int)) _=_;rw[ij W];dsimp only;rw[aX,cP i];refine kk (i+1) (s.set i l[j]) (by omega) (by rw[fO];exact hs) ?_ ?_
    .rw[ax C,eU,<-X,bi,hv,qi,ah rfl];have V:i<(s.set i l[j]).length:=by rw[fO];exact W
     rw[ax V,qE];congr 1;rw[y6 (au _)]
    .rw[y7 (by omega)];exact K
   .have hv:I2 u l[j]=false:=by simpa using hv
    rw[hv,az (by rfl)];refine kk i s (by omega) hs ?_ K;rw[ax C,eU,bi,hv,X];simp
  .have:j=s.length:=by omega
   subst this;have hll:s.length=l.length:=hs;rw[dV];show aj.j5 (i:Int) s.length _=_;rw[Jd,aX];show aj.j5 (i:Int) s.length _=_;rw[Jd,aX];show aj.j5 (i:Int) (s.take i++List.replicate (s.length-i) ((0,0,()),(0,0,()),false,())).length _=_;have Y:(s.take i).length=i:=by rw[bf];omega
   rw[Jd (by omega) (by rw[aq,Y];omega),aX];dsimp only;rw[kN (by omega),Br,Nat.min_self,X,hll,bs]
theorem abf{s}(h:s.length<=1000000):um s=some s:=by
 show ek aj s=_;unfold ek;rw[CV];refine xx ?_ λj=>?_
 .refine zG rfl ?_;rw[da];rfl
 .have:s=[]:=by simpa using j
  subst this;rfl
theorem agE{l}{u}(hl:l.length<=1000000):E1 l u=some (Fz l u):=by show tW aj l u=_;unfold tW;rw[ai (abf hl),ai (auO hl)];rfl
theorem MM{f}:∀(us:List Int) (acc:List oF),(∀u∈us,cz (f u))->goV f us acc=(acc++(us.filter λu=>decide (f u≠0)).map λu=>((u,f u,()):oF),0,())
 |[],acc,_=>by simp[goV]
 |k::us,acc,h=>by
  rw[goV,ah (h k (by simp)),bi];by_cases j:f k=0
  .rw[ah j,MM us acc λu y=>h u (by simp[y]),ag (by simpa using j)]
  .rw[ag j,MM us _ λu y=>h u (by simp[y]),ah (by simpa using j),bn];rfl
theorem ZN{f}:∀(us:List Int) (acc:List oF),(∃u∈us,¬cz (f u))->goV f us acc=([],7,())
 |[],acc,h=>by have⟨u,j,_⟩:=h;cases j
 |k::us,acc,h=>by
  rw[goV];by_cases y:cz (f k)
  .have F:∃u∈us,¬cz (f u):=by
    have⟨u,j,C⟩:=h;rcases aB.1 j with rfl|j
    .exact absurd y C
    .exact⟨u,j,C⟩
   rw[ah y,ZN us _ F,ZN us _ F];split<;>rfl
  .rw[ag y]
def IV(l:List oF):List oF×Int×Unit:=if En l=true then goV (λj => -(fZ l j)) ks []else([],3,())
def Su(l:List oF):List oF:=l.map λx=>((x.1,-x.2.1,()):oF)
theorem auP{l}(h:xM l):xM (Su l):=by
 refine⟨λx C=>?_,?_⟩
 .obtain⟨y,j,rfl⟩:=aK.1 C;have:=h.1 y j;exact⟨this.1,by have:=this.2;dsimp only;omega⟩
 .unfold Su;rw[hJ];exact h.2
theorem m_(l)(k):fZ (Su l) k = -(fZ l k):=by
 induction l with
 |nil=>rfl
 |cons x l j=>show fZ ((x.1,-x.2.1,())::Su l) k = -(fZ (x::l) k);rw[fZ,fZ,j];split<;>rfl
theorem Xv{l}(h:xM l){x:oF}(j:x∈l):fZ l x.1=x.2.1:=by
 have F:(l.map (·.1)).Nodup:=h.2.imp λ{a b} (G:a<b) e=>by omega
 clear h;induction l with
 |nil=>cases j
 |cons y l C=>
  have⟨J,H⟩:=dK.1 F;rw[fZ];rcases aB.1 j with rfl|j
  .rw[ah rfl]
  .rw[ag λe=>J (by show y.1∈_;rw[e];exact dm j),C j H]
theorem Xx{l:List oF}(hv:En l=true)(h:∀x∈l,cz (-x.2.1)):IV l=(Su l,0,()):=by
 have C:=bA hv
 have H:∀u,cz (-(fZ l u)):=λu=>by
  by_cases F:u∈l.map (·.1)
  .obtain⟨x,y,rfl⟩:=aK.1 F;rw[Xv C y];exact h x y
  .rw[Ie λx y e=>F (aK.2 ⟨x,y,e⟩)];unfold cz;omega
 unfold IV;rw[ah hv,MM ks [] λu _=>H u,cS];congr 1;refine asB (Yy λj => -(fZ l j)) (auP C) λu=>?_
 show fZ (T6 λj => -(fZ l j)) u=_;rw[m_,T9];intro G;show -(fZ l u)=0;rw[T8 C G];rfl
theorem abg{l}(hv:En l=true){x:oF}(j:x∈l)(h:¬cz (-x.2.1)):IV l=([],7,()):=by have y:=bA hv;unfold IV;rw[ah hv];refine ZN ks [] ⟨x.1,(ZG _).2 (y.1 x j).1,?_⟩;rw[Xv y j];exact h
theorem auQ{l}(ho:Vm l)(hl:l.length<=1000):X8 l=some (IV l):=by
 show sJ aj l=_;unfold sJ;rw[ai (R0 (l:=l) (by omega))];by_cases hv:En l=true
 case neg=>
  have V:En l=false:=by simpa using hv
  rw[V,aT (by rfl)];unfold IV;rw[ag hv]
 rw[hv,az (by rfl)]
 have BE:∀x∈l,ZH 0 x.2.1=some (cW (-x.2.1)):=λx F=>by
  have e:=Jv (a:=0) (b:=x.2.1) (by unfold cz;omega) (ho x F)
  rwa [zC]at e
 by_cases C:∀x∈l,cz (-x.2.1)
 .rw[Xx hv C];refine(mS (l:=l) (s0:=[]) (by omega) (λi (z:List oF)=>((i:Int),z,())) (λi z=>z.length<=i) (λl' z=>some (z++Su l',0,())) rfl (au _) ?_ ?_).trans (by rw[cS])
  .intro z _ j;show aj.af (decide ((l.length:Int)<(l.length:Int))) _ _=some (z++[],0,());rw[dV,bZ]
  .intro i hi z hz j X;have F:=aE hi;refine HX hi ?_;rw[bO hi,ai (BE _ F),IG (C _ F),az (by rfl)];show aj.bc (z.length+1) 16 (j (i64.wrap ((i:Int)+1),z++[(l[i].1,-l[i].2.1,())],()))=_;rw[da,cP i,X _ (by rw[aq];simp;omega),bn];rfl
 .have W:∃x∈l,¬cz (-x.2.1):=cZ λh=>C λx F=>cZ λJ=>h ⟨x,F,J⟩
  obtain⟨x,F,J⟩:=W;rw[abg hv F J];refine mS (l:=l) (s0:=[]) (by omega) (λi (z:List oF)=>((i:Int),z,())) (λi z=>z.length<=i/\∃y∈l.drop i,¬cz (-y.2.1)) (λl' z=>some ([],7,())) rfl ⟨au _,x,F,J⟩ ?_ ?_
  .rintro z ⟨_,y,G,_⟩ j;rw[fP]at G;cases G
  .rintro i hi z ⟨hz,y,G,H⟩ j X;have R:=aE hi;refine HX hi ?_;rw[bO hi,ai (BE _ R)];by_cases Y:cz (-l[i].2.1)
   .rw[IG Y,az (by rfl)];show aj.bc (z.length+1) 16 (j (i64.wrap ((i:Int)+1),z++[(l[i].1,-l[i].2.1,())],()))=_;rw[cu hi]at G;have K:=(aB.1 G).resolve_left λe=>H (by rw[e];exact Y)
    rw[da,cP i,X _ ⟨by rw[aq];simp;omega,y,K,H⟩]
   .rw[IF Y,aT (by rfl)]
def Je(l:List cj)(f t:ar)(j:List oF):List cj×Int×Unit:=if sH l=true then(if(IV j).2.1=0 then(if(fJ l f (IV j).1).2.1=0 then fJ (fJ l f (IV j).1).1 t j else([],(fJ l f (IV j).1).2))else([],(IV j).2))else([],3,())
theorem afl{l}(h:(IV l).2.1=0):En l=true/\(IV l).1=Su l/\Vm (Su l):=by
 by_cases hv:En l=true;case neg=>unfold IV at h;rw[ag hv]at h;cases h
 by_cases j:∀x∈l,cz (-x.2.1)
 .rw[Xx hv j];exact⟨hv,rfl,λx C=>by obtain⟨y,H,rfl⟩:=aK.1 C;exact j y H⟩
 .have G:∃x∈l,¬cz (-x.2.1):=cZ λh=>j λx C=>cZ λF=>h ⟨x,C,F⟩
  have⟨x,C,F⟩:=G;rw[abg hv C F]at h;cases h
theorem an0{l}{f t}{j}(hb:okB l)(hl:l.length<=80)(ho:Vm j)(J:j.length<=100):ID l f t j=some (Je l f t j):=by
 show rb aj l f t j=_;unfold rb Je;rw[ai (Gc hb)];by_cases F:sH l=true
 case neg=>
  have G:sH l=false:=by simpa using F
  rw[ag F,G,aT (by rfl)]
 rw[ah F,F,az (by rfl),ai (auQ ho (by omega))];by_cases y:(IV j).2.1=0;case neg=>rw[ag y,fT y]
 have⟨_,R,K⟩:=afl y;rw[ah y,iD y,R,ai (Er hb (by omega) K (by unfold Su;rw[aW];exact J))];by_cases C:(fJ l f (Su j)).2.1=0;case neg=>rw[ag C,fT C]
 have S:=pZ C;have H:=S.len;rw[ah C,iD C,ai (Er (S.ok hb (by omega)) (by omega) ho J)]
def wb(s:aU)(c:List cd)(b:List cj)(p:List aZ)(h:List bp):aU:=(s.1,s.2.1,s.2.2.1,s.2.2.2.1,s.2.2.2.2.1,c,s.2.2.2.2.2.2.1,s.2.2.2.2.2.2.2.1,b,s.2.2.2.2.2.2.2.2.2.1,p,h,())
def wc(s:aU)(f:ar):List cj×Int×Unit:=Je (bk s) f (qa s f).1 (ql (bk s) f)
def BU(s:aU)(f:ar):List aZ×Int×Unit:=ig (pu s) f (qa s f).1 (dr (pu s) f)
def xS(s:aU)(f:ar):List bp×Int×Unit:=GB (ho s) f (qa s f).1
def GN(s:aU)(f:ar):aU×ar×Int×Unit:=if(qa s f).2.1=0 then(if(wc s f).2.1=0 then(if(BU s f).2.1=0 then(if(xS s f).2.1=0 then(wb s (Fz (ch s) f) (wc s f).1 (BU s f).1 (xS s f).1,(qa s f).1,0,())else(Jr,zUn,(xS s f).2.1,()))else(Jr,zUn,(BU s f).2.1,()))else(Jr,zUn,(wc s f).2.1,()))else(Jr,zUn,(qa s f).2.1,())
theorem auR{s}{f}(h:(qa s f).2.1=0):sH (bk s)=true/\EZ s (qa s f).1:=by
 unfold qa at h ⊢;split;case isFalse hl=>rw[ag hl]at h;exact absurd h hl
 rename_i hl;rw[ah hl]at h;split;case isFalse C=>rw[ag C]at h;exact absurd h C
 rename_i C;rw[ah C]at h;split;case isFalse j=>rw[ag j]at h;exact absurd h j
 rename_i j;generalize (AR (ch s) f).1=t at *;unfold JM at j;split at j;case isFalse G=>exact absurd j G
 split at j
 .cases j
 split at j;case isFalse=>cases j
 split at j;case isFalse=>cases j
 rename_i F;split at j;case isFalse y=>exact absurd j y
 rename_i y;refine⟨?_,F⟩;unfold AQ at y;split at y
 .assumption
 .cases y
theorem an1{l}(hv:En l=true)(ho:Vm l):vQ [l]=(l,0,()):=by
 have j:=bA hv;have hs:∀k,xY [l] k=fZ l k:=λk=>by show fZ l k+0=_;omega
 unfold vQ;rw[ah (by simp[hv]),<-ZI,MM ks [] λu _=>by rw[hs];exact agx ho u,cS];congr 1;refine asB (Yy (xY [l])) j λu=>?_
 show fZ (T6 (xY [l])) u=_;rw[T9,hs];intro y;rw[hs,T8 j y]
theorem auS{s}(O:OkP s)(f):aiH s f=some (GN s f):=by
 show wY aj s f=_;unfold wY GN;have R2:=O.bl;have hpl:=O.pl;have hhl:=O.hl;have hcl:=O.cL;rw[ai (axd O f)];by_cases Y:(qa s f).2.1=0;case neg=>rw[fT Y,ag Y];rfl
 obtain⟨hB,hE⟩:=auR Y;obtain⟨o1,o2⟩:=NN O.hb f;have hv:=ag8 hB f;have e1:Lw s.2.2.2.2.2.2.2.2.1 f=some (ql (bk s) f):=RZ O.hb;rw[iD Y,ah Y,ai e1,ai (adF (l:=[ql (bk s) f]) (by simp) (λv hm=>by simp only[ay]at hm;subst hm;omega) λv hm=>by simp only[ay]at hm;subst hm;exact o1),an1 hv o1]
 have fin:∀(H:Int×aU->Option (aU×ar×Int×Unit)),(H=λj=>aj.af (j.1 != 0) (some (Jr,zUn,j.1,())) (aj.ae (E1 (ch j.2) f) λv7=>some (wb j.2 v7 (bk j.2) (pu j.2) (ho j.2),(qa s f).1,0,())))->
  (∀st,ch st=ch s->H (0,st)=some (wb st (Fz (ch s) f) (bk st) (pu st) (ho st),(qa s f).1,0,()))/\∀e,e≠0->∀st,H (e,st)=some (Jr,zUn,e,()):=by
  intro H y;subst y;refine⟨λst J=>?_,λe he st=>?_⟩
  .show aj.af false _ (aj.ae (E1 (ch st) f) _)=_;rw[az rfl,J,ai (agE (by omega))]
  .show aj.af (e != 0) _ _=_;rw[aT (by simpa using he)]
 have F:∀(C:Int×aU->Option (aU×ar×Int×Unit)),(C=λG=>aj.aG (λj:Int×aU=>aj.af (j.1 != 0) (some (Jr,zUn,j.1,())) (aj.ae (E1 (ch j.2) f) λv7=>some (wb j.2 v7 (bk j.2) (pu j.2) (ho j.2),(qa s f).1,0,()))) λH=>aj.af (G.1==0) (aj.ae (OV (ho G.2) f (qa s f).1) λv9=>H (v9.2.1,wb G.2 (ch G.2) (bk G.2) (pu G.2) v9.1)) (H G))->
  (∀st,ch st=ch s->ho st=ho s->C (0,st)=some (if(xS s f).2.1=0 then(wb st (Fz (ch s) f) (bk st) (pu st) (xS s f).1,(qa s f).1,0,())else(Jr,zUn,(xS s f).2.1,())))/\∀e,e≠0->∀st,C (e,st)=some (Jr,zUn,e,()):=by
  intro C y;subst y;refine⟨λst J hho=>?_,λe he st=>?_⟩
  .refine bz λk y=>?_
   obtain⟨a1,a2⟩:=fin k y;show aj.af true (aj.ae (OV (ho st) f (qa s f).1) λv9=>k (v9.2.1,wb st (ch st) (bk st) (pu st) v9.1)) _=_;rw[aT rfl,hho,ai (aqN O.hh (by omega))];show k ((xS s f).2.1,wb st (ch st) (bk st) (pu st) (xS s f).1)=_;by_cases h:(xS s f).2.1=0
   .rw[ah h,h,a1 (wb st (ch st) (bk st) (pu st) (xS s f).1) J];rfl
   .rw[ag h,a2 _ h]
  .refine bz λk y=>?_
   obtain⟨a1,a2⟩:=fin k y;show aj.af (e==0) _ (k (e,st))=_;rw[az (by simpa using he),a2 _ he]
 have hg:cz (dr (pu s) f):=IE O.pf f;refine bz λV X=>?_
 show aj.af true (aj.ae (ID (bk s) f (qa s f).1 (ql (bk s) f)) λK=>V (K.2.1,wb s (ch s) K.1 (pu s) (ho s))) _=_;rw[aT rfl,ai (an0 O.hb (by omega) o1 o2)];show V ((wc s f).2.1,wb s (ch s) (wc s f).1 (pu s) (ho s))=_;by_cases W:(wc s f).2.1=0
 .rw[ah W,W];subst X;refine bz λk y=>?_
  obtain⟨a1,a2⟩:=F k y;have e2:nl (pu s) f=some (dr (pu s) f):=Gl (by omega)
  have one:(aj.ae (nl (pu s) f) λv11=>aj.ae (qV (pu s) f (qa s f).1 v11) λR=>k (R.2.1,wb s (ch s) (wc s f).1 R.1 (ho s)))=some (if(BU s f).2.1=0 then(if(xS s f).2.1=0 then(wb s (Fz (ch s) f) (wc s f).1 (BU s f).1 (xS s f).1,(qa s f).1,0,())else(Jr,zUn,(xS s f).2.1,()))else(Jr,zUn,(BU s f).2.1,())):=by
   rw[ai e2,ai (NO O.pf hg (by omega))];show k ((BU s f).2.1,wb s (ch s) (wc s f).1 (BU s f).1 (ho s))=_;by_cases h3:(BU s f).2.1=0
   .rw[ah h3,h3,a1 (wb s (ch s) (wc s f).1 (BU s f).1 (ho s)) rfl rfl];rfl
   .rw[ag h3,a2 _ h3]
  exact jX one one
 .rw[ag W];subst X;refine bz λk y=>?_
  obtain⟨a1,a2⟩:=F k y;show aj.af ((wc s f).2.1==0) _ (k ((wc s f).2.1,wb s (ch s) (wc s f).1 (pu s) (ho s)))=_;rw[az (by simpa using W),a2 _ W]
theorem î(i:Nat)(j:0<i:=by omega)(h:i<9223372036854775807:=by omega):IntKind.i64.wrap ((i:Int)-1)=((i-1:Nat):Int):=by rw[bG _ (by omega)];omega
abbrev S:=List Int×Int
abbrev LO:Int := -9223372036854775808
abbrev HI:Int:=9223372036854775807
theorem zc{lo hi}{s}(h:(rd lo hi s).2.2=0):s.2=0:=ahk s.1 s.2 lo hi h
theorem BM{lo hi}{s:S}(h:Bt s.1):Bt (rd lo hi s).2.1:=ç s.1 s.2 lo hi h
theorem zZ{lo hi}{s:S}(hb:Bt s.1)(h:(rd lo hi s).2.2=0):s.1=Es (fold (rd lo hi s).1)++(rd lo hi s).2.1/\ui (rd lo hi s).1:=X' s.1 s.2 lo hi hb (zc h) h
theorem Gd{lo hi}{s}:(rd lo hi s).2.1.length<=s.1.length:=by
 unfold rd vZ;have hl:=è s.1 0 0;split
 .exact au _
 .rcases j:uw 0 0 s.1 with⟨_|u,r,y⟩
  .rw[j]at hl;exact hl
  .rw[j]at hl;dsimp only;split
   .simp
   .exact hl
theorem Jw{lo hi}{s}(h:(rd lo hi s).2.2=0):lo<=(rd lo hi s).1/\(rd lo hi s).1<=hi:=by
 have C:=zc h;unfold rd vZ at h ⊢;rw[ag (by simpa using C)]at h ⊢;rcases j:uw 0 0 s.1 with⟨_|u,r,F⟩
 .rw[j]at h;subst h;exact(NP s.1 0 0 r j).elim
 .rw[j]at h;dsimp only at h ⊢;split at h
  .simp at h
  .rename_i y;rw[ag y];omega
theorem Ly{lo hi}{s}(h:(rd lo hi s).2.2=0):rd LO HI s=rd lo hi s:=by
 have y:=zc h;unfold rd vZ at h ⊢;rw[ag (by simpa using y)]at h;rw[ag (by simpa using y),ag (by simpa using y)];have j:=Ya s.1 0 0 (by decide);rcases F:uw 0 0 s.1 with⟨_|u,r,H⟩
 .rfl
 .rw[F]at h j;have C:=aj2 u (j u rfl);unfold ui at C;dsimp only at h ⊢;split at h
  .simp at h
  .rename_i G;rw[ag G,ag (by unfold LO HI;omega)]
inductive Lt where|M|U|O|I|A|T|D|Q|P|N
instance:DecidableEq Lt:=λa b=>by cases a<;>cases b<;>first|exact isTrue rfl|exact isFalse (λh=>by cases h)
def Lt.code:Lt->Nat | .M=>77 | .U=>85 | .O=>79 | .I=>73 | .A=>65 | .T=>84 | .D=>68 | .Q=>81 | .P=>80 | .N=>78
def fy:Lt->bX->List Int
 | .M,c=>[c.2.2.1]
 | .U,c=>[c.2.2.2.1.1,c.2.2.2.1.2.1]
 | .O,c=>[c.2.2.2.2.1.1,c.2.2.2.2.1.2.1]
 | .I,c=>[c.2.2.2.2.2.1]
 | .A,c=>[c.2.2.2.2.2.2.1]
 | .T,c=>[c.2.2.2.2.2.2.2.1]
 | .D,c=>[c.2.2.2.2.2.2.2.2.1]
 | .Q,c=>[c.2.2.2.2.2.2.2.2.2.1]
 | .P,c=>[c.2.2.2.2.2.2.2.2.2.2.1]
 | .N,c=>(c.2.2.2.2.2.2.2.2.2.2.2.1.length:Int)::c.2.2.2.2.2.2.2.2.2.2.2.1
def g0(l:List Int):Int:=l.headD 0
def g1(l:List Int):Int:=l.tail.headD 0
def put:Lt->List Int->bX->bX
 | .M,v,c=>(c.1,c.2.1,g0 v,c.2.2.2)
 | .U,v,c=>(c.1,c.2.1,c.2.2.1,(g0 v,g1 v,()),c.2.2.2.2)
 | .O,v,c=>(c.1,c.2.1,c.2.2.1,c.2.2.2.1,(g0 v,g1 v,()),c.2.2.2.2.2)
 | .I,v,c=>(c.1,c.2.1,c.2.2.1,c.2.2.2.1,c.2.2.2.2.1,g0 v,c.2.2.2.2.2.2)
 | .A,v,c=>(c.1,c.2.1,c.2.2.1,c.2.2.2.1,c.2.2.2.2.1,c.2.2.2.2.2.1,g0 v,c.2.2.2.2.2.2.2)
 | .T,v,c=>(c.1,c.2.1,c.2.2.1,c.2.2.2.1,c.2.2.2.2.1,c.2.2.2.2.2.1,c.2.2.2.2.2.2.1,g0 v,c.2.2.2.2.2.2.2.2)
 | .D,v,c=>(c.1,c.2.1,c.2.2.1,c.2.2.2.1,c.2.2.2.2.1,c.2.2.2.2.2.1,c.2.2.2.2.2.2.1,c.2.2.2.2.2.2.2.1,g0 v,c.2.2.2.2.2.2.2.2.2)
 | .Q,v,c=>(c.1,c.2.1,c.2.2.1,c.2.2.2.1,c.2.2.2.2.1,c.2.2.2.2.2.1,c.2.2.2.2.2.2.1,c.2.2.2.2.2.2.2.1,c.2.2.2.2.2.2.2.2.1,g0 v,c.2.2.2.2.2.2.2.2.2.2)
 | .P,v,c=>(c.1,c.2.1,c.2.2.1,c.2.2.2.1,c.2.2.2.2.1,c.2.2.2.2.2.1,c.2.2.2.2.2.2.1,c.2.2.2.2.2.2.2.1,c.2.2.2.2.2.2.2.2.1,c.2.2.2.2.2.2.2.2.2.1,g0 v,c.2.2.2.2.2.2.2.2.2.2.2)
 | .N,v,c=>(c.1,c.2.1,c.2.2.1,c.2.2.2.1,c.2.2.2.2.1,c.2.2.2.2.2.1,c.2.2.2.2.2.2.1,c.2.2.2.2.2.2.2.1,c.2.2.2.2.2.2.2.2.1,c.2.2.2.2.2.2.2.2.2.1,c.2.2.2.2.2.2.2.2.2.2.1,v.tail,())
theorem é{L j}(h:L≠j)(v)(c):fy j (put L v c)=fy j c:=by cases L<;>cases j<;>first|exact absurd rfl h|rfl
def shape:Lt->List Int->Prop
 | .U,v=>v.length=2
 | .O,v=>v.length=2
 | .N,v=>∃l:List Int,v=(l.length:Int)::l
 |_,v=>v.length=1
theorem ax6{v:List Int}(h:v.length=1):∃a,v=[a]:=by
 match v,h with
 |[a],_=>exact⟨a,rfl⟩
theorem avs{v:List Int}(h:v.length=2):∃a b,v=[a,b]:=by
 match v,h with
 |[a,b],_=>exact⟨a,b,rfl⟩
theorem aj3{L:Lt}{v:List Int}(h:shape L v)(c:bX):fy L (put L v c)=v:=by
 cases L<;>first
  |(obtain⟨a,rfl⟩:=ax6 h;rfl)
  |(obtain⟨a,b,rfl⟩:=avs h;rfl)
  |(obtain⟨l,rfl⟩:=h;rfl)
def one(lo hi:Int)(s:S):List Int×S:=([(rd lo hi s).1],(rd lo hi s).2)
def two(lo hi:Int)(s:S):List Int×S:=([(rd lo hi s).1,(rd lo hi (rd lo hi s).2).1],(rd lo hi (rd lo hi s).2).2)
def NQ:Nat->S->List Int->List Int×S
 |0,s,acc=>(acc,s)
 |n+1,s,acc=>if s.2=0 then NQ n (rd LO HI s).2 (acc++[(rd LO HI s).1])else(acc,s)
def nR:Nat->S->List Int->List Int×S
 |0,s,acc=>(acc,s)
 |n+1,s,acc=>nR n (rd LO HI s).2 (acc++[(rd LO HI s).1])
def Ge(s:S):List Int×S:=((rd 0 32 s).1::(NQ (rd 0 32 s).1.toNat (rd 0 32 s).2 []).1,(NQ (rd 0 32 s).1.toNat (rd 0 32 s).2 []).2)
def aj4(s:S):List Int×S:=((rd 0 32 s).1::(nR (rd 0 32 s).1.toNat (rd 0 32 s).2 []).1,(nR (rd 0 32 s).1.toNat (rd 0 32 s).2 []).2)
def top:Lt->Int | .M=>8 | .U=>16 | .O=>16 | .I=>8 | .A=>4 | .T=>255 | .D=>1048576|_=>0
def uj:Lt->S->List Int×S
 | .U,s=>two 0 16 s
 | .O,s=>two 0 16 s
 | .Q,s=>one LO HI s
 | .P,s=>one LO HI s
 | .N,s=>Ge s
 |L,s=>one 0 (top L) s
def aj5:Lt->S->List Int×S
 | .U,s=>two LO HI s
 | .O,s=>two LO HI s
 | .N,s=>aj4 s
 |_,s=>one LO HI s
def okV:Lt->List Int->Prop
 | .Q,_=>True
 | .P,_=>True
 | .N,v=>v.tail.length<=32
 |L,v=>∀x∈v,0<=x/\x<=top L
theorem ac4{lo hi}{s}(h:(one lo hi s).2.2=0):one LO HI s=one lo hi s/\(lo<=(rd lo hi s).1/\(rd lo hi s).1<=hi)/\s.2=0:=by unfold one at h ⊢;rw[Ly h];exact⟨rfl,Jw h,zc h⟩
theorem asO{lo hi}{s}(h:(two lo hi s).2.2=0):two LO HI s=two lo hi s/\(lo<=(rd lo hi s).1/\(rd lo hi s).1<=hi)/\(lo<=(rd lo hi (rd lo hi s).2).1/\(rd lo hi (rd lo hi s).2).1<=hi)/\s.2=0:=by unfold two at h ⊢;have j:=zc h;rw[Ly j,Ly h];exact⟨rfl,Jw j,Jw h,zc j⟩
theorem NR:∀(n:Nat) (s:S) (acc:List Int),(NQ n s acc).2.2=0->s.2=0
 |0,s,acc,h=>h
 |n+1,s,acc,h=>by
  unfold NQ at h;split at h
  .assumption
  .exact h
theorem avt:∀(n:Nat) (s:S) (acc:List Int),(NQ n s acc).2.2=0->nR n s acc=NQ n s acc
 |0,s,acc,h=>rfl
 |n+1,s,acc,h=>by have j:=NR (n+1) s acc h;unfold NQ at h;unfold NQ nR;rw[ah j]at h ⊢;exact avt n _ _ h
theorem ê:∀(n:Nat) (s:S) (acc:List Int),Bt s.1->(NQ n s acc).2.2=0->∃l:List Int,(NQ n s acc).1=acc++l/\l.length=n/\s.1=oG l++(NQ n s acc).2.1/\∀x∈l,ui x
 |0,s,acc,hb,h=>⟨[],by simp[NQ],rfl,by simp[NQ,oG],by simp⟩
 |n+1,s,acc,hb,h=>by
  have C:=NR (n+1) s acc h;unfold NQ at h ⊢;rw[ah C]at h ⊢;have y:=NR n _ _ h;have⟨l,J,H,G,F⟩:=ê n _ _ (BM hb) h;have⟨c1,c2⟩:=zZ hb y;refine⟨(rd LO HI s).1::l,by rw[J];simp,by simp[H],?_,λx j=>?_⟩
  .rw[c1,G,show(rd LO HI s).1::l=[(rd LO HI s).1]++l from rfl,Dh,xH,bn]
  .rcases aB.1 j with rfl|j
   .exact c2
   .exact F x j
theorem ar8:∀(n:Nat) (s:S) (acc:List Int),Bt s.1->Bt (NQ n s acc).2.1
 |0,s,acc,hb=>hb
 |n+1,s,acc,hb=>by
  unfold NQ;split
  .exact ar8 n _ _ (BM hb)
  .exact hb
theorem aeQ{L:Lt}{s:S}(h:(uj L s).2.2=0):aj5 L s=uj L s/\okV L (uj L s).1/\s.2=0:=by
 have y:∀hi:Int,(one 0 hi s).2.2=0->one LO HI s=one 0 hi s/\(∀x∈(one 0 hi s).1,0<=x/\x<=hi)/\s.2=0:=λhi h=>by have⟨G,F,C⟩:=ac4 h;exact⟨G,λx j=>by simp only[one,ay]at j;subst j;exact F,C⟩
 have a2:(two 0 16 s).2.2=0->two LO HI s=two 0 16 s/\(∀x∈(two 0 16 s).1,0<=x/\x<=16)/\s.2=0:=λh=>by
  have⟨G,F,C,R⟩:=asO h;refine⟨G,λx j=>?_,R⟩;simp only[two,aB,dD,kO]at j;rcases j with rfl|rfl
  .exact F
  .exact C
 cases L with
 |U=>exact a2 h
 |O=>exact a2 h
 |Q=>exact⟨rfl,trivial,(ac4 h).2.2⟩
 |P=>exact⟨rfl,trivial,(ac4 h).2.2⟩
 |N=>
  have H:=h;have V:=zc (NR _ _ _ H);refine⟨by show aj4 s=Ge s;unfold aj4 Ge;rw[avt _ _ _ H],?_,V⟩;show(NQ (rd 0 32 s).1.toNat (rd 0 32 s).2 []).1.length<=32;have K:=Jw (NR _ _ _ H)
  have key:∀(n:Nat) (s:S) (acc:List Int),(NQ n s acc).1.length<=acc.length+n:=by
   intro n;induction n with
   |zero=>intro s acc;simp[NQ]
   |succ n J=>
    intro s acc;unfold NQ;split
    .have:=J (rd LO HI s).2 (acc++[(rd LO HI s).1]);simp at this;omega
    .exact Nat.le_add_right _ _
  have:=key (rd 0 32 s).1.toNat (rd 0 32 s).2 [];simp at this;omega
 |M=>exact y 8 h
 |I=>exact y 8 h
 |A=>exact y 4 h
 |T=>exact y 255 h
 |D=>exact y 1048576 h
theorem ac5{L:Lt}{s:S}(hb:Bt s.1)(h:(uj L s).2.2=0):shape L (uj L s).1/\s.1=oG (uj L s).1++(uj L s).2.1/\(∀x∈(uj L s).1,ui x):=by
 have y:∀lo hi:Int,(one lo hi s).2.2=0->(one lo hi s).1.length=1/\s.1=oG (one lo hi s).1++(one lo hi s).2.1/\(∀x∈(one lo hi s).1,ui x):=λlo hi h=>by have⟨c1,c2⟩:=zZ hb h;refine⟨rfl,?_,λx j=>by simp only[one,ay]at j;subst j;exact c2⟩;unfold one;rw[xH];exact c1
 have a2:(two 0 16 s).2.2=0->(two 0 16 s).1.length=2/\s.1=oG (two 0 16 s).1++(two 0 16 s).2.1/\(∀x∈(two 0 16 s).1,ui x):=λh=>by
  have C:=zc h;have⟨c1,c2⟩:=zZ hb C;have⟨W,V⟩:=zZ (BM hb) h;refine⟨rfl,?_,λx j=>?_⟩
  .unfold two;rw[show[(rd 0 16 s).1,(rd 0 16 (rd 0 16 s).2).1]=[(rd 0 16 s).1]++[(rd 0 16 (rd 0 16 s).2).1]from rfl,Dh,xH,xH,bn];rw[<-W];exact c1
  .simp only[two,aB,dD,kO]at j;rcases j with rfl|rfl
   .exact c2
   .exact V
 cases L with
 |U=>exact a2 h
 |O=>exact a2 h
 |Q=>exact y _ _ h
 |P=>exact y _ _ h
 |N=>
  have F:=h;have C:=NR _ _ _ F;have⟨c1,c2⟩:=zZ hb C;have H:=Jw C;have⟨l,R,G,X,K⟩:=ê _ _ _ (BM hb) F;have ev:(uj .N s).1=(l.length:Int)::l:=by show(rd 0 32 s).1::(NQ (rd 0 32 s).1.toNat (rd 0 32 s).2 []).1=_;rw[R,cS,G];congr 1;omega
  refine⟨⟨l,ev⟩,?_,λx j=>?_⟩
  .have J:(uj .N s).1=[(rd 0 32 s).1]++l:=by rw[ev,G];show _::l=_::l;congr 1;omega
   rw[J,Dh,xH,bn,c1];congr 1
  .rw[ev]at j;rcases aB.1 j with rfl|j
   .unfold ui;omega
   .exact K x j
 |M=>exact y _ _ h
 |I=>exact y _ _ h
 |A=>exact y _ _ h
 |T=>exact y _ _ h
 |D=>exact y _ _ h
theorem aeR{L:Lt}{s:S}(hb:Bt s.1):Bt (uj L s).2.1:=by
 cases L with
 |N=>exact ar8 _ _ _ (BM hb)
 |U=>exact BM (BM hb)
 |O=>exact BM (BM hb)
 |_=>exact BM hb
def Aa:List Lt->S->bX->bX×S
 |[],s,c=>(c,s)
 |L::ls,s,c=>Aa ls (uj L s).2 (put L (uj L s).1 c)
def aeS:List Lt->S->bX->bX×S
 |[],s,c=>(c,s)
 |L::ls,s,c=>aeS ls (aj5 L s).2 (put L (aj5 L s).1 c)
theorem R4:∀(ls:List Lt) (s:S) (c:bX),(Aa ls s c).2.2=0->s.2=0
 |[],_,_,h=>h
 |_::ls,_,_,h=>(aeQ (R4 ls _ _ h)).2.2
theorem NS:∀(ls:List Lt) (s:S) (c:bX) (j:Lt),j∉ls->fy j (Aa ls s c).1=fy j c
 |[],s,c,j,h=>rfl
 |L::ls,s,c,j,h=>by simp only[aB,not_or]at h;unfold Aa;rw[NS ls _ _ j h.2,é (hZ h.1)]
theorem aeT:∀(ls:List Lt) (s:S) (c:bX),ls.Nodup->Bt s.1->(Aa ls s c).2.2=0->
 aeS ls s c=Aa ls s c/\(∀L∈ls,okV L (fy L (Aa ls s c).1)/\∀x∈fy L (Aa ls s c).1,ui x)/\s.1=(ls.flatMap λL=>oG (fy L (Aa ls s c).1))++(Aa ls s c).2.1
 |[],s,c,y,hb,h=>⟨rfl,by simp,by simp[Aa]⟩
 |L::ls,s,c,y,hb,h=>by
  have j:=dK.1 y;have C:=R4 ls _ _ h;have⟨p1,p2,p3⟩:=aeQ C;have⟨q1,G,F⟩:=ac5 hb C;have⟨J,H,R⟩:=aeT ls (uj L s).2 (put L (uj L s).1 c) j.2 (aeR hb) h;have ev:fy L (Aa (L::ls) s c).1=(uj L s).1:=by show fy L (Aa ls (uj L s).2 (put L (uj L s).1 c)).1=_;rw[NS ls _ _ L j.1,aj3 q1]
  refine⟨by show aeS ls (aj5 L s).2 (put L (aj5 L s).1 c)=_;rw[p1];exact J,λK hL=>?_,?_⟩
  .rcases aB.1 hL with rfl|hL
   .rw[ev];exact⟨p2,F⟩
   .exact H K hL
  .rw[cF,ev,bn,G];congr 1
def flT:List (List Lt):=[[],[.M,.Q],[.I,.Q,.P,.N],[.A,.P,.Q],[.U,.M,.D],[.U],[.M,.Q],[.U,.O,.I,.Q,.P],[.U,.O,.I,.Q,.P],[.D],[.D],[.D],[.U,.I,.N],[.D,.O,.Q],[.I,.P],[.A,.P],[],[.U,.A,.T,.Q],[.U,.A,.T,.Q],[.U,.O],[.U,.O],[.M,.Q],[.U],[.M],[.U,.O,.I,.Q,.P],[.M],[.U],[.U],[.U],[.U],[],[.M]]
def fl(op:Int):List Lt:=if 1<=op/\op<=31 then(flT[op.toNat]?).getD []else[]
def str(ls:List Lt):ByteArray:=ByteArray.mk (Array.mk (ls.map λL=>UInt8.ofNat L.code))
theorem ac6{op}(h:¬(1<=op/\op<=31)):fl op=[]:=by unfold fl;rw[ag h]
theorem R5{op}(h:1<=op/\op<=31):∃n:Nat,op=(n:Int)/\(n=1\/n=2\/n=3\/n=4\/n=5\/n=6\/n=7\/n=8\/n=9\/n=10\/n=11\/n=12\/n=13\/n=14\/n=15\/n=16\/n=17\/n=18\/n=19\/n=20\/n=21\/n=22\/n=23\/n=24\/n=25\/n=26\/n=27\/n=28\/n=29\/n=30\/n=31):=by obtain⟨n,rfl⟩:=cR (show 0<=op by omega);exact⟨n,rfl,by omega⟩
theorem Ws(op):ac7 op=some (str (fl op)):=by
 by_cases h:1<=op/\op<=31
 .obtain⟨n,rfl,j⟩:=R5 h;rcases j with rfl|rfl|rfl|rfl|rfl|rfl|rfl|rfl|rfl|rfl|rfl|rfl|rfl|rfl|rfl|rfl|rfl|rfl|rfl|rfl|rfl|rfl|rfl|rfl|rfl|rfl|rfl|rfl|rfl|rfl|rfl<;>rfl
 .rw[ac6 h];have e:∀k:Int,(1<=k/\k<=31)->(op==k)=false:=λk y=>by simp;omega
  show qW aj op=_;unfold qW;simp only[e 1 (by omega),e 2 (by omega),e 3 (by omega),e 4 (by omega),e 5 (by omega),e 6 (by omega),e 7 (by omega),e 8 (by omega),e 9 (by omega),e 10 (by omega),e 11 (by omega),e 12 (by omega),e 13 (by omega),e 14 (by omega),e 15 (by omega),e 17 (by omega),e 18 (by omega),e 19 (by omega),e 20 (by omega),e 21 (by omega),e 22 (by omega),e 23 (by omega),e 24 (by omega),e 25 (by omega),e 26 (by omega),e 27 (by omega),e 28 (by omega),e 29 (by omega),e 31 (by omega),ar9,cond_false];rfl
theorem aj6(op):(fl op).Nodup:=by
 by_cases h:1<=op/\op<=31
 .obtain⟨n,rfl,j⟩:=R5 h;rcases j with rfl|rfl|rfl|rfl|rfl|rfl|rfl|rfl|rfl|rfl|rfl|rfl|rfl|rfl|rfl|rfl|rfl|rfl|rfl|rfl|rfl|rfl|rfl|rfl|rfl|rfl|rfl|rfl|rfl|rfl|rfl<;>decide
 .rw[ac6 h];exact List.nodup_nil
theorem ac8(op):(fl op).length<=5:=by
 by_cases h:1<=op/\op<=31
 .obtain⟨n,rfl,j⟩:=R5 h;rcases j with rfl|rfl|rfl|rfl|rfl|rfl|rfl|rfl|rfl|rfl|rfl|rfl|rfl|rfl|rfl|rfl|rfl|rfl|rfl|rfl|rfl|rfl|rfl|rfl|rfl|rfl|rfl|rfl|rfl|rfl|rfl<;>decide
 .rw[ac6 h];simp
theorem R6(ls):(str ls).size=ls.length:=by show(ls.map _).toArray.size=_;simp
theorem aoB(L:Lt):L.code<128:=by cases L<;>decide
theorem aoC(L:Lt):(UInt8.ofNat L.code).toNat=L.code:=by cases L<;>rfl
theorem ax5(ls)(i)(h:i<ls.length):(str ls)[i]?=some (UInt8.ofNat (ls[i]).code):=by
 have hs:i<(str ls).size:=by rw[R6];exact h
 rw[getElem?_pos (str ls) i hs];congr 1;exact(by simp:((ls.map λL=>UInt8.ofNat L.code).toArray)[i]'(by simpa using h)=UInt8.ofNat (ls[i]).code)
theorem aj7 (ls : List Lt) (i : Nat) (h : i < ls.length) : (str ls).get! i = UInt8.ofNat (ls[i]).code := by
  show (ls.map λL => UInt8.ofNat L.code).toArray[i]! = _
  simp [h]
theorem avu(ls)(i:Nat)(h:i<ls.length):Utf8.decode (str ls) i=((ls[i]).code,1):=by unfold Utf8.decode;simp only[jh,aj7 ls i h,aoC];rw[ah (by have:=aoB ls[i];omega)]
theorem aj8{β}(ls)(i:Nat)(h:i<ls.length)(K:Int->Int->Option β)(N:Option β):aj.zd (str ls) (i:Int) K N=K ((ls[i]).code:Int) ((i+1:Nat):Int):=by dsimp only;unfold ë;rw[aX,ap (by rw[R6];exact h),avu ls i h];rfl
theorem aj9{β}(ls)(i:Nat)(h:ls.length<=i)(K:Int->Int->Option β)(N:Option β):aj.zd (str ls) (i:Int) K N=N:=by dsimp only;unfold ë;rw[aX,an (by rw[R6];omega)];rfl
end Go.Proofs.YthghpahghjppjaaGreat