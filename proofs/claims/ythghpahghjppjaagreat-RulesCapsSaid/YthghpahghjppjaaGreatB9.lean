import Derived.Test.YthghpahghjppjaaGreatB8
import Derived.Laws.Externs
import Derived.WalkKit
import Derived.ProofKit
import Derived.OpenShut
import Derived.ShutString
import Derived.ChangeOld
import Derived.Below
import Derived.Lib.SmallJoins
namespace Go.Vc
open Go Go.RowKit
theorem Y_{P}{f}{s}(h:∀x q,s.fn x=some q->∀(E:Env) (vs:List Value),hL E (yL s.P x) vs->∃v,(∀w,(callFunc f vs.toArray).run P w=.ok (.value v) w)/\(s.Q.mk q []).2=[]/\∀E,(s.Q.mk q []).1.h E v):alk P f s:=by intro x q y U0 B A vs w m j;have⟨v,G,F,C⟩:=h x q y _ vs j;refine⟨.inr ⟨v,w,G w,B,A,(s.Q.mk q []).1,[],[],m,C _,λi hi=>(by have⟨b,hb⟩:=hi;simp at hb),rfl,?_⟩⟩;exact iZ rfl F.symm
open Go.ChangeShapes Go.WideShapes
def noU:Nat->Prop:=λ_=>False
def DT.Nn:(t:DT)->t.den->Prop
 | .int k,n=>(Lit.int k n).wf=true
 | .bool,_=>True
 | .str,s=>s.size<=maxLen
 | .slc t,l=>(∀x∈l,t.Nn x)/\l.length<=maxLen
 | .unit,_=>True
 | .pair a b,x=>a.Nn x.1/\b.Nn x.2
 | .set,_=>False
theorem wf_i64{n}(h:(Lit.int .i64 n).wf=true) : -9223372036854775808<=n/\n<=9223372036854775807:=by simp[Lit.wf,IntKind.min,IntKind.max,IntKind.signed,IntKind.bits]at h;omega
def lay(P:Program):DT->(TypeId->Bool)×(List Field->Nat->Bool)
 | .int k=>(λt=>match P.underlying t with|some (.int y)=>eqk y k|_=>false,λ_ _=>false)
 | .bool=>(λt=>match P.underlying t with|some .bool=>true|_=>false,λ_ _=>false)
 | .set=>(λ_=>false,λ_ _=>false)
 | .str=>(λt=>match P.underlying t with|some .string=>true|_=>false,λ_ _=>false)
 | .slc d=>(λt=>match P.underlying t with|some (.slice e)=>(lay P d).1 e&&Nat.beq (P.cellsOf e) d.size|_=>false,λ_ _=>false)
 | .unit=>(λt=>match P.underlying t with|some (.struct j)=>j.toList.isEmpty&&Nat.beq (P.cellsOf t) 0|_=>false,λfl _=>fl.isEmpty)
 | .pair a b=>
  (λt=>match P.underlying t with
   |some (.struct j)=>(match j.toList with
    |f::fl=>Nat.beq f.offset 0&&Nat.beq (P.cellsOf f.type) a.size&&(lay P a).1 f.type&&(lay P b).2 fl a.size
    |[]=>false)&&Nat.beq (j.toList.foldl (λs f=>s+P.cellsOf f.type) 0) (P.cellsOf t)
   |_=>false,
  λfl off=>match fl with
   |f::fl=>Nat.beq f.offset off&&Nat.beq (P.cellsOf f.type) a.size&&(lay P a).1 f.type&&(lay P b).2 fl (off+a.size)
   |[]=>false)
def alm(P:Program)(t:TypeId)(d:DT):Prop:=∀(H:Type) (enc:TypeId×Value->H) (w:World) (base:Nat) (j:Nat->Bool) (y:Bool) (C:Nat) (cs:List Value) (x:DataW H×List MemPlace),DataW.trod enc P w base j y C t cs=some x->∃a,d.Nn a/\d.h noU w a cs
def ahY(P:Program)(fl:List Field)(off:Nat)(d:DT):Prop:=∀(H:Type) (enc:TypeId×Value->H) (w:World) (base:Nat) (j:Nat->Bool) (y:Bool) (C:Nat) (cs:List Value) (n:Nat),cs.length=n->fl.foldl (λs f=>s+P.cellsOf f.type) off=n->(∀f∈fl,∃x,DataW.trod enc P w base j y C f.type ((cs.drop f.offset).take (P.cellsOf f.type))=some x)->∃a,d.Nn a/\d.h noU w a (cs.drop off)
theorem OY{α}{Q:Nat->α->Prop}:∀(n:Nat),(∀i,i<n->∃a,Q i a)->∃l:List α,l.length=n/\∀i a,l[i]?=some a->Q i a
 |0,_=>⟨[],rfl,by simp⟩
 |n+1,h=>by
  have⟨l,hl,j⟩:=OY n λi hi=>h i (by omega)
  have⟨a,y⟩:=h n (by omega);refine⟨l++[a],by simp[hl],λi b hb=>?_⟩;rcases dI i n with hi|hi
  .rw[bG (by omega)]at hb;exact j i b hb
  .rw[dJ (by omega),hl]at hb;rcases Nat.eq_or_lt_of_le hi with e|e
   .subst e;simp at hb;subst hb;exact y
   .rw[bJ (by simp;omega)]at hb;cases hb
theorem ahZ{w:World}{base:Nat}{a:Addr}{n:Nat}{cs:List Value}(h:w.cells? base a n=some cs):cs.length=n/\∀j u,cs[j]?=some u->w.cell? (a.add j)=some u:=by
 unfold World.cells? at h;split at h
 .have hl:=mapM_some_length h;refine⟨by simpa using hl,λj u C=>?_⟩;have y:j<n:=by have:=(aC.1 C).1;simp at hl;omega
  have:=mapM_some_get h j j (by simp[y]);rw[this,C]
 .cases h
theorem aia{P:Program}{t e:TypeId}{d:DT}(ht:P.underlying t=some (.slice e))(hk:P.cellsOf e=d.size)(he:alm P e d):alm P t (.slc d):=by
 intro H enc w base C G atL cs x h;rcases DataW.trod_slice ht h with⟨rfl,_⟩|⟨a,len,cap,y,rest,n,_,rfl,_,hb,hl,hm,hlen,R,_,_⟩
 .exact⟨[],⟨by simp,bE _⟩,none,0,rfl,au _,bE _,by simp⟩
 .have hq:∀i,i<len->∃b:d.den,d.Nn b/\∃us,d.h noU w b us/\∀j u,us[j]?=some u->w.cell? (a.add (i*d.size+j))=some u:=by
   intro i hi;have Y:=R i hi;have h2:y[i]?=some y[i]:=ay (by omega);rw[h2,Option.bind_eq_some_iff]at Y;have⟨us,h3,h4⟩:=Y;have⟨b,W,V⟩:=he H enc w base C G n us _ h4;have⟨_,X⟩:=ahZ h3;refine⟨b,W,us,V,λj u J=>?_⟩;have:=X j u J
   rwa [nT,hk]at this
  have⟨l,K,F⟩:=OY len hq;refine⟨l,⟨λb hb=>?_,by omega⟩,some a,cap,by rw[K],by omega,hm,λi x hi=>?_⟩
  .have⟨i,hi⟩:=qn.1 hb;exact(F i b hi).1
  .have⟨_,us,X,g3⟩:=F i x hi;refine⟨us,X,λj u J=>⟨a,rfl,λh=>h,?_,g3 j u J⟩⟩;have:=World.block_lt_of_cell? w _ (g3 j u J)
   rwa [jD]at this
theorem R6{P}{t}{J:Array Field}{d:DT}(W:P.underlying t=some (.struct J))(hs:J.toList.foldl (λs f=>s+P.cellsOf f.type) 0=P.cellsOf t)(h:ahY P J.toList 0 d):alm P t d:=by
 intro H enc w base j y R cs x V;have⟨xs,n,_,_,hl,C,X⟩:=DataW.trod_struct W V;have:=h H enc w base j y n cs _ hl hs λf G=>by have⟨i,hi⟩:=qn.1 G;have K:=X i f (by simpa using hi);have F:=(aC.1 hi).1;rw[ay (by rw[C];simpa using F)]at K;exact⟨_,K⟩
 simpa using this
theorem af7{P}{off}:ahY P [] off .unit:=by intro H enc w base j y C cs n hl F _;simp at F;exact⟨(),trivial,by simp only[DT.h];simp;omega⟩
theorem aln{P}{f}{fl}{off:Nat}{a b:DT}(ho:f.offset=off)(G:P.cellsOf f.type=a.size)(X:alm P f.type a)(W:ahY P fl (off+a.size) b):ahY P (f::fl) off (.pair a b):=by
 intro H enc w base j C F cs n hl R J;subst ho;have⟨x,K⟩:=J f (by simp);have⟨y,a1,a2⟩:=X H enc w base j C F _ x K;have⟨z,b1,Y⟩:=W H enc w base j C F cs n hl (by rw[<-G];simpa using R) λg V=>J g (by simp[V])
 refine⟨(y,z),⟨a1,b1⟩,_,_,?_,a2,Y⟩;rw[<-mq,G,jU]
theorem XN(P:Program):∀d:DT,(∀t,(lay P d).1 t=true->alm P t d)/\∀fl off,(lay P d).2 fl off=true->ahY P fl off d
 | .set=>⟨λ_ h=>by simp[lay]at h,λ_ _ h=>by simp[lay]at h⟩
 | .int k=>by
  refine⟨λt h=>?_,λfl off h=>?_⟩;case refine_2=>simp[lay]at h
  simp only[lay]at h;split at h
  .rename_i k' ht;have:=R7 h;subst this;intro H enc w base spare held atL cs x hx;obtain⟨n,rfl,_,hw⟩:=DataW.trod_int ht hx;exact⟨n,hw,rfl⟩
  .cases h
 | .bool=>by
  refine⟨λt h=>?_,λfl off h=>?_⟩;case refine_2=>simp[lay]at h
  simp only[lay]at h;split at h
  .rename_i ht;intro H enc w base spare held atL cs x hx;obtain⟨n,rfl,_⟩:=DataW.trod_bool ht hx;exact⟨n,trivial,rfl⟩
  .cases h
 | .str=>by
  refine⟨λt h=>?_,λfl off h=>?_⟩;case refine_2=>simp[lay]at h
  simp only[lay]at h;split at h
  .rename_i ht;intro H enc w base spare held atL cs x hx;obtain⟨n,rfl,_,hl⟩:=DataW.trod_string ht hx;exact⟨n,hl,rfl⟩
  .cases h
 | .slc d=>by
  refine⟨λt h=>?_,λfl off h=>?_⟩;case refine_2=>simp[lay]at h
  simp only[lay]at h;split at h
  .rename_i e ht;simp only[aD]at h;exact aia ht (aE h.2) ((XN P d).1 _ h.1)
  .cases h
 | .unit=>by
  refine⟨λt h=>?_,λfl off h=>?_⟩;case refine_2=>simp only[lay,wY]at h;subst h;exact af7
  simp only[lay]at h;split at h
  .rename_i fs ht;simp only[aD,wY]at h;refine R6 ht (by rw[h.1,aE h.2];rfl) ?_;rw[h.1];exact af7
  .cases h
 | .pair a b=>by
  have hF:∀fl off,(lay P (.pair a b)).2 fl off=true->ahY P fl off (.pair a b):=λfl off h=>by
   simp only[lay]at h;split at h
   .simp only[aD]at h;have⟨⟨⟨h1,h2⟩,h3⟩,h4⟩:=h;exact aln (aE h1) (aE h2) ((XN P a).1 _ h3) ((XN P b).2 _ _ h4)
   .cases h
  refine⟨λt h=>?_,hF⟩;simp only[lay]at h;split at h
  .rename_i fs ht;simp only[aD]at h;refine R6 ht (aE h.2) (hF _ _ ?_);have h1:=h.1;simp only[lay];split at h1
   .rename_i f fl hfs;rw[cg];exact h1
   .cases h1
  .cases h
theorem C9{P}{t}{d}(hl:(lay P d).1 t=true){H}{enc}{w}{re}{K base:Nat}{j:Nat->Bool}{C:Bool}{v:Value}{D:DataW H}{p:List MemPlace}
 (hv:Value.okWide P w re K t v) (h:DataW.Trod enc P w base j C t v D p):∃a,d.Nn a/\d.hv noU w a v:=by
 have ho:=(XN P d).1 t hl;have⟨F,h⟩:=h;have⟨a,J,G⟩:=ho H enc w base j C F _ _ h;refine⟨a,J,_,G,?_⟩;cases d with
 |set=>simp[lay]at hl
 |int k=>
  simp only[lay]at hl;split at hl
  .rename_i y;obtain⟨s,rfl⟩:=okWide_int y hv;rfl
  .cases hl
 |bool=>
  simp only[lay]at hl;split at hl
  .rename_i y;obtain⟨s,rfl⟩:=okWide_bool y hv;rfl
  .cases hl
 |str=>
  simp only[lay]at hl;split at hl
  .rename_i y;obtain⟨s,rfl⟩:=okWide_string y hv;rfl
  .cases hl
 |slc d=>
  simp only[lay]at hl;split at hl
  .rename_i y;obtain⟨x,n,c,rfl⟩:=okWide_slice y hv;rfl
  .cases hl
 |unit=>
  simp only[lay]at hl;split at hl
  .rename_i y;obtain⟨cs,rfl,_⟩:=okWide_struct y hv;simp[DT.agg,Value.cells]
  .cases hl
 |pair a b=>
  simp only[lay]at hl;split at hl
  .rename_i y;obtain⟨cs,rfl,_⟩:=okWide_struct y hv;simp[DT.agg,Value.cells]
  .cases hl
def aib(w:World):Env:=⟨noU,w,λ_=>0,λ_=>(none,0),[],[]⟩
theorem atM{w}:hL (aib w) (yL .unit ()) []:=by simp only[yL,hL]
theorem ap2{w}{a b}{x:a.den}{y:b.den}{v}{vs}(h:a.hv noU w x v)(k:hL (aib w) (yL b y) vs):hL (aib w) (yL (.pair a b) (x,y)) (v::vs):=by simp only[yL,hL];exact⟨v,vs,rfl,a.Z_ (E:=aib w) h,k⟩
theorem avR{P}{f}{A}{F}(h:alk P f ⟨A,.v .bool,F⟩){x:A.den}(J:F x=some true){vs:List Value}{w:World}(hv:hL (aib w) (yL A x) vs)(hb:rf P f):
 Calls P f vs.toArray w λe w'=>e=.returned (.bool true)/\Below w.heap.size w w':=by
 have y:∀b,¬Ow (λ_=>0) (λ_=>(none,0)) [] [] b:=by
  rintro b ⟨k,i,h⟩;cases k with
  |false=>have⟨⟨_,h⟩,_⟩:=h;simp at h
  |true=>have⟨r,ad,h,_⟩:=h;simp at h
 have m:Mem w noU (Ow (λ_=>0) (λ_=>(none,0)) [] []) (λ_=>0) (λ_=>(none,0)) [] [] w:=⟨rfl,rfl,rfl,au _,λ_ _ _=>rfl,λb h=>h.elim,λk i b h=>(y b ⟨k,i,h⟩).elim,λk i R V b h=>(y b ⟨k,i,h⟩).elim,λi b h=>by simp at h,λj e t l h=>by simp at h,λj d h=>by simp at h⟩;have K:∀b,Us noU (λ_=>0) (λ_=>(none,0)) [] [] b->noU b:=λb h=>h.elim id λh=>(y b h).elim
 have s:Sub HH (aib w) (env noU (λ_=>0) (λ_=>(none,0)) [] [] w):=⟨⟨λ_ _ _=>rfl,au _,λb _ h=>K b h⟩,λi h=>⟨h,rfl⟩,λj e t l _ h=>⟨l,h,rfl,rfl⟩,λj d _ h=>⟨⟨d,h,rfl⟩,rfl⟩,λj q e t l h=>(by cases h),λj p d ad h=>(by cases h)⟩;refine((h x true J noU _ _ vs w m (nc s hv)).calls hb).mono ?_;rintro e w' ⟨v,rfl,B',A',r,pb',rw',C,G,_,_,H⟩;simp only[QT.mk,bX]at H;obtain⟨rfl,_⟩:=H;simp only[DT.val,DV.h]at G;subst G;exact⟨rfl,C.os,C.tape,C.output,C.size,λb hb=>C.same b hb (y b)⟩
end Go.Vc
namespace Go.Proofs.YthghpahghjppjaaGreat
open Go Go.Vc Go.RowKit sH uj uk ul um uo
set_option synthInstance.maxSize 100000
def shC(c:cr):cr:=ate c ((mK c).take 40)
theorem apo{c}:J_ c=some (shC c):=by
 refine bB λk y=>?_
 have j:∀l:List Int,k (U3 c (c.2.2.2.1.1,c.2.2.2.1.2.1,c.2.2.2.2.1.1,c.2.2.2.2.1.2.1,U6 c.2.2.2.2.2 (l,())))=some (ate c l):=λl=>by subst y;rfl
 by_cases h:(40:Int)<((mK c).length:Int)
 .refine(eA h _ _).trans ?_;refine(Fb (i:=40) (n:=(mK c).length) (by omega) (by omega) _).trans ?_;exact j ((mK c).take 40)
 .refine(cQ h _ _).trans ?_;have e:shC c=ate c (mK c):=by unfold shC;rw[lD (by omega)]
  rw[e];exact j (mK c)
theorem avG {c} (h : DT.Nn jY c) : Un (shC c) := by
  obtain ⟨h1, h2, Y, ⟨X, W, _⟩, ⟨V, R, _⟩, K, J, H, G, F, C, ⟨y, _⟩, _⟩ := h
  refine ⟨wf_i64 h1, wf_i64 h2, λL x j => ?_, ?_⟩
  · cases L with
    | M => rw [ax.1 j]; exact wf_i64 Y
    | U => rcases aG.1 j with rfl | j
           · exact wf_i64 X
           · rw [ax.1 j]; exact wf_i64 W
    | O => rcases aG.1 j with rfl | j
           · exact wf_i64 V
           · rw [ax.1 j]; exact wf_i64 R
    | I => rw [ax.1 j]; exact wf_i64 K
    | A => rw [ax.1 j]; exact wf_i64 J
    | T => rw [ax.1 j]; exact wf_i64 H
    | D => rw [ax.1 j]; exact wf_i64 G
    | Q => rw [ax.1 j]; exact wf_i64 F
    | P => rw [ax.1 j]; exact wf_i64 C
    | N => rcases aG.1 j with rfl | j
           · have : ((mK c).take 40).length <= 40 := by rw [aY]; omega
             show tK (((mK c).take 40).length : Int)
             unfold tK; omega
           · exact wf_i64 (y x (dw j))
  · show ((mK c).take 40).length <= 1000
    rw [aY]; omega
structure Reach(i:Nat)(s:aV):Prop where
 L:sb s
 z:∃a b,a+b<=i/\Siz a b s
def at7:aV:=(0,[],[],[],[],[],[],[],[],[],[],[],())
theorem app:Reach 0 at7:=by
 refine⟨?_,0,0,au _,au _,au _⟩;have nA:∀{α:Type} (f:α->Int),oo f []:=λf=>List.Pairwise.nil
 have nB:∀N K,KK N K []:=λN K=>⟨ap ⟨λ_ h=>(by cases h),List.Pairwise.nil⟩,λ_ h=>(by cases h),λ_ h=>(by cases h),λ_ h=>(by cases h)⟩
 exact { dy:=by show(0:Int)<=0/\(0:Int)<=1048576;omega,mA:=nA _,mO:=λ_ h=>(by cases h),iA:=nA _,iO:=λ_ h=>(by cases h),aA:=nA _,aO:=λ_ h=>(by cases h),cA:=nA _,cO:=λ_ h=>(by cases h),cM:=λ_ h=>(by cases h),hO:=λ_ h=>(by cases h),hS:=List.Pairwise.nil,gI:=afq _,gO:=λ_ h=>(by cases h),gL:=bE _,vI:=afq _,vO:=λ_ h=>(by cases h),vL:=bE _,b:=nB _ _,s:=nB _ _,p:=PL.nil _,h:=⟨ap ⟨λ_ h=>(by cases h),List.Pairwise.nil⟩,λ_ h=>(by cases h),λ_ h=>(by cases h),λ_ h=>(by cases h)⟩,bal:=λ_=>rfl }
theorem Reach.Z{i}{s}(R:Reach i s)(hi:i<=90){c:cr}(j:Un c):yq (mkD s c):=by have⟨a,b,h,S⟩:=R.z;exact yq.of (d:=mkD s c) (a:=a) (b:=b) R.L S (by omega) (by have:=j.2.2.1 .Q _ (ax.2 rfl);exact this) j.2.2.2
theorem Reach.act{i}{s:aV}(R:Reach i s)(hi:i<=90){c:cr}(j:Un c){e:aK}(h:ahN (mkD s c) e):Reach (i+1) (bM e):=by
 have⟨a,b,y,S⟩:=R.z;rcases apn (R.Z hi j) h with K|K
 .exact⟨K.1,a+1,b,by omega,bU K.2.1 (Nat.add_le_add_right S.1 1),bU K.2.2 (by have:=S.2;show(bk s).length+(sa s).length+2*0<=2*b;omega)⟩
 .exact⟨K.1,a,b+1,by omega,bU K.2.1 (by have:=S.1;show(Il s.2.2.2.2.1).length+0<=a;omega),bU K.2.2 (by have:=S.2;show(bk s).length+(sa s).length+2*1<=2*(b+1);omega)⟩
theorem Reach.up{i}{s:aV}(R:Reach i s):Reach (i+1) s:=by have⟨a,b,h,S⟩:=R.z;exact⟨R.L,a,b,by omega,S⟩
theorem Reach.step{i}{s:aV}(R:Reach i s)(hi:i<=90){c:cr}(j:Un c):∃t r,OU s c=some (t,r,())/\Reach (i+1) t/\((r.1≠0/\t=s/\r=noR r.1)\/∃e,GoR s c e/\t=bM e/\r=arK e):=by
 have⟨t,r,F,y⟩:=akO j (R.Z hi j);refine⟨t,r,F,?_,y⟩;rcases y with⟨_,e,_⟩|⟨e,G,C,_⟩
 .rw[e];exact R.up
 .rw[C];exact R.act hi j G.a
set_option maxRecDepth 1000000
theorem apv:Eu aj=some true:=by kernel_rfl
theorem ahV{l}{id}(hl:l.length<=1000000):acV l id=some (match fj l id with|some a=>(a,true,())|none=>(vN,false,())):=by
 refine gB (l:=l) (S:=Unit) (by omega) (λ_ _=>True) (λt _=>some (match fj t id with|some a=>(a,true,())|none=>(vN,false,()))) trivial ?_ ?_
 .rintro _ j _;refine FQ ?_;rfl
 .rintro i hi _ _ j y;refine Ii hi ?_;rw[bN hi,IZ];refine dE (λh=>?_) λh=>?_
  .rw[bN hi,ah h]
  .rw[ag h,cJ i];exact y () trivial
def y9(s:aV)(u:ar)(id:Int):Bool:=match fj s.2.2.2.2.1 u.1 with|some a=>a.2.1==id|none=>false
theorem arL{s}{u}{id}(h:qC s.2.2.2.2.1):Nu s u id=some (y9 s u id):=by show Ab aj s u id=_;unfold Ab y9;rw[ai (ahV (by have:=h.2;omega))];cases fj s.2.2.2.2.1 u.1<;>rfl
theorem RY{C}(h:oo (·.1) C){a:az}(y:a∈C):fj C a.1=some a:=by
 cases j:fj C a.1 with
 |none=>exact absurd rfl (rc (f:=λa:az=>a.1) j a y)
 |some b=>have⟨hb,e⟩:=wq j;rw[C7 h hb y e]
set_option synthInstance.maxHeartbeats 0
/-! ### awQ auH may be: the adA answer -/
/-! ### awQ auH may be: the adA answer, ays -/
/-! ### the same as ayt -/
open Go.IntKind (i64 u64)
theorem K_{α}{f}:∀{l:List α},(∀x∈l,f x=0)->eQ f l=0
 |[],_=>rfl
 |x::l,h=>by rw[dW,h x (by simp),K_ λy j=>h y (by simp[j])];rfl
theorem VR(g:List nU->Int)(g0:g []=0){us:List ar}(y:us.Nodup):∀{b:List bC},(b.map (·.1)).Nodup->eQ (λu=>g (kc b u)) us=eQ (λp=>if p.1∈us then g p.2.1 else 0) b
 |[],_=>K_ λu _=>g0
 |p::b,h=>by
  have⟨G,F⟩:=fw.1 h;have H:=Gk λq C e=>G (aN.2 ⟨q,C,e⟩)
  have e:∀u∈us,g (kc (p::b) u)=(if p.1=u then g p.2.1 else 0)+g (kc b u):=λu _=>by
   rw[kc];by_cases j:p.1=u
   .rw[ah j,ah j,<-j,H,g0];omega
   .rw[ag j,ag j];omega
  rw[xF e,HD,XH y,VR g g0 y F,dW]
theorem VS{id}{C:List az}(V:oo (·.1) C)(hO:∀a∈C,OM a):(gj id C).Nodup:=by
 unfold gj;have y:oo (λa:az=>a.1) (C.filter (p9 id)):=de (rG _ fh) V;have j:∀a∈C.filter (p9 id),OM a:=λa R=>hO a (aM.1 R).1
 generalize C.filter (p9 id)=F at *;induction F with
 |nil=>exact List.nodup_nil
 |cons a F H=>
  have G:oo (λa:az=>a.1) F:=by unfold oo at y ⊢;rw[bK,bz]at y;exact y.2
  rw[cp,nP];refine⟨akm ⟨(j a (by simp)).h.1.1,(j a (by simp)).s|>λh=>by unfold oo at h;rwa [E5]at h⟩,H G λx J=>j x (by simp[J]),λu K v hv e=>?_⟩;have⟨b,hb,hv⟩:=cE.1 hv;subst e;exact RI y b hb ((y5 hv).symm.trans (y5 K))
theorem acR{s}(H:oo (·.1) s.2.2.2.2.1){u:ar}(J:pQ s.2.2.2.2.1 u)(id:Int):u∈gj id s.2.2.2.2.1↔y9 s u id=true:=by
 have⟨a,G,j⟩:=cE.1 J;unfold y9;rw[y5 j,RY H G];constructor
 .intro h;have⟨b,hb,y⟩:=cE.1 h;have⟨F,C⟩:=aM.1 hb;have:=C7 H F G ((y5 y).symm.trans (y5 j));subst this;exact fW.2 (bD C)
 .intro h;exact cE.2 ⟨a,aM.2 ⟨G,ap (fW.1 h)⟩,j⟩
def Aa(M:List aW)(id:Int):Option Int:=(gX M id).map λm=>m.2.1
def yJ(s:aV)(id:Int):Bool:=match Aa s.2.1 id with|some n=>decide (n<pU (bk s) (gj id s.2.2.2.2.1))|none=>false
def acS(s:aV)(id:Int):Int:=eQ (λp=>if y9 s p.1 id=true then fO p.2.1 else 0) (bk s)
theorem Dd{s:aV}(L:sb s)(id:Int):acS s id=pU (bk s) (gj id s.2.2.2.2.1):=by
 unfold pU;rw[VR fO rfl (VS (bZ.cA L) (bZ.cO L)) (ahz (bD (bZ.b L).i:C5 (bk s)).2)];refine xF λp j=>?_
 have h:=acR (s:=s) (bZ.cA L) ((bZ.b L).n p j) id;by_cases ho:y9 s p.1 id=true
 .rw[ah ho,ah (h.2 ho)]
 .rw[ag ho,ag λg=>ho (h.1 g)]
theorem L_{l}(ho:Rw l)(hl:l.length<=100):0<=fO l/\fO l<=922337203685477580800:=by
 have:=Ll (f:=λx:nU=>jb x.2.1) (B:=9223372036854775808) (l:=l) λx j=>by have F:=af3 (ho x j);have C:=QC x.2.1;omega
 have y:=De l;unfold fO at *;omega
theorem akP{s}(L:sb s)(hb:okB (bk s))(hm:∀m∈s.2.1,cy m.2.1)(id:Int):Jm s id=some (yJ s id):=by
 show xG aj s id=_;have hA:=bZ.qC L;have Qm:=hb.2;have hml:=bZ.mL L
 have bd:∀i,0<=eQ (λp=>if y9 s p.1 id=true then fO p.2.1 else 0) ((bk s).take i)/\eQ (λp=>if y9 s p.1 id=true then fO p.2.1 else 0) ((bk s).take i)<=92233720368547758080000:=λi=>by
  have h0:∀p∈(bk s).take i,0<=(if y9 s p.1 id=true then fO p.2.1 else 0)/\(if y9 s p.1 id=true then fO p.2.1 else 0)<=922337203685477580800:=λp G=>by have h2:=hb.1 p (dw G);have h3:=L_ h2.1 h2.2;split<;>omega
  have h1:=Ll (f:=λp=>if y9 s p.1 id=true then fO p.2.1 else 0) (B:=922337203685477580800) (l:=(bk s).take i) λp G=>by have:=h0 p G;omega
  have h2:=Lm (f:=λp=>if y9 s p.1 id=true then fO p.2.1 else 0) (l:=(bk s).take i) λp G=>(h0 p G).1
  have h4:((bk s).take i).length<=100:=by rw[aY];omega
  omega
 refine Et (N:=(bk s).length) (by omega) (λi z=>z=BE (eQ (λp=>if y9 s p.1 id=true then fO p.2.1 else 0) ((bk s).take i))) (some (yJ s id)) axC.symm ?_ ?_
 .rintro _ C rfl;refine FQ ?_;rw[bq];have hs:=Dd L id;have hbd:=bd (bk s).length;rw[bq]at hbd;unfold acS at hs;have R:yJ s id=match gX s.2.1 id with|some m=>decide (m.2.1<pU (bk s) (gj id s.2.2.2.2.1))|none=>false:=by unfold yJ Aa;cases gX s.2.1 id<;>rfl
  rw[R,<-hs];generalize eQ (λp=>if y9 s p.1 id=true then fO p.2.1 else 0) (bk s)=S at *;refine gB (l:=s.2.1) (S:=Unit) (by omega) (λ_ _=>True) (λt _=>some (match gX t id with|some m=>decide (m.2.1<S)|none=>false)) trivial ?_ ?_
  .rintro _ y _;refine FQ ?_;rfl
  .rintro j F _ _ y H;have hI:=hm _ (aF F);refine Ii F ?_;rw[bN F,we];refine dE (λh=>?_) λh=>?_
   .rw[bN F,ah h,ai (avH hI),ai (at8 (by unfold sml;omega) (apq hI))];congr 1;refine dM.2 ?_;split
    .omega
    .split<;>omega
   .rw[ag h,cJ j (by omega)];exact H () trivial
 .rintro i hi _ rfl C ha;refine Ii hi ?_;refine bB λk4 K=>?_
  have e1:=RZ (λp=>if y9 s p.1 id=true then fO p.2.1 else 0) (bk s) i hi;have V:k4 (BE (eQ (λp=>if y9 s p.1 id=true then fO p.2.1 else 0) ((bk s).take i)+(if y9 s (bk s)[i].1 id=true then fO (bk s)[i].2.1 else 0)))=some (yJ s id):=by subst K;show C (i64.wrap ((i:Int)+1),_)=_;rw[cJ i (by omega)];exact ha _ (by rw[e1])
  clear K;have bi:=bd i;have G:=hb.1 _ (aF hi);generalize eQ (λp=>if y9 s p.1 id=true then fO p.2.1 else 0) ((bk s).take i)=S at *;by_cases ho:y9 s (bk s)[i].1 id=true
  .rw[ah ho]at V;refine Et (N:=(bk s)[i].2.1.length) (by omega) (λj z=>z=BE (S+eQ (λx:nU=>jb x.2.1) ((bk s)[i].2.1.take j))) (some (yJ s id)) (by show BE S=BE (S+0);rw[vp]) ?_ ?_
   .rintro _ y rfl;show aj.aI (bk s) (i:Int) (λJ=>aj.af (decide (((bk s)[i].2.1.length:Int)<(J.2.1.length:Int))) _ _)=_;rw[bN hi,dT,bq];exact V
   .rintro j F _ rfl y H;have W:=G.1 _ (aF F);have e2:=RZ (λx:nU=>jb x.2.1) (bk s)[i].2.1 j F;have b2:0<=eQ (λx:nU=>jb x.2.1) ((bk s)[i].2.1.take j)/\eQ (λx:nU=>jb x.2.1) ((bk s)[i].2.1.take j)<=922337203685477580800:=L_ (l:=(bk s)[i].2.1.take j) (λx W=>G.1 x (dw W)) (by rw[aY];omega);have b3:=af3 W;have b4:=QC (bk s)[i].2.1[j].2.1;show aj.aI (bk s) (i:Int) (λJ=>aj.af (decide ((j:Int)<(J.2.1.length:Int))) (aj.aI (bk s) (i:Int) λX=>aj.ae (Nu s X.1 id) λv9=>aj.af v9 (aj.aI (bk s) (i:Int) λx10=>aj.aI x10.2.1 (j:Int) λY=>aj.ae (M_ Y.2.1) λv12=>aj.ae (Nv (BE (S+eQ (λx:nU=>jb x.2.1) ((bk s)[i].2.1.take j))) (false,v12.2)) λv13=>y (i64.wrap ((j:Int)+1),v13)) _) _)=_;rw[bN hi,dk F,bN hi,ai (arL hA),ho,aQ rfl,bN hi,bN F,ai (avH W),apr,ai (at9 (by unfold sml;omega) (by unfold sml;omega)),cJ j (by omega)];exact H _ (by rw[e2,Int.add_assoc])
  .have ho':y9 s (bk s)[i].1 id=false:=by simpa using ho
   rw[ag ho,vp]at V;refine(Z4 _ _ (some (yJ s id)) λy=>?_);show aj.aI (bk s) (i:Int) (λJ=>aj.af (decide ((0:Int)<(J.2.1.length:Int))) (aj.aI (bk s) (i:Int) λX=>aj.ae (Nu s X.1 id) λv9=>aj.af v9 _ (k4 (BE S))) (k4 (BE S)))=_;rw[bN hi];by_cases h0:0<(bk s)[i].2.1.length
   .rw[aQ (ap (by omega)),bN hi,ai (arL hA),ho',aB rfl];exact V
   .rw[aB (an (by omega))];exact V
def Nw(d e:aK):Prop:=∀id,yJ (bM e) id=true->yJ (bM d) id=true
structure jZ(d e:aK):Prop where
 b:cf e=cf d
 a:bs e=bs d
 m:∀id,Aa (di e) id=Aa (di d) id
theorem jZ.k{d e}(S:jZ d e):Nw d e:=λid h=>by unfold yJ at h ⊢;have C:=S.m id;have y:bk (bM e)=bk (bM d):=S.b;have j:(bM e).2.2.2.2.1=(bM d).2.2.2.2.1:=S.a;rw[C,y,j]at h;exact h
theorem jZ.uv(d):jZ d d:=⟨rfl,rfl,λ_=>rfl⟩
theorem jZ.trans{d e f}(S:jZ d e)(T:jZ e f):jZ d f:=⟨T.b.trans S.b,T.a.trans S.a,λid=>(T.m id).trans (S.m id)⟩
theorem Df{s}{id}:yJ s id=true↔∃n,Aa s.2.1 id=some n/\n<pU (bk s) (gj id s.2.2.2.2.1):=by
 unfold yJ;cases Aa s.2.1 id with
 |none=>simp
 |some n=>simp
theorem atA{d e}(L:sb (bM d)){l:List ar}(hl:∀u∈l,pQ (bs d) u)(ha:bs e=bs d)(hm:di e=di d)(ho:∀x,x∉l->kc (cf e) x=kc (cf d) x)(j:R0 e l=0):Nw d e:=by
 intro id h;rw[Df]at h ⊢;have⟨n,y,K⟩:=h;have y:Aa (di e) id=some n:=y;rw[hm]at y;refine⟨n,y,?_⟩;have K:n<pU (cf e) (gj id (bs e)):=K;rw[ha]at K;by_cases hx:∃u∈l,u∈gj id (bs d)
 .exfalso;have⟨u,R,F⟩:=hx
  have key:∀l:List ar,u∈l->R0 e l=0->(pa (bM e) (vE e u).1).2.1=0/\¬(vE e u).2.1<(pa (bM e) (vE e u).1).1:=by
   intro l;induction l with
   |nil=>intro h;cases h
   |cons v l ih=>
    intro hv j;unfold R0 at j;by_cases c1:(pa (bM e) (vE e v).1).2.1=0;case neg=>rw[ag c1]at j;exact absurd j c1
    rw[ah c1]at j;by_cases c2:(vE e v).2.1<(pa (bM e) (vE e v).1).1;case pos=>rw[ah c2]at j;cases j
    rw[ag c2]at j;rcases aG.1 hv with rfl|hv
    .exact⟨c1,c2⟩
    .exact ih hv j
  have⟨c1,c2⟩:=key l R j
  have G:sT (bs d) u=id:=by
   have⟨a,ha1,J⟩:=cE.1 F;have⟨H,ha4⟩:=aM.1 ha1;unfold sT;cases C:(bs d).find? (λa=>zE a u)with
   |none=>have:=jf.1 C a H;exact absurd (ap J) this
   |some b=>have Y:=bV C;have X:=jM C;have W:=bD X;have:=C7 (bZ.cA L) Y H ((y5 W).symm.trans (y5 J));rw[this];exact bD ha4
  unfold Aa at y;cases C:gX (di d) id with
  |none=>rw[C]at y;cases y
  |some m=>
   rw[C]at y;have y:m.2.1=n:=by injection y
   have hM:vE e u=m:=by unfold vE;rw[ha,hm,G,C]
   have V:=(Hz C).2;rw[hM,V]at c1 c2;unfold pa tb at c1 c2;split at c1
   .rename_i hB;rw[ah hB]at c2;unfold cP at c1 c2;split at c1
    .rename_i hI;rw[ah hI]at c2;have c2:¬m.2.1<pU (cf e) (gj id (bs e)):=c2;rw[ha]at c2;omega
    .cases c1
   .cases c1
 .have e1:pU (cf e) (gj id (bs d))=pU (cf d) (gj id (bs d)):=by exact xF λu R=>by rw[ho u λF=>hx ⟨u,F,R⟩]
  rw[e1]at K;exact K
theorem acT{l}{m}(hs:oo (·.1) l)(id:Int)(h:gX l m.1≠none):gX (FE (·.1) l m) id=if id=m.1 then some m else gX l id:=by
 induction l with
 |nil=>exact absurd rfl h
 |cons x l C=>
  have hl:oo (λa:aW=>a.1) l:=by unfold oo at hs ⊢;rw[bK,bz]at hs;exact hs.2
  have y:=RI hs;show gX ((if x.1=m.1 then m else x)::FE (·.1) l m) id=_;by_cases j:x.1=m.1
  .have e:FE (λa:aW=>a.1) l m=l:=by
    refine(ln λz F=>?_).trans (tH _);have:z.1≠m.1:=by rw[<-j];exact y z F
    show(if z.1=m.1 then m else z)=z;rw[ag this]
   rw[ah j,e,we,we];by_cases hi:m.1=id
   .rw[ah hi,ah hi.symm]
   .rw[ag hi,ag (ga hi),ag (by rw[j];exact hi)]
  .rw[ag j,we,we];have G:gX l m.1≠none:=by rwa [we,ag j]at h
   rw[C hl G];by_cases hi:x.1=id
   .rw[ah hi,ag (by rw[<-hi];exact j),ah hi]
   .rw[ag hi,ag hi]
theorem R1{d}(L:sb (bM d)){m m0:aW}(y:gX (di d) m.1=some m0)(j:m.2.1=m0.2.1)(h:(vQ d m).1=0):jZ d (vQ d m).2:=by
 unfold vQ at h ⊢;split;case isFalse g=>rw[ag g]at h;exact absurd h g
 rename_i g;refine⟨rfl,rfl,λid=>?_⟩;show Aa (yr (di d) m).1 id=_;unfold yr at g ⊢;split;case isFalse g1=>rw[ag g1]at g;cases g
 rename_i g1;rw[ah g1]at g;rw[ag (by rw[y];simp)];unfold Aa;rw[acT (bZ.mA L) id (by rw[y];simp)];by_cases hi:id=m.1
 .rw[ah hi,hi,y];exact bQ some j
 .rw[ag hi]
theorem Ny{d}(h:(iQ d).2.1=0):gX (di d) (iQ d).1.1=some (iQ d).1:=by
 unfold iQ at h ⊢;cases j:gX (di d) (yt d)with
 |none=>rw[j]at h;cases h
 |some m=>have:=(Hz j).2;rw[this,j]
theorem R2{m}{day fr}(h:(rK m day fr).2.1=0):(rK m day fr).1.1=m.1/\(rK m day fr).1.2.1=m.2.1:=by
 unfold rK at h ⊢;split;case isTrue g=>rw[ah g]at h;cases h
 rename_i g;rw[ag g]at h;split;case isFalse g1=>rw[ag g1]at h;cases h
 exact⟨rfl,rfl⟩
theorem akQ{d}(L:sb (bM d))(h:(qz d).1=0):jZ d (qz d).2:=by
 unfold qz at h ⊢;split;case isFalse g=>rw[ag g]at h;exact absurd h g
 rename_i g;rw[ah g]at h
 have hm:(iQ d).2.1=0:=by
  unfold zZ at g;split at g
  .assumption
  .assumption
 have e:(zZ d).1.1=(iQ d).1.1/\(zZ d).1.2.1=(iQ d).1.2.1:=by
  unfold zZ at g ⊢;rw[ah hm]at g ⊢;unfold N_ at g ⊢;split;case isFalse g1=>rw[ag g1]at g;exact absurd g g1
  rename_i g1;rw[ah g1]at g;split;case isTrue g2=>rw[ah g2]at g;cases g
  exact R2 g1
 exact R1 L (m0:=(iQ d).1) (by rw[e.1];exact Ny hm) e.2 h
theorem aps{d}(L:sb (bM d))(h:(Ui d).1=0):jZ d (Ui d).2:=by
 unfold Ui at h ⊢;split;case isFalse g=>rw[ag g]at h;exact absurd h g
 rename_i g;rw[ah g]at h
 have hm:(iQ d).2.1=0:=by
  unfold ZA at g;split at g
  .assumption
  .assumption
 have e:(ZA d).1.1=(iQ d).1.1/\(ZA d).1.2.1=(iQ d).1.2.1:=by unfold ZA at g ⊢;rw[ah hm]at g ⊢;exact R2 g
 exact R1 L (m0:=(iQ d).1) (by rw[e.1];exact Ny hm) e.2 h
theorem akR{d}(L:sb (bM d))(hm:(iQ d).2.1=0)(h:(tN d).1=0):jZ d (tN d).2:=by
 unfold tN at h ⊢;split;case isFalse g=>rw[ag g]at h;exact absurd h g
 rename_i g;rw[ah g]at h
 have e:(Ge d).1.1=(iQ d).1.1/\(Ge d).1.2.1=(iQ d).1.2.1:=by
  unfold Ge afx at g ⊢;split;case isTrue g1=>rw[ah g1]at g;cases g
  rename_i g1;rw[ag g1]at g;split;case isFalse j=>rw[ag j]at g;exact absurd g j
  rename_i j;exact R2 j
 exact R1 L (m0:=(iQ d).1) (by rw[e.1];exact Ny hm) e.2 h
theorem QE(d)(id st):jZ d (FF d id st).2:=by
 unfold FF;split
 .split
  .exact⟨rfl,rfl,λ_=>rfl⟩
  .split
   .exact⟨rfl,rfl,λ_=>rfl⟩
   .exact⟨rfl,rfl,λ_=>rfl⟩
 .exact jZ.uv d
theorem R3(st:Int):∀(l:List Int) (d:aK),jZ d (BB st l d).2
 |[],d=>jZ.uv d
 |id::l,d=>by
  unfold BB;split
  .exact(QE d id st).trans (R3 st l _)
  .exact QE d id st
theorem akS{b}{f t}{y}(h:(ur b f t y).2.1=0):C5 b/\C5 (ur b f t y).1/\
 ∀x j,fM (kc (ur b f t y).1 x) j=fM (kc b x) j+(if x=f then -(fM y j)else 0)+(if x=t then fM y j else 0):=by
 unfold ur at h ⊢;split;case isFalse g=>rw[ag g]at h;cases h
 rename_i g0;rw[ah g0]at h;split;case isFalse g=>rw[ag g]at h;exact absurd h g
 rename_i g1;rw[ah g1]at h;have⟨_,H,_⟩:=Xx g1;rw[H]at h ⊢;split;case isFalse g=>rw[ag g]at h;exact absurd h g
 rename_i G;rw[ah G]at h;have S:=l6 G;have T:=l6 h;refine⟨S.inv,T.atB,λx j=>?_⟩;by_cases F:x=t
 .subst F;rw[T.own,ah rfl];by_cases C:x=f
  .subst C;rw[S.own,ah rfl,Lb]
  .rw[S.other x C,ag C];omega
 .rw[T.other x F,ag F];by_cases C:x=f
  .subst C;rw[S.own,ah rfl,Lb];omega
  .rw[S.other x C,ag C];omega
theorem akT{b}{f t}(h:(ur b f t (kc b f)).2.1=0)(F:kc b t=[]){us}(K:us.Nodup):
 pU (ur b f t (kc b f)).1 us=pU b us+(if f∈us then -(fO (kc b f))else 0)+(if t∈us then fO (kc b f)else 0):=by
 have⟨J,G,ho⟩:=akS h;generalize (ur b f t (kc b f)).1=R at*
 have V:∀u,fO (kc R u)=fO (kc b u)+((if f=u then -(fO (kc b f))else 0)+(if t=u then fO (kc b f)else 0)):=by
  intro u;have g0:∀j,fM ([]:List nU) j=0:=λ_=>rfl
  by_cases y:f=t
  .subst y
   have e:=VT (OV G u) (OV J u) λj=>by
    rw[ho u j,F];by_cases C:u=f
    .rw[ah C,ah C,g0];omega
    .rw[ag C,ag C];omega
   rw[e,F];show fO (kc b u)=fO (kc b u)+((if f=u then -(0:Int)else 0)+(if f=u then(0:Int)else 0));split<;>omega
  .by_cases C:f=u
   .subst C;have e:kc R f=[]:=VT (OV G f) ⟨λ_ h=>(by cases h),List.Pairwise.nil⟩ λj=>by rw[ho f j,ah rfl,ag y,g0];omega
    rw[e,ah rfl,ag (ga y)];show(0:Int)=_;omega
   .by_cases H:t=u
    .subst H;have e:=VT (OV G t) (OV J f) λj=>by rw[ho t j,ag (ga y),ah rfl,F,g0];omega
     rw[e,F,ag y,ah rfl];show _=(0:Int)+_;omega
    .have e:=VT (OV G u) (OV J u) λj=>by rw[ho u j,ag (ga C),ag (ga H)];omega
     rw[e,ag C,ag H];omega
 unfold pU;rw[xF (g:=λu=>fO (kc b u)+((if f=u then -(fO (kc b f))else 0)+(if t=u then fO (kc b f)else 0))) λu _=>V u,HD,HD,XH K,XH K];omega
theorem af4{b}{us}(h:(tb b us).2.1=0):(tb b us).1=pU b us:=by
 unfold tb at h ⊢;split
 .rename_i g;rw[ah g]at h;unfold cP at h ⊢;split
  .rfl
  .rename_i j;rw[ag j]at h;cases h
 .rename_i g;rw[ag g]at h;cases h
theorem akU{d}(L:sb (bM d))(h:(Ut d).1=0):Nw d (Ut d).2:=by
 unfold Ut at h ⊢;split;case isFalse g=>rw[ag g]at h;exact absurd h g
 rename_i g
 have e:(Gh (bM d) (aT d)).1=vR (bM d) (Fi (jt d) (aT d)) (uA (bM d) (aT d)).1 (Dc (bM d) (aT d)).1 (yI (bM d) (aT d)).1/\(lI (bM d) (aT d)).2.1=0/\(uA (bM d) (aT d)).2.1=0:=by
  unfold Gh at g ⊢;split;case isFalse g1=>rw[ag g1]at g;exact absurd g g1
  rename_i g1;rw[ah g1]at g;split;case isFalse C=>rw[ag C]at g;exact absurd g C
  rename_i C;rw[ah C]at g;split;case isFalse G=>rw[ag G]at g;exact absurd g G
  rename_i G;rw[ah G]at g;split;case isFalse g4=>rw[ag g4]at g;exact absurd g g4
  exact⟨rfl,g1,C⟩
 have⟨e,y,h2⟩:=e;rw[e];have⟨_,hE⟩:=akV y
 have j:Es (bM d) (aT d) (lI (bM d) (aT d)).1=0:=by
  unfold lI at y ⊢;split;case isFalse g1=>rw[ag g1]at y;exact absurd y g1
  rename_i g1;rw[ah g1]at y;split;case isFalse C=>rw[ag C]at y;exact absurd y C
  rename_i C;rw[ah C]at y;split;case isFalse G=>rw[ag G]at y;exact absurd y G
  assumption
 have hB:=h2;intro id ho;have J:pU (ur (cf d) (aT d) (lI (bM d) (aT d)).1 (kc (cf d) (aT d))).1 (gj id (bs d))=pU (cf d) (gj id (bs d))+(if aT d∈gj id (bs d)then -(fO (kc (cf d) (aT d)))else 0)+(if(lI (bM d) (aT d)).1∈gj id (bs d)then fO (kc (cf d) (aT d))else 0):=akT hB hE.1 (VS (id:=id) (bZ.cA L) (bZ.cO L));rw[Df]at ho ⊢;have⟨n,c1,c2⟩:=ho;have c1:Aa (di d) id=some n:=c1;refine⟨n,c1,?_⟩;have c2:n<pU (ur (cf d) (aT d) (lI (bM d) (aT d)).1 (kc (cf d) (aT d))).1 (gj id (bs d)):=c2;show n<pU (cf d) (gj id (bs d));rw[J]at c2;rename_i c1' c2';generalize hf:aT d=f at *;generalize (lI (bM d) f).1=t at *;have hg:=De (kc (cf d) f);by_cases R:t∈gj id (bs d)
 .exfalso;rw[ah R]at c2;have⟨a,ha1,ha2⟩:=cE.1 R;have⟨ha3,ha4⟩:=aM.1 ha1;have Y:=bD ha4;have X:fj (bs d) t.1=some a:=by rw[y5 ha2];exact RY (bZ.cA L) ha3
  have F:Gl (bM d) t=a:=by unfold Gl;have:=X;rw[this];rfl
  unfold Es at j;split at j;case isFalse g=>exact absurd j g
  rw[F,Y]at j;unfold Aa at c1;cases hm:gX (di d) id with
  |none=>rw[hm]at c1;cases c1
  |some m=>
   have V:=hm;rw[hm]at c1;rw[V]at j;have c1:m.2.1=n:=by injection c1
   dsimp only at j;by_cases k0:m.2.2.1=0;case neg=>rw[ag k0]at j;cases j
   rw[ah k0]at j;by_cases K:(tb (bk (bM d)) [f]).2.1=0;case neg=>rw[ag K]at j;exact absurd j K
   rw[ah K]at j;by_cases H:(pa (bM d) m.1).2.1=0;case neg=>rw[ag H]at j;exact absurd j H
   rw[ah H]at j;have u1:=af4 K;have W:=(Hz hm).2;have u2:(pa (bM d) m.1).1=pU (cf d) (gj id (bs d)):=by rw[W]at H ⊢;exact af4 H
   have u3:pU (bk (bM d)) [f]=fO (kc (cf d) f):=by unfold pU;rw[dW];show _+(0:Int)=_;rw[vp];rfl
   unfold O_ at j;rw[u2,u1,u3]at j;split at j
   .cases j
   .split at j
    .cases j
    .split at c2<;>omega
 .rw[ag R]at c2;split at c2<;>omega
theorem OW{α}{f}(p):∀{l:List α},(∀x∈l,0<=f x)->eQ f (l.filter p)<=eQ f l
 |[],_=>ky _
 |x::l,h=>by
  have C:=OW p (l:=l) λy j=>h y (by simp[j])
  have F:=h x (by simp);rw[bw,dW];split
  .rw[dW];omega
  .omega
theorem apt{d}(L:sb (bM d))(h:(RV d).1=0):Nw d (RV d).2:=by
 have K:=af2 L h;unfold RV at h K ⊢;split;case isFalse g=>rw[ag g]at h;exact absurd h g
 rename_i g0;rw[ah g0]at h K;split;case isFalse g=>rw[ag g]at h;exact absurd h g
 rename_i g1;rw[ah g1]at K;have S:=akQ L g0
 have y:sb (bM (qz d).2):=by
  unfold qz at g0 ⊢;split
  .rename_i g;rw[ah g]at g0;exact(Db L g0).1
  .rename_i g;rw[ag g]at g0;exact absurd g0 g
 have j:=K.1;refine λid ho=>S.k id ?_
 generalize (qz d).2=e at *;generalize (zZ d).1.1=k at *;unfold FV at g1 j ho;split at g1;case isFalse g=>cases g1
 rename_i G;rw[ah G]at j ho;split at g1;case isFalse g=>exact absurd g1 g
 rename_i F;rw[ah F]at j ho;have⟨_,C,_⟩:=BA (N:=pQ (bs e)) (K:=kC (·.1) (fD e)) (wa (bs e) k) (cf e) (eU e) [] F (bZ.b y).n (bZ.b y).k (bZ.s y);rw[da]at C;rw[Df]at ho ⊢;have⟨n,c1,c2⟩:=ho;refine⟨n,c1,?_⟩;rw[<-Dd y];rw[<-Dd j]at c2;have H:acS (bM (Ln e (ajr (bM e) (fk (wa (bs e) k) (cf e) (eU e) []).2.1 (fk (wa (bs e) k) (cf e) (eU e) []).1 (fN e)))) id=eQ (λp=>if y9 (bM e) p.1 id=true then fO p.2.1 else 0) (fk (wa (bs e) k) (cf e) (eU e) []).2.1:=rfl;have c2:n<acS (bM (Ln e (ajr (bM e) (fk (wa (bs e) k) (cf e) (eU e) []).2.1 (fk (wa (bs e) k) (cf e) (eU e) []).1 (fN e)))) id:=c2;rw[H,C]at c2
 have le:=OW (f:=λp:bC=>if y9 (bM e) p.1 id=true then fO p.2.1 else 0) (λp=>!wa (bs e) k p.1) (l:=cf e) λp _=>by
  split
  .exact De _
  .exact ky _
 exact Int.lt_of_lt_of_le c2 le
theorem akW{d}{f t x}{p}(h:(IG d f t x p).1=0):bs (IG d f t x p).2=bs d/\di (IG d f t x p).2=di d/\∀y,y≠f->y≠t->kc (cf (IG d f t x p).2) y=kc (cf d) y:=by
 unfold IG at h ⊢;split;case isFalse g=>rw[ag g]at h;exact absurd h g
 rename_i g0;rw[ah g0]at h;split;case isFalse g=>rw[ag g]at h;exact absurd h g
 rename_i g1;exact⟨rfl,rfl,(ak3 g1).bk.other⟩
theorem akX{d}(L:sb (bM d))(h:(Lg d).1=0):Nw d (Lg d).2:=by
 unfold Lg at h ⊢;split;case isFalse g=>rw[ag g]at h;exact absurd h g
 rename_i C;rw[ah C]at h;split;case isFalse g=>rw[ag g]at h;exact absurd h g
 rename_i G;rw[ah G]at h;split;case isTrue g=>rw[ah g]at h;cases h
 rename_i F;rw[ag F]at h;split;case isFalse g=>rw[ag g]at h;exact absurd h g
 rename_i y;rw[ah y]at h;have⟨H,a2,a3⟩:=akW y;exact atA L (pS C) H a2 (λx j=>a3 x (λe=>j (by simp[e])) λe=>j (by simp[e])) h
theorem acU{d}(L:sb (bM d))(h:(y7 d).1=0):Nw d (y7 d).2:=by
 unfold y7 at h ⊢;cases y:zR (cx d) (ux d)with
 |none=>rw[y]at h;cases h
 |some g=>
  rw[y]at h;dsimp only at h ⊢;split;case isFalse g1=>rw[ag g1]at h;exact absurd h g1
  rename_i F;rw[ah F]at h;split;case isFalse g1=>rw[ag g1]at h;exact absurd h g1
  rename_i G;rw[ah G]at h;split;case isFalse g1=>rw[ag g1]at h;exact absurd h g1
  rename_i C;rw[ah C]at h;have⟨H,a2,a3⟩:=akW C;exact atA L (pS F) H a2 (λx j=>a3 x (λe=>j (by simp[e])) λe=>j (by simp[e])) h
theorem akY{d}(L:sb (bM d))(h:(RW d).1=0):Nw d (RW d).2:=by
 unfold RW at h ⊢;split;case isFalse g=>rw[ag g]at h;exact absurd h g
 rename_i g0;rw[ah g0]at h;split;case isFalse g=>rw[ag g]at h;cases h
 rename_i g1;rw[ah g1]at h;split;case isFalse g=>rw[ag g]at h;exact absurd h g
 rename_i j;rw[ah j]at h;have⟨_,X,W,_,_⟩:=Ns L (RJ g0) j
 have key:pQ (bs d) (cu d)/\∀x,x≠cu d->kc (bk (Uj d).1) x=kc (cf d) x:=by
  unfold Uj at j ⊢
  have H:zG (bM d) (aT d) (cu d) (jl d) (dA d) (kM d)=0:=by
   unfold Bu at j;split at j
   .assumption
   .rename_i g;exact absurd j g
  have⟨_,⟨i,hi⟩,Y,_,y⟩:=Rc H;rw[Xc H hi]at j ⊢;split;case isFalse g=>rw[ag g]at j;cases j
  rename_i R;rw[ah R]at j;split;case isFalse g=>rw[ag g]at j;cases j
  rename_i K;rw[ah K]at j;unfold ZK at j ⊢;split;case isFalse g=>rw[ag g]at j;exact absurd j g
  rename_i J;rw[ah J]at j;split;case isFalse g=>rw[ag g]at j;exact absurd j g
  rename_i G;rw[ah G]at j;split;case isFalse g=>rw[ag g]at j;exact absurd j g
  refine⟨?_,λx C=>(l6 G).other x C⟩;unfold M4 at y;cases F:fj (bM d).2.2.2.2.1 (cu d).1 with
  |none=>rw[F]at y;cases y
  |some a=>
   rw[F]at y;dsimp only at y;split at y
   .rename_i g;exact cE.2 ⟨a,(wq F).1,bD g⟩
   .cases y
 exact atA L (l:=[cu d]) (λu V=>by rw[ax.1 V];exact key.1) X W (λx C=>key.2 x λe=>C (ax.2 e)) h
theorem VU{α}{f}{l:List α}{x:α}(j:∀y∈l,f y≠f x)(k:Int):(si f l x).find? (λy=>f y==k)=if k=f x then some x else l.find? (λy=>f y==k):=by
 have e:=gV (p:=λy=>decide (f y<f x)) (l:=l);have J:l.find? (λy=>f y==k)=((l.takeWhile λy=>decide (f y<f x)).find? λy=>f y==k).or ((l.dropWhile λy=>decide (f y<f x)).find? λy=>f y==k):=by rw[<-List.find?_append,e]
 show((l.takeWhile λy=>decide (f y<f x))++x::l.dropWhile λy=>decide (f y<f x)).find? (λy=>f y==k)=_;rw[List.find?_append,kP,J];by_cases C:k=f x
 .subst C;have H:(l.takeWhile λy=>decide (f y<f x)).find? (λy=>f y==f x)=none:=by rw[jf];intro y F;have:=j y ((vr _).subset F);simpa using this
  rw[H,ah rfl];simp
 .have G:(f x==k)=false:=by simpa using ga C
  rw[G,ag C]
theorem ahP{α}{f}{l}{x y:α}(hs:oo f l)(h:l.find? (λy=>f y==f x)=some y)(k:Int):(FE f l x).find? (λy=>f y==k)=if k=f x then some x else l.find? (λy=>f y==k):=by
 induction l with
 |nil=>cases h
 |cons z l J=>
  have hl:oo f l:=by unfold oo at hs ⊢;rw[bK,bz]at hs;exact hs.2
  have F:=RI hs;show((if f z=f x then x else z)::FE f l x).find? (λy=>f y==k)=_;rw[kP]at h;by_cases C:f z=f x
  .have e:FE f l x=l:=by
    refine(ln λw K=>?_).trans (tH _);have:f w≠f x:=by rw[<-C];exact F w K
    show(if f w=f x then x else w)=w;rw[ag this]
   rw[ah C,e,kP,kP,C];by_cases j:k=f x
   .subst j;rw[ah rfl];simp
   .have:(f x==k)=false:=by simpa using ga j
    rw[this,ag j]
  .have R:(f z==f x)=false:=by simpa using C
   rw[R]at h;rw[ag C,kP,kP,J hl h];by_cases j:f z=k
   .have G:(f z==k)=true:=by simpa using j
    have H:¬k=f x:=λe=>C (j.trans e)
    rw[ag H,ag H,G]
   .have G:(f z==k)=false:=by simpa using j
    rw[G]
theorem avI{d e}(L:sb (bM d))(F:sb (bM e))(hb:cf e=cf d)(hm:di e=di d)(ho:∀u,pQ (bs d) u->∀id,y9 (bM e) u id=y9 (bM d) u id):Nw d e:=by
 intro id h;rw[Df]at h ⊢;have⟨n,c1,c2⟩:=h;have c1:Aa (di e) id=some n:=c1;rw[hm]at c1;refine⟨n,c1,?_⟩;rw[<-Dd L];rw[<-Dd F]at c2;have C:acS (bM e) id=acS (bM d) id:=by unfold acS;have j:bk (bM e)=bk (bM d):=hb;rw[j];exact xF λp y=>by rw[ho p.1 ((bZ.b L).n p y) id]
 rw[C]at c2;exact c2
theorem ahQ{d}(L:sb (bM d))(h:(Ei d).1=0):Nw d (Ei d).2:=by
 have K:=VJ L h;unfold Ei at h K ⊢;by_cases H:pR d=0;case neg=>rw[ag H]at h;cases h
 rw[ah H]at h K ⊢;by_cases F:HA d=0;case neg=>rw[ag F]at h;exact absurd h F
 rw[ah F]at h K ⊢;have h:=h;refine avI L K.1 rfl rfl λu J id=>?_
 unfold ON at h ⊢;by_cases G:r_ (C6 d)=true;case neg=>rw[ag G]at h;cases h
 rw[ah G]at h ⊢;by_cases C:fj (bs d) (C6 d).1=none;case neg=>rw[ag C]at h;cases h
 rw[ah C];have⟨b,hb,y⟩:=cE.1 J;have j:=rc (f:=λa:az=>a.1) C;have R:fj (si (·.1) (bs d) (C6 d)) u.1=fj (bs d) u.1:=by unfold fj;rw[VU (f:=λa:az=>a.1) j,ag];rw[y5 y];exact j b hb
 show(match fj (si (·.1) (bs d) (C6 d)) u.1 with|some a=>a.2.1==id|none=>false)=(match fj (bs d) u.1 with|some a=>a.2.1==id|none=>false);rw[R]
theorem akZ{d}(L:sb (bM d))(h:(Lf d).1=0):Nw d (Lf d).2:=by
 have K:=t_ L h;unfold Lf at h K ⊢;cases F:fj (bs d) (uw d)with
 |none=>rw[F]at h;cases h
 |some a=>
  rw[F]at h K;have⟨J,X⟩:=wq F;dsimp only at h K ⊢;by_cases G:(VK d a.2.1).2.2.1=0;case neg=>rw[ag G]at h;cases h
  rw[ah G]at h K ⊢;by_cases j:(oH a (pR d)).2.1=0;case neg=>rw[ag j]at h;exact absurd h j
  rw[ah j]at h K ⊢;have h:=h
  have hb:(oH a (pR d)).1.1=a.1/\(oH a (pR d)).1.2.1=a.2.1:=by
   unfold oH at j ⊢;split;case isFalse g=>rw[ag g]at j;cases j
   rename_i g;rw[ah g]at j;split;case isTrue g=>rw[ah g]at j;cases j
   rename_i g;rw[ag g]at j;split;case isTrue g=>rw[ah g]at j;cases j
   rename_i g;rw[ag g]at j;split;case isTrue g=>rw[ah g]at j;cases j
   rename_i g;rw[ag g]at j;split;case isTrue g=>rw[ah g]at j;cases j
   exact⟨rfl,rfl⟩
  refine avI L K.1 rfl rfl λu W id=>?_
  generalize (oH a (pR d)).1=b at *;unfold OO at h ⊢;split;case isFalse g=>rw[ag g]at h;cases h
  rename_i g;rw[ah g]at h;split;case isTrue g=>rw[ah g]at h;cases h
  have H:(bs d).find? (λy=>y.1==b.1)=some a:=by have:=RY (bZ.cA L) J;rw[hb.1];exact this
  have V:fj (FE (·.1) (bs d) b) u.1=if u.1=b.1 then some b else fj (bs d) u.1:=by exact ahP (f:=λa:az=>a.1) (bZ.cA L) H u.1
  show(match fj (FE (·.1) (bs d) b) u.1 with|some a=>a.2.1==id|none=>false)=(match fj (bs d) u.1 with|some a=>a.2.1==id|none=>false);rw[V];by_cases C:u.1=b.1
  .have R:fj (bs d) u.1=some a:=by rw[C];exact H
   rw[ah C,R];dsimp only;rw[hb.2]
  .rw[ag C]
theorem ahR{d}(L:sb (bM d))(V:bT d≠6)(h:(Ej d).1=0):Nw d (Ej d).2:=by
 unfold Ej at h ⊢;split
 case isTrue C=>
  rw[ah C]at h;have h:=h;intro id ho;have ho:=ho;unfold Ga at h ho;split at h;case isFalse g=>cases h
  rename_i g;rw[ah g]at ho;split at h;case isFalse F=>cases h
  rename_i F;rw[ah F]at ho;rw[Df]at ho ⊢;have⟨n,c1,c2⟩:=ho;have c1:Aa (si (·.1) (di d) (ahS d)) id=some n:=c1;have c2:n<pU (cf d) (gj id (bs d)):=c2;have j:=rc (f:=λa:aW=>a.1) F;unfold Aa gX at c1;rw[VU (f:=λa:aW=>a.1) j]at c1;by_cases hi:id=(ahS d).1
  .exfalso;rw[ah hi]at c1;have c1:(ahS d).2.1=n:=by injection c1
   have:gj id (bs d)=[]:=by
    unfold gj;have:(bs d).filter (p9 id)=[]:=by rw[pG];intro a R K;have⟨m,hm,e⟩:=bZ.cM L a R;exact j m hm (by rw[<-hi];exact e.trans (bD K))
    rw[this];rfl
   rw[this]at c2;have c2:n<0:=c2;have:=g.2.2.1;omega
  .rw[ag hi]at c1;exact⟨n,c1,c2⟩
 rename_i C;rw[ag C]at h;split;case isTrue J=>exact jZ.k ⟨rfl,rfl,λ_=>rfl⟩
 rename_i J;rw[ag J]at h;split;case isTrue H=>exact jZ.k ⟨rfl,rfl,λ_=>rfl⟩
 rename_i H;rw[ag H]at h;split;case isTrue y=>rw[ah y]at h;exact ahQ L h
 rename_i y;rw[ag y]at h;split;case isTrue G=>rw[ah G]at h;exact akZ L h
 rename_i G;first|exact(jZ.uv d).k|(rw[ag V];exact(jZ.uv d).k)
theorem P_(d)(g):jZ d (C9 d g).2:=by
 unfold C9;split
 .exact⟨rfl,rfl,λ_=>rfl⟩
 .exact jZ.uv d
theorem ahT{d}(L:sb (bM d))(h:(Ek d).1=0):Nw d (Ek d).2:=by
 unfold Ek at h ⊢;split;case isTrue g=>rw[ah g]at h;exact akX L h
 rename_i g;rw[ag g]at h;split
 .refine jZ.k ?_;unfold RL;split
  .split
   .split
    .exact jZ.uv d
    .exact P_ d _
   .exact jZ.uv d
  .exact jZ.uv d
 rename_i g;rw[ag g]at h;split;case isTrue g=>rw[ah g]at h;exact acU L h
 rename_i g;rw[ag g]at h;split
 .exact(QE d _ _).k
 split
 .exact(QE d _ _).k
 split
 .refine jZ.k ?_;unfold Jj
  repeat' split
  all_goals exact⟨rfl,rfl,λ_=>rfl⟩
 .refine jZ.k ?_;unfold Ji;split
  .exact jZ.uv d
  .split
   .split
    .rename_i g _ _ _;have S:jZ d (Fg d (kh (dR d) g.1 (dA d)).1):=⟨rfl,rfl,λ_=>rfl⟩;exact S.trans (P_ _ _)
    .exact jZ.uv d
   .exact jZ.uv d
theorem Q_(d)(n):jZ d (Gg d n).2:=by unfold Gg;split<;>exact⟨rfl,rfl,λ_=>rfl⟩
theorem apu{d e}(Z:yq d)(H:bT d≠6)(h:ahN d e):Nw d e:=by
 have L:=Z.L;have j:∀{f:Int×aK},f=(0,e)->f.1=0/\f.2=e:=λh=>by rw[h];exact⟨rfl,rfl⟩
 rcases h with⟨_,h⟩|⟨_,_,h⟩|⟨h1,R,h⟩|⟨_,h⟩|⟨_,_,h⟩|⟨_,n,h⟩
 .obtain⟨a,rfl⟩:=j h;exact ahR L H a
 .obtain⟨a,rfl⟩:=j h;exact ahT L a
 .obtain⟨a,rfl⟩:=j h;refine jZ.k ?_;unfold ahL;split
  .exact⟨rfl,rfl,λ_=>rfl⟩
  split
  .exact⟨rfl,rfl,λ_=>rfl⟩
  split
  .unfold D_;split
   .exact jZ.uv d
   .split
    .split
     .have S:jZ d (C_ d):=⟨rfl,rfl,λ_=>rfl⟩;exact S.trans (R3 _ _ _)
     .exact⟨rfl,rfl,λ_=>rfl⟩
    .exact jZ.uv d
  split
  .unfold acP;split
   .split
    .split
     .exact Q_ d _
     .split
      .split
       .exact⟨rfl,rfl,λ_=>rfl⟩
       .exact jZ.uv d
      .exact jZ.uv d
    .exact jZ.uv d
   .exact jZ.uv d
  .exact jZ.uv d
 .have⟨w1,K,G⟩:=h;obtain⟨a,rfl⟩:=j G;refine jZ.k ?_;unfold gH;split
  .split
   .exact jZ.uv d
   .exact Q_ d _
  .split
   .exact⟨rfl,rfl,λ_=>rfl⟩
   .exact jZ.uv d
 .obtain⟨a,rfl⟩:=j h;unfold akJ at a ⊢;split
  case isTrue g=>
   refine jZ.k ?_;unfold Jl
   repeat' split
   all_goals exact⟨rfl,rfl,λ_=>rfl⟩
  rename_i g;rw[ag g]at a;split
  case isTrue g=>
   refine jZ.k ?_;unfold RT
   repeat' split
   all_goals exact⟨rfl,rfl,λ_=>rfl⟩
  rename_i g;rw[ag g]at a;split
  case isTrue g=>
   rw[ah g]at a;refine jZ.k ?_;unfold acO at a ⊢;split;case isFalse g1=>exact jZ.uv d
   rename_i g1;rw[ah g1]at a;split;case isTrue C=>exact jZ.uv d
   rename_i C;rw[ag C]at a;split;case isFalse y=>rw[ag y]at a;exact absurd a y
   rename_i y;exact(akR L g1 y).trans (R3 _ _ _)
  rename_i g;rw[ag g]at a;split;case isTrue g=>rw[ah g]at a;exact akU L a
  rename_i g;rw[ag g]at a;split;case isTrue g=>rw[ah g]at a;exact apt L a
  rename_i g;rw[ag g]at a;split;case isTrue g=>rw[ah g]at a;exact akY L a
  rename_i g;rw[ag g]at a;refine jZ.k ?_;unfold XE at a ⊢;split;case isFalse g1=>rw[ag g1]at a;exact absurd a g1
  rename_i g1;rw[ah g1]at a;refine(aps L g1).trans ?_;generalize (Ui d).2=e at *;generalize (ZA d).1.1=id at *;unfold clR at a ⊢;split;case isFalse C=>exact jZ.uv e
  rename_i C;rw[ah C]at a;split;case isFalse y=>exact jZ.uv e
  rename_i y;rw[ah y]at a;split;case isFalse F=>exact jZ.uv e
  rename_i F
  have J:(clG e id).1=fX (fX (bM e) (II e id).1 (II e id).2.1) (jI (fX (bM e) (II e id).1 (II e id).2.1) (gj id (bs e))).1 (jI (fX (bM e) (II e id).1 (II e id).2.1) (gj id (bs e))).2.1:=by
   unfold clG OQ at F ⊢;split
   .rfl
   .rename_i g;rw[ag g]at F;cases F
  rw[J];exact⟨rfl,rfl,λ_=>rfl⟩
 .subst h;exact jZ.k ⟨rfl,rfl,λ_=>rfl⟩
theorem Reach.bk{i}{s:aV}(R:Reach i s)(hi:i<=91):okB (bk s):=by have⟨a,b,h,S⟩:=R.z;exact(bZ.b R.L).okB (by have:=bZ.bL R.L;have:=S.1;omega)
theorem af5{s}(L:sb s):∀m∈s.2.1,cy m.2.1:=λm hm=>by have h:=bZ.mO L m hm;unfold yp at h;unfold cy;omega
theorem ahU{l:List cr}(hl:DT.Nn (.slc jY) l):wt aj l=some true:=by
 have hl2:=hl.2;refine bB λk3 hk3=>?_
 have K3:∀s,k3 s=some true:=λs=>by subst hk3;exact(ai apv _)
 refine nW (X:=Int×aV) (λo=>o=some true) (λz=>100-z.1.toNat) (λz=>∃i:Nat,z.1=(i:Int)/\i<=90/\i<=l.length/\Reach i z.2) ⟨0,rfl,by omega,by omega,app⟩ (by decide) ?_;rintro⟨_,s⟩ ⟨i,rfl,hi,hil,R⟩ again ha;by_cases h1:i<l.length;case neg=>rw[cQ (by omega)];exact K3 s
 rw[dk h1];by_cases h2:i<90;case neg=>rw[cQ (show ¬((i:Int)<90)by omega)];exact K3 s
 rw[eA (show(i:Int)<90 by omega),bN h1,ai apo];have hc:=avG (hl.1 _ (aF h1));generalize shC l[i]=c at *;have⟨t,r,e1,V,H⟩:=R.step (by omega) hc;rw[ai e1];refine bB λY F=>?_
 have y:Y ()=some true:=by subst F;rw[cJ i];exact ha _ ⟨i+1,rfl,by omega,by omega,V⟩ (by omega)
 refine nW (X:=Int×Unit) (λo=>o=some true) (λz=>10-z.1.toNat) (λz=>∃j:Nat,z.1=(j:Int)/\1<=j/\j<=9) ⟨1,rfl,by omega,by omega⟩ (by decide) ?_;rintro⟨_,_⟩ ⟨j,rfl,hj1,hj⟩ K ha2;by_cases hj8:j<=8;case neg=>rw[cQ (show ¬((j:Int)<=8)by omega)];exact y
 rw[eA (show(j:Int)<=8 by omega)];by_cases h3:r.1=0;case neg=>rw[pq h3];exact y
 rw[oJ h3];by_cases h6:c.1=6;case pos=>rw[gY h6];exact y
 rw[fz h6];refine bB λW C=>?_
 have J:W (false,())=some true:=by subst C;refine(aB rfl _ _).trans ?_;rw[cJ j];exact ha2 _ ⟨j+1,rfl,by omega,by omega⟩ (by omega)
 rcases H with⟨H,_⟩|⟨e,G,H,_⟩
 .exact absurd h3 H
 have cap:=apu (R.Z (by omega) hc) h6 G.a (j:Int);have o1:Jm t (j:Int)=some (yJ t j):=akP V.L (V.bk (by omega)) (af5 V.L) _;have o2:Jm s (j:Int)=some (yJ s j):=akP R.L (R.bk (by omega)) (af5 R.L) _;refine vC o1 ?_;cases ht:yJ t (j:Int)with
 |false=>rw[aB rfl];exact J
 |true=>have hs:yJ s (j:Int)=true:=cap (by rw[<-H];exact ht);rw[aQ rfl];refine(ai o2 _).trans ?_;rw[hs];exact J
end Go.Proofs.YthghpahghjppjaaGreat