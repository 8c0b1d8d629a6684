import Derived.Test.YthghpahghjppjaaGreatB8
import Derived.Laws.Externs
import Derived.WalkKit
import Derived.ProofKit
import Derived.OpenShut
import Derived.ShutString
import Derived.ChangeOld
import Derived.Below
import Derived.Lib.SmallJoins
namespace Go.Vc
open Go Go.RowKit
theorem ι{P}{f}{s}(h:∀x q,s.fn x=some q->∀(E:Env) (vs:List Value),hL E (BW s.P x) vs->∃v,(∀w,(callFunc f vs.toArray).run P w=.ok (.value v) w)/\(s.Q.mk q []).2=[]/\∀E,(s.Q.mk q []).1.h E v):al2 P f s:=by intro x q y U0 B A vs w m j;have⟨v,G,F,C⟩:=h x q y _ vs j;refine⟨.inr ⟨v,w,G w,B,A,(s.Q.mk q []).1,[],[],m,C _,λi hi=>(by have⟨b,hb⟩:=hi;simp at hb),rfl,?_⟩⟩;exact jg rfl F.symm
open Go.ChangeShapes Go.WideShapes
def noU:Nat->Prop:=λ_=>False
def DT.N4:(t:DT)->t.den->Prop
 | .int k,n=>(Lit.int k n).wf=true
 | .bool,_=>True
 | .str,s=>s.size<=maxLen
 | .slc t,l=>(∀x∈l,t.N4 x)/\l.length<=maxLen
 | .unit,_=>True
 | .pair a b,x=>a.N4 x.1/\b.N4 x.2
 | .set,_=>False
theorem wf_i64{n}(h:(Lit.int .i64 n).wf=true) : -9223372036854775808<=n/\n<=9223372036854775807:=by simp[Lit.wf,IntKind.min,IntKind.max,IntKind.signed,IntKind.bits]at h;omega
def lay(P:Program):DT->(TypeId->Bool)×(List Field->Nat->Bool)
 | .int k=>(λt=>match P.underlying t with|some (.int y)=>eqk y k|_=>false,λ_ _=>false)
 | .bool=>(λt=>match P.underlying t with|some .bool=>true|_=>false,λ_ _=>false)
 | .set=>(λ_=>false,λ_ _=>false)
 | .str=>(λt=>match P.underlying t with|some .string=>true|_=>false,λ_ _=>false)
 | .slc d=>(λt=>match P.underlying t with|some (.slice e)=>(lay P d).1 e&&Nat.beq (P.cellsOf e) d.size|_=>false,λ_ _=>false)
 | .unit=>(λt=>match P.underlying t with|some (.struct j)=>j.toList.isEmpty&&Nat.beq (P.cellsOf t) 0|_=>false,λfl _=>fl.isEmpty)
 | .pair a b=>
  (λt=>match P.underlying t with
   |some (.struct j)=>(match j.toList with
    |f::fl=>Nat.beq f.offset 0&&Nat.beq (P.cellsOf f.type) a.size&&(lay P a).1 f.type&&(lay P b).2 fl a.size
    |[]=>false)&&Nat.beq (j.toList.foldl (λs f=>s+P.cellsOf f.type) 0) (P.cellsOf t)
   |_=>false,
  λfl off=>match fl with
   |f::fl=>Nat.beq f.offset off&&Nat.beq (P.cellsOf f.type) a.size&&(lay P a).1 f.type&&(lay P b).2 fl (off+a.size)
   |[]=>false)
def al3(P:Program)(t:TypeId)(d:DT):Prop:=∀(H:Type) (enc:TypeId×Value->H) (w:World) (base:Nat) (j:Nat->Bool) (y:Bool) (C:Nat) (cs:List Value) (x:DataW H×List MemPlace),DataW.trod enc P w base j y C t cs=some x->∃a,d.N4 a/\d.h noU w a cs
def aic(P:Program)(fl:List Field)(off:Nat)(d:DT):Prop:=∀(H:Type) (enc:TypeId×Value->H) (w:World) (base:Nat) (j:Nat->Bool) (y:Bool) (C:Nat) (cs:List Value) (n:Nat),cs.length=n->fl.foldl (λs f=>s+P.cellsOf f.type) off=n->(∀f∈fl,∃x,DataW.trod enc P w base j y C f.type ((cs.drop f.offset).take (P.cellsOf f.type))=some x)->∃a,d.N4 a/\d.h noU w a (cs.drop off)
theorem PJ{α}{Q:Nat->α->Prop}:∀(n:Nat),(∀i,i<n->∃a,Q i a)->∃l:List α,l.length=n/\∀i a,l[i]?=some a->Q i a
 |0,_=>⟨[],rfl,by simp⟩
 |n+1,h=>by
  have⟨l,hl,j⟩:=PJ n λi hi=>h i (by omega)
  have⟨a,y⟩:=h n (by omega);refine⟨l++[a],by simp[hl],λi b hb=>?_⟩;rcases dO i n with hi|hi
  .rw[bC (by omega)]at hb;exact j i b hb
  .rw[dP (by omega),hl]at hb;rcases Nat.eq_or_lt_of_le hi with e|e
   .subst e;simp at hb;subst hb;exact y
   .rw[bD (by simp;omega)]at hb;cases hb
theorem aid{w:World}{base:Nat}{a:Addr}{n:Nat}{cs:List Value}(h:w.cells? base a n=some cs):cs.length=n/\∀j u,cs[j]?=some u->w.cell? (a.add j)=some u:=by
 unfold World.cells? at h;split at h
 .have hl:=mapM_some_length h;refine⟨by simpa using hl,λj u C=>?_⟩;have y:j<n:=by have:=(aC.1 C).1;simp at hl;omega
  have:=mapM_some_get h j j (by simp[y]);rw[this,C]
 .cases h
theorem aie{P:Program}{t e:TypeId}{d:DT}(ht:P.underlying t=some (.slice e))(hk:P.cellsOf e=d.size)(he:al3 P e d):al3 P t (.slc d):=by
 intro H enc w base C G atL cs x h;rcases DataW.trod_slice ht h with⟨rfl,_⟩|⟨a,len,cap,y,rest,n,_,rfl,_,hb,hl,hm,hlen,R,_,_⟩
 .exact⟨[],⟨by simp,br _⟩,none,0,rfl,au _,br _,by simp⟩
 .have hq:∀i,i<len->∃b:d.den,d.N4 b/\∃us,d.h noU w b us/\∀j u,us[j]?=some u->w.cell? (a.add (i*d.size+j))=some u:=by
   intro i hi;have Y:=R i hi;have h2:y[i]?=some y[i]:=aw (by omega);rw[h2,Option.bind_eq_some_iff]at Y;have⟨us,h3,h4⟩:=Y;have⟨b,W,V⟩:=he H enc w base C G n us _ h4;have⟨_,X⟩:=aid h3;refine⟨b,W,us,V,λj u J=>?_⟩;have:=X j u J
   rwa [og,hk]at this
  have⟨l,K,F⟩:=PJ len hq;refine⟨l,⟨λb hb=>?_,by omega⟩,some a,cap,by rw[K],by omega,hm,λi x hi=>?_⟩
  .have⟨i,hi⟩:=qG.1 hb;exact(F i b hi).1
  .have⟨_,us,X,g3⟩:=F i x hi;refine⟨us,X,λj u J=>⟨a,rfl,λh=>h,?_,g3 j u J⟩⟩;have:=World.block_lt_of_cell? w _ (g3 j u J)
   rwa [jK]at this
theorem Tb{P}{t}{J:Array Field}{d:DT}(W:P.underlying t=some (.struct J))(hs:J.toList.foldl (λs f=>s+P.cellsOf f.type) 0=P.cellsOf t)(h:aic P J.toList 0 d):al3 P t d:=by
 intro H enc w base j y R cs x V;have⟨xs,n,_,_,hl,C,X⟩:=DataW.trod_struct W V;have:=h H enc w base j y n cs _ hl hs λf G=>by have⟨i,hi⟩:=qG.1 G;have K:=X i f (by simpa using hi);have F:=(aC.1 hi).1;rw[aw (by rw[C];simpa using F)]at K;exact⟨_,K⟩
 simpa using this
theorem af8{P}{off}:aic P [] off .unit:=by intro H enc w base j y C cs n hl F _;simp at F;exact⟨(),trivial,by simp only[DT.h];simp;omega⟩
theorem al4{P}{f}{fl}{off:Nat}{a b:DT}(ho:f.offset=off)(G:P.cellsOf f.type=a.size)(X:al3 P f.type a)(W:aic P fl (off+a.size) b):aic P (f::fl) off (.pair a b):=by
 intro H enc w base j C F cs n hl R J;subst ho;have⟨x,K⟩:=J f (by simp);have⟨y,a1,a2⟩:=X H enc w base j C F _ x K;have⟨z,b1,Y⟩:=W H enc w base j C F cs n hl (by rw[<-G];simpa using R) λg V=>J g (by simp[V])
 refine⟨(y,z),⟨a1,b1⟩,_,_,?_,a2,Y⟩;rw[<-mN,G,mX]
theorem YW(P:Program):∀d:DT,(∀t,(lay P d).1 t=true->al3 P t d)/\∀fl off,(lay P d).2 fl off=true->aic P fl off d
 | .set=>⟨λ_ h=>by simp[lay]at h,λ_ _ h=>by simp[lay]at h⟩
 | .int k=>by
  refine⟨λt h=>?_,λfl off h=>?_⟩;case refine_2=>simp[lay]at h
  simp only[lay]at h;split at h
  .rename_i k' ht;have:=Tc h;subst this;intro H enc w base spare held atL cs x hx;obtain⟨n,rfl,_,hw⟩:=DataW.trod_int ht hx;exact⟨n,hw,rfl⟩
  .cases h
 | .bool=>by
  refine⟨λt h=>?_,λfl off h=>?_⟩;case refine_2=>simp[lay]at h
  simp only[lay]at h;split at h
  .rename_i ht;intro H enc w base spare held atL cs x hx;obtain⟨n,rfl,_⟩:=DataW.trod_bool ht hx;exact⟨n,trivial,rfl⟩
  .cases h
 | .str=>by
  refine⟨λt h=>?_,λfl off h=>?_⟩;case refine_2=>simp[lay]at h
  simp only[lay]at h;split at h
  .rename_i ht;intro H enc w base spare held atL cs x hx;obtain⟨n,rfl,_,hl⟩:=DataW.trod_string ht hx;exact⟨n,hl,rfl⟩
  .cases h
 | .slc d=>by
  refine⟨λt h=>?_,λfl off h=>?_⟩;case refine_2=>simp[lay]at h
  simp only[lay]at h;split at h
  .rename_i e ht;simp only[aD]at h;exact aie ht (aF h.2) ((YW P d).1 _ h.1)
  .cases h
 | .unit=>by
  refine⟨λt h=>?_,λfl off h=>?_⟩;case refine_2=>simp only[lay,xk]at h;subst h;exact af8
  simp only[lay]at h;split at h
  .rename_i fs ht;simp only[aD,xk]at h;refine Tb ht (by rw[h.1,aF h.2];rfl) ?_;rw[h.1];exact af8
  .cases h
 | .pair a b=>by
  have hF:∀fl off,(lay P (.pair a b)).2 fl off=true->aic P fl off (.pair a b):=λfl off h=>by
   simp only[lay]at h;split at h
   .simp only[aD]at h;have⟨⟨⟨h1,h2⟩,h3⟩,h4⟩:=h;exact al4 (aF h1) (aF h2) ((YW P a).1 _ h3) ((YW P b).2 _ _ h4)
   .cases h
  refine⟨λt h=>?_,hF⟩;simp only[lay]at h;split at h
  .rename_i fs ht;simp only[aD]at h;refine Tb ht (aF h.2) (hF _ _ ?_);have h1:=h.1;simp only[lay];split at h1
   .rename_i f fl hfs;rw[cq];exact h1
   .cases h1
  .cases h
theorem Ai{P}{t}{d}(hl:(lay P d).1 t=true){H}{enc}{w}{re}{K base:Nat}{j:Nat->Bool}{C:Bool}{v:Value}{D:DataW H}{p:List MemPlace}
 (hv:Value.okWide P w re K t v) (h:DataW.Trod enc P w base j C t v D p):∃a,d.N4 a/\d.hv noU w a v:=by
 have ho:=(YW P d).1 t hl;have⟨F,h⟩:=h;have⟨a,J,G⟩:=ho H enc w base j C F _ _ h;refine⟨a,J,_,G,?_⟩;cases d with
 |set=>simp[lay]at hl
 |int k=>
  simp only[lay]at hl;split at hl
  .rename_i y;obtain⟨s,rfl⟩:=okWide_int y hv;rfl
  .cases hl
 |bool=>
  simp only[lay]at hl;split at hl
  .rename_i y;obtain⟨s,rfl⟩:=okWide_bool y hv;rfl
  .cases hl
 |str=>
  simp only[lay]at hl;split at hl
  .rename_i y;obtain⟨s,rfl⟩:=okWide_string y hv;rfl
  .cases hl
 |slc d=>
  simp only[lay]at hl;split at hl
  .rename_i y;obtain⟨x,n,c,rfl⟩:=okWide_slice y hv;rfl
  .cases hl
 |unit=>
  simp only[lay]at hl;split at hl
  .rename_i y;obtain⟨cs,rfl,_⟩:=okWide_struct y hv;simp[DT.agg,Value.cells]
  .cases hl
 |pair a b=>
  simp only[lay]at hl;split at hl
  .rename_i y;obtain⟨cs,rfl,_⟩:=okWide_struct y hv;simp[DT.agg,Value.cells]
  .cases hl
def aif(w:World):Env:=⟨noU,w,λ_=>0,λ_=>(none,0),[],[]⟩
theorem atM{w}:hL (aif w) (BW .unit ()) []:=by simp only[BW,hL]
theorem apA{w}{a b}{x:a.den}{y:b.den}{v}{vs}(h:a.hv noU w x v)(k:hL (aif w) (BW b y) vs):hL (aif w) (BW (.pair a b) (x,y)) (v::vs):=by simp only[BW,hL];exact⟨v,vs,rfl,a.κ (E:=aif w) h,k⟩
theorem avN{P}{f}{A}{F}(h:al2 P f ⟨A,.v .bool,F⟩){x:A.den}(J:F x=some true){vs:List Value}{w:World}(hv:hL (aif w) (BW A x) vs)(hb:rI P f):
 Calls P f vs.toArray w λe w'=>e=.returned (.bool true)/\Below w.heap.size w w':=by
 have y:∀b,¬Ow (λ_=>0) (λ_=>(none,0)) [] [] b:=by
  rintro b ⟨k,i,h⟩;cases k with
  |false=>have⟨⟨_,h⟩,_⟩:=h;simp at h
  |true=>have⟨r,ad,h,_⟩:=h;simp at h
 have m:Mem w noU (Ow (λ_=>0) (λ_=>(none,0)) [] []) (λ_=>0) (λ_=>(none,0)) [] [] w:=⟨rfl,rfl,rfl,au _,λ_ _ _=>rfl,λb h=>h.elim,λk i b h=>(y b ⟨k,i,h⟩).elim,λk i R V b h=>(y b ⟨k,i,h⟩).elim,λi b h=>by simp at h,λj e t l h=>by simp at h,λj d h=>by simp at h⟩;have K:∀b,Us noU (λ_=>0) (λ_=>(none,0)) [] [] b->noU b:=λb h=>h.elim id λh=>(y b h).elim
 have s:Sub Iq (aif w) (env noU (λ_=>0) (λ_=>(none,0)) [] [] w):=⟨⟨λ_ _ _=>rfl,au _,λb _ h=>K b h⟩,λi h=>⟨h,rfl⟩,λj e t l _ h=>⟨l,h,rfl,rfl⟩,λj d _ h=>⟨⟨d,h,rfl⟩,rfl⟩,λj q e t l h=>(by cases h),λj p d ad h=>(by cases h)⟩;refine((h x true J noU _ _ vs w m (nD s hv)).calls hb).mono ?_;rintro e w' ⟨v,rfl,B',A',r,pb',rw',C,G,_,_,H⟩;obtain⟨rfl,_⟩:=H;subst G;exact⟨rfl,C.os,C.tape,C.output,C.size,λb hb=>C.same b hb (y b)⟩
end Go.Vc
namespace Go.Proofs.YthghpahghjppjaaGreat
open Go Go.Vc Go.RowKit rA sK sM sN sO sP
set_option synthInstance.maxSize 100000
def shC(c:bX):bX:=asV c ((nc c).take 40)
theorem apr{c}:N_ c=some (shC c):=by
 refine bz λk y=>?_
 have j:∀l:List Int,k (U3 c (c.2.2.2.1.1,c.2.2.2.1.2.1,c.2.2.2.2.1.1,c.2.2.2.2.1.2.1,U6 c.2.2.2.2.2 (l,())))=some (asV c l):=λl=>by subst y;rfl
 by_cases h:(40:Int)<((nc c).length:Int)
 .refine(eG h _ _).trans ?_;refine(Jd (i:=40) (n:=(nc c).length) (by omega) (by omega) _).trans ?_;exact j ((nc c).take 40)
 .refine(cV h _ _).trans ?_;have e:shC c=asV c (nc c):=by unfold shC;rw[lX (by omega)]
  rw[e];exact j (nc c)
theorem avA {c} (h : DT.N4 jJ c) : R9 (shC c) := by
  obtain ⟨h1, h2, Y, ⟨X, W, _⟩, ⟨V, R, _⟩, K, J, H, G, F, C, ⟨y, _⟩, _⟩ := h
  refine ⟨wf_i64 h1, wf_i64 h2, λL x j => ?_, ?_⟩
  · cases L with
    | M => rw [ay.1 j]; exact wf_i64 Y
    | U => rcases aB.1 j with rfl | j
           · exact wf_i64 X
           · rw [ay.1 j]; exact wf_i64 W
    | O => rcases aB.1 j with rfl | j
           · exact wf_i64 V
           · rw [ay.1 j]; exact wf_i64 R
    | I => rw [ay.1 j]; exact wf_i64 K
    | A => rw [ay.1 j]; exact wf_i64 J
    | T => rw [ay.1 j]; exact wf_i64 H
    | D => rw [ay.1 j]; exact wf_i64 G
    | Q => rw [ay.1 j]; exact wf_i64 F
    | P => rw [ay.1 j]; exact wf_i64 C
    | N => rcases aB.1 j with rfl | j
           · have : ((nc c).take 40).length <= 40 := by rw [bf]; omega
             show ui (((nc c).take 40).length : Int)
             unfold ui; omega
           · exact wf_i64 (y x (eJ j))
  · show ((nc c).take 40).length <= 1000
    rw [bf]; omega
structure Reach(i:Nat)(s:aU):Prop where
 L:zI s
 z:∃a b,a+b<=i/\Siz a b s
def at0:aU:=(0,[],[],[],[],[],[],[],[],[],[],[],())
theorem aps:Reach 0 at0:=by
 refine⟨?_,0,0,au _,au _,au _⟩;have nA:∀{α:Type} (f:α->Int),pY f []:=λf=>List.Pairwise.nil
 have nB:∀N K,Lo N K []:=λN K=>⟨ap ⟨λ_ h=>(by cases h),List.Pairwise.nil⟩,λ_ h=>(by cases h),λ_ h=>(by cases h),λ_ h=>(by cases h)⟩
 exact { dy:=by show(0:Int)<=0/\(0:Int)<=1048576;omega,mA:=nA _,mO:=λ_ h=>(by cases h),iA:=nA _,iO:=λ_ h=>(by cases h),aA:=nA _,aO:=λ_ h=>(by cases h),cA:=nA _,cO:=λ_ h=>(by cases h),cM:=λ_ h=>(by cases h),hO:=λ_ h=>(by cases h),hS:=List.Pairwise.nil,gI:=afo _,gO:=λ_ h=>(by cases h),gL:=br _,vI:=afo _,vO:=λ_ h=>(by cases h),vL:=br _,b:=nB _ _,s:=nB _ _,p:=QB.nil _,h:=⟨ap ⟨λ_ h=>(by cases h),List.Pairwise.nil⟩,λ_ h=>(by cases h),λ_ h=>(by cases h),λ_ h=>(by cases h)⟩,bal:=λ_=>rfl }
theorem Reach.Z{i}{s}(R:Reach i s)(hi:i<=90){c:bX}(j:R9 c):wI (mkD s c):=by have⟨a,b,h,S⟩:=R.z;exact wI.of (d:=mkD s c) (a:=a) (b:=b) R.L S (by omega) (by have:=j.2.2.1 .Q _ (ay.2 rfl);exact this) j.2.2.2
theorem Reach.act{i}{s:aU}(R:Reach i s)(hi:i<=90){c:bX}(j:R9 c){e:aM}(h:acS (mkD s c) e):Reach (i+1) (bY e):=by
 have⟨a,b,y,S⟩:=R.z;rcases apq (R.Z hi j) h with K|K
 .exact⟨K.1,a+1,b,by omega,cn K.2.1 (Nat.add_le_add_right S.1 1),cn K.2.2 (by have:=S.2;show(bk s).length+(sa s).length+2*0<=2*b;omega)⟩
 .exact⟨K.1,a,b+1,by omega,cn K.2.1 (by have:=S.1;show(Ig s.2.2.2.2.1).length+0<=a;omega),cn K.2.2 (by have:=S.2;show(bk s).length+(sa s).length+2*1<=2*(b+1);omega)⟩
theorem Reach.up{i}{s:aU}(R:Reach i s):Reach (i+1) s:=by have⟨a,b,h,S⟩:=R.z;exact⟨R.L,a,b,by omega,S⟩
theorem Reach.step{i}{s:aU}(R:Reach i s)(hi:i<=90){c:bX}(j:R9 c):∃t r,GQ s c=some (t,r,())/\Reach (i+1) t/\((r.1≠0/\t=s/\r=noR r.1)\/∃e,GoR s c e/\t=bY e/\r=akW e):=by
 have⟨t,r,F,y⟩:=akY j (R.Z hi j);refine⟨t,r,F,?_,y⟩;rcases y with⟨_,e,_⟩|⟨e,G,C,_⟩
 .rw[e];exact R.up
 .rw[C];exact R.act hi j G.a
set_option maxRecDepth 1000000
set_option synthInstance.maxHeartbeats 0
/-! ### awM auI may be: the adE answer -/
/-! ### awM auI may be: the adE answer, ayr -/
/-! ### the same as ays -/
theorem akZ(d):iS (CP d).2=iS d:=by
 unfold CP GG Px
 repeat' split
 all_goals rfl
theorem arI(d)(f t x)(p):iS (Jf d f t x p).2=iS d:=by
 unfold Jf
 repeat' split
 all_goals rfl
theorem afz(d)(g):iS (Ai d g).2=iS d:=by unfold Ai;split<;>rfl
theorem YI(d)(id st):iS (Dx d id st).2=iS d:=by
 unfold Dx
 repeat' split
 all_goals rfl
theorem YJ(st):∀(l:List Int) (d:aM),iS (yX st l d).2=iS d
 |[],_=>rfl
 |id::l,d=>by
  unfold yX;split
  .rw[YJ st l,YI]
  .rw[YI]
theorem ala(d):iS (Al d).2=iS d:=by
 unfold Al;split
 .unfold Py
  repeat' split
  all_goals first|rfl|exact arI ..
 split
 .unfold Pz
  repeat' split
  all_goals first|rfl|exact afz ..
 split
 .unfold BQ
  repeat' split
  all_goals first|rfl|exact(arI ..)
 split
 .exact YI ..
 split
 .exact YI ..
 split
 .unfold GJ
  repeat' split
  all_goals rfl
 .unfold GI
  repeat' split
  all_goals first|rfl|exact(afz ..)
theorem af0(d)(n):iS (xR d n).2=iS d:=by unfold xR;split<;>rfl
theorem at1(d):iS (L_ d).2=iS d:=by
 unfold L_;split
 .rfl
 split
 .rfl
 split
 .unfold YH
  repeat' split
  all_goals first|rfl|exact(YJ ..)
 split
 .unfold SP
  repeat' split
  all_goals first|rfl|exact(af0 ..)
 .rfl
theorem alb(d):iS (gq d).2=iS d:=by
 unfold gq
 repeat' split
 all_goals first|rfl|exact(af0 ..)
theorem YK(d)(m):iS (tL d m).2=iS d:=by unfold tL;split<;>rfl
theorem YL(d):iS (q7 d).2=iS d:=by
 unfold q7;split
 .exact YK ..
 .rfl
theorem alc(d):iS (Lr d).2=iS d:=by
 unfold Lr;split
 .exact YK ..
 .rfl
theorem af1(d):iS (tz d).2=iS d:=by
 unfold tz;split
 .exact YK ..
 .rfl
theorem O_(d)(s):iS (PF d s)=iS d:=rfl
theorem ald(d)(s)(b)(r):iS (afw d s b r)=iS d:=rfl
theorem at2(d):iS (YE d).2=iS d:=by
 unfold YE;split
 .split
  .rfl
  .split
   .rw[YJ,af1]
   .rw[af1]
 .rfl
theorem at3(d):iS (N9 d).2=iS d:=by
 unfold N9;split
 .split
  .rw[O_,YL]
  .rw[YL]
 .rw[YL]
theorem at4(e)(id):iS (clR e id).2=iS e:=by
 unfold clR;split
 .split
  .split
   .rw[ald]
   .rfl
  .rfl
 .rfl
theorem at5(d):iS (L5 d).2=iS d:=by
 unfold L5;split
 .rw[at4,alc]
 .rw[alc]
theorem at6(d):iS (N' d).2=iS d:=by
 unfold N';split
 .split
  .split
   .rw[O_]
   .rfl
  .rfl
 .rfl
theorem at7(d):iS (acR d).2=iS d:=by
 unfold acR;split
 .unfold GM
  repeat' split
  all_goals rfl
 split
 .unfold PD
  repeat' split
  all_goals rfl
 split
 .exact at2 d
 split
 .unfold SR;split<;>rfl
 split
 .exact at3 d
 split
 .exact at6 d
 .exact at5 d
theorem at8{d e}(h:acS d e):iS e=iS d:=by
 have j:∀{f:Int×aM},f=(0,e)->f.2=e:=λh=>by rw[h]
 rcases h with⟨_,h⟩|⟨_,_,h⟩|⟨_,_,h⟩|⟨_,_,_,h⟩|⟨_,_,h⟩|⟨_,n,h⟩
 .rw[<-j h];exact akZ d
 .rw[<-j h];exact ala d
 .rw[<-j h];exact at1 d
 .rw[<-j h];exact alb d
 .rw[<-j h];exact at7 d
 .rw[h];rfl
theorem avB{s}{c}{e:aM}(G:GoR s c e):(akW e).1=0:=at8 G.a
theorem P_{α}{f}:∀{l:List α},(∀x∈l,f x=0)->cI f l=0
 |[],_=>rfl
 |x::l,h=>by rw[cx,h x (by simp),P_ λy j=>h y (by simp[j])];rfl
theorem ahO{id}{C:List aN}(V:pY (·.1) C)(hO:∀a∈C,Pw a):(j9 id C).Nodup:=by
 unfold j9;have y:pY (λa:aN=>a.1) (C.filter (po id)):=dt (sb _ fF) V;have j:∀a∈C.filter (po id),Pw a:=λa R=>hO a (aI.1 R).1
 generalize C.filter (po id)=F at *;induction F with
 |nil=>exact List.nodup_nil
 |cons a F H=>
  have G:pY (λa:aN=>a.1) F:=by unfold pY at y ⊢;rw[bI,bw]at y;exact y.2
  rw[cF,oe];refine⟨k_ ⟨(j a (by simp)).h.1.1,(j a (by simp)).s|>λh=>by unfold pY at h;rwa [Fm]at h⟩,H G λx J=>j x (by simp[J]),λu K v hv e=>?_⟩;have⟨b,hb,hv⟩:=bQ.1 hv;subst e;exact acO y b hb ((Ib hv).symm.trans (Ib K))
theorem ale{m}{day fr}(h:(si m day fr).2.1=0):(si m day fr).1.1=m.1/\(si m day fr).1.2.1=m.2.1:=by
 unfold si at h ⊢;split;case isTrue g=>rw[ah g]at h;cases h
 rename_i g;rw[ag g]at h;split;case isFalse g1=>rw[ag g1]at h;cases h
 exact⟨rfl,rfl⟩
set_option maxHeartbeats 1000000
theorem Ez{α}{f g}:∀{l:List α},(∀x∈l,f x=g x)->cI f l=cI g l
 |[],_=>rfl
 |x::l,h=>by rw[cx,cx,h x bU,Ez λy j=>h y (bd _ j)]
theorem Gx(k)(h):FY k h=wH (λa=>if a=k then 1 else 0) h:=by
 refine Ez λy _=>?_
 refine Ez λx _=>?_
 dsimp only;split<;>simp
structure GR(d e:aM):Prop where
 p:cI xt (eZ e)=cI xt (eZ d)
 h:∀k,FY k (dJ e)=FY k (dJ d)
 r:sj e=sj d
 b:yY e=yY d
theorem GR.wF(d):GR d d:=⟨rfl,λ_=>rfl,rfl,rfl⟩
theorem GR.trans{d e f}(S:GR d e)(T:GR e f):GR d f:=⟨T.p.trans S.p,λk=>(T.h k).trans (S.h k),T.r.trans S.r,T.b.trans S.b⟩
theorem YM{l fl}(h:(qw l fl).2.1=0):cI xt (qw l fl).1=cI xt l+cI xt fl:=by have⟨_,j,_⟩:=H9 h;rw[j,LN,kR]
theorem WT{t}{l}(h:(o6 t l).2.1=0):cI xt (o6 t l).1=cI (λk=>uOf t k*li l k) ks:=by
 have⟨C,G,F⟩:=Ss h;have j:=bA C;rw[G,af2,nz (g:=λp=>cI (λk=>uOf t k*fZ p.2.1 k) ks) λp y=>by have⟨z,_,J,H,_⟩:=af3 (F p y);show(tM t p.2.1).1=_;rw[H,WU t _ J,apt (uOf t) (j.1 p y).2],SU (λp k=>uOf t k*fZ p.2.1 k) l ks];refine nz λk _=>?_
 exact WV (uOf t k) (λp:cj=>fZ p.2.1 k) l
theorem apu{d}(L:zI (bY d))(y:(wJ d).2.1=0)(j:(ED d).2.1=0):cI xt (ED d).1=cI xt (eZ d):=by
 have F:=N2 y;have C:=N2 j;have H:cI xt (wJ d).1=cI xt (eZ d)+cI xt (o6 (fK d) (dq d)).1:=by unfold wJ at y ⊢;rw[F.2.2]at y ⊢;exact YM y
 have G:cI xt (ED d).1=cI xt (wJ d).1+cI xt (o6 (fK d) (fW d)).1:=by unfold ED at j ⊢;rw[C.2.2]at j ⊢;exact YM j
 rw[G,H,WT F.2.1,WT C.2.1,Int.add_assoc,<-Ob,P_ (l:=ks) λk _=>by have hb:=ct.bal L k;rw[<-nZ,hb,Fl]];omega
theorem ahP(d):GR d (CP d).2:=by
 unfold CP GG Px
 repeat' split
 all_goals exact⟨rfl,λ_=>rfl,rfl,rfl⟩
theorem alf{d}{f t x}{p}(h:(Jf d f t x p).1=0):GR d (Jf d f t x p).2:=by
 unfold Jf at h ⊢;split;case isFalse g=>rw[ag g]at h;exact absurd h g
 rename_i g0;rw[ah g0]at h;split;case isFalse g=>rw[ag g]at h;exact absurd h g
 rename_i g1;exact⟨(akC g1).tot,λ_=>rfl,rfl,rfl⟩
theorem Rx(d)(id st):GR d (Dx d id st).2:=by
 unfold Dx
 repeat' split
 all_goals exact⟨rfl,λ_=>rfl,rfl,rfl⟩
theorem SV(st:Int):∀(l:List Int) (d:aM),GR d (yX st l d).2
 |[],d=>GR.wF d
 |id::l,d=>by
  unfold yX;split
  .exact(Rx d id st).trans (SV st l _)
  .exact Rx d id st
theorem Q_(d)(g):GR d (Ai d g).2:=by unfold Ai;split<;>exact⟨rfl,λ_=>rfl,rfl,rfl⟩
theorem ahQ{d:aM}(h:(Al d).1=0):GR d (Al d).2:=by
 unfold Al at h ⊢;split
 case isTrue g=>
  rw[ah g]at h;unfold Py at h ⊢;split;case isFalse g=>rw[ag g]at h;exact absurd h g
  rename_i C;rw[ah C]at h;split;case isFalse g=>rw[ag g]at h;exact absurd h g
  rename_i y;rw[ah y]at h;split;case isTrue g=>rw[ah g]at h;cases h
  rename_i j;rw[ag j]at h;split;case isFalse g=>rw[ag g]at h;exact absurd h g
  rename_i F;exact alf F
 rename_i g;rw[ag g]at h;split
 .unfold Pz
  repeat' split
  all_goals first|exact Q_ _ _|exact GR.wF d
 rename_i g;rw[ag g]at h;split
 case isTrue g=>
  rw[ah g]at h;unfold BQ at h ⊢;cases G:Aj (cC d) (uI d)with
  |none=>rw[G]at h;cases h
  |some g=>
   rw[G]at h;dsimp only at h ⊢;split;case isFalse g1=>rw[ag g1]at h;exact absurd h g1
   rename_i C;rw[ah C]at h;split;case isFalse g1=>rw[ag g1]at h;exact absurd h g1
   rename_i y;rw[ah y]at h;split;case isFalse g1=>rw[ag g1]at h;exact absurd h g1
   rename_i j;have S:GR d (BC d (eM (cC d) g.1 2).1):=⟨rfl,λ_=>rfl,rfl,rfl⟩;exact S.trans (alf j)
 rename_i g;rw[ag g]at h;split
 .exact Rx _ _ _
 rename_i g;rw[ag g]at h;split
 .exact Rx _ _ _
 rename_i g;rw[ag g]at h;split
 case isTrue g=>
  rw[ah g]at h;unfold GJ at h ⊢;split;case isFalse g=>rw[ag g]at h;exact absurd h g
  rename_i C;rw[ah C]at h;split;case isFalse g=>rw[ag g]at h;exact absurd h g
  rename_i y;rw[ah y]at h;split;case isFalse g=>rw[ag g]at h;exact absurd h g
  rename_i j;rw[ah j]at h;split;case isFalse g=>rw[ag g]at h;exact absurd h g
  rename_i F;rw[ah F]at h;split;case isFalse g=>rw[ag g]at h;exact absurd h g
  rename_i J;rw[ah J]at h;split;case isFalse g=>rw[ag g]at h;exact absurd h g
  rename_i H;exact⟨(Gr H).2,λ_=>rfl,rfl,rfl⟩
 .unfold GI;split
  .exact GR.wF d
  .split
   .split
    .rename_i g _ _ _;have S:GR d (Fx d (kD (dU d) g.1 (dv d)).1):=⟨rfl,λ_=>rfl,rfl,rfl⟩;exact S.trans (Q_ _ _)
    .exact GR.wF d
   .exact GR.wF d
theorem R_(d)(m):GR d (tL d m).2:=by unfold tL;split<;>exact⟨rfl,λ_=>rfl,rfl,rfl⟩
theorem alg(d):GR d (q7 d).2:=by
 unfold q7;split
 .exact R_ d _
 .exact GR.wF d
theorem S_(d):GR d (tz d).2:=by
 unfold tz;split
 .exact R_ d _
 .exact GR.wF d
theorem ahR{h}{f t}(j:(GB h f t).2.1=0)(k):FY k (GB h f t).1=FY k h:=by
 unfold GB at j ⊢;split;case isFalse g=>rw[ag g]at j;cases j
 rename_i g0;rw[ah g0]at j;split;case isTrue g=>rw[ah g]at j;cases j
 rename_i g1;rw[ag g1]at j;split;case isFalse g=>rw[ag g]at j;cases j
 rename_i y;have hs:=Ro g0;rw[Gx,Gx,Ys (LV hs f []),Ys hs,Rp hs,ag (hZ g1),y,NZ];omega
theorem alh{d}(h:(SR d).1=0):GR d (SR d).2:=by
 unfold SR at h ⊢;split;case isFalse g=>rw[ag g]at h;exact absurd h g
 rename_i g
 have e:(GN (bY d) (aY d)).1=wb (bY d) (Fz (jC d) (aY d)) (wc (bY d) (aY d)).1 (BU (bY d) (aY d)).1 (xS (bY d) (aY d)).1/\(BU (bY d) (aY d)).2.1=0/\(xS (bY d) (aY d)).2.1=0:=by
  unfold GN at g ⊢;split;case isFalse g1=>rw[ag g1]at g;exact absurd g g1
  rename_i g1;rw[ah g1]at g;split;case isFalse C=>rw[ag C]at g;exact absurd g C
  rename_i C;rw[ah C]at g;split;case isFalse j=>rw[ag j]at g;exact absurd g j
  rename_i j;rw[ah j]at g;split;case isFalse y=>rw[ag y]at g;exact absurd g y
  rename_i y;exact⟨rfl,j,y⟩
 have⟨e,G,F⟩:=e;rw[e];exact⟨(Gr G).2,λk=>ahR F k,rfl,rfl⟩
theorem apv{d:aM}(h:(N9 d).1=0):GR d (N9 d).2:=by
 unfold N9 at h ⊢;split;case isFalse g=>rw[ag g]at h;exact absurd h g
 rename_i g0;rw[ah g0]at h;split;case isFalse g=>rw[ag g]at h;exact absurd h g
 rename_i g1;refine(alg d).trans ?_;generalize (q7 d).2=e at *;generalize (EI d).1.1=id at *;unfold Gb at g1 ⊢;split;case isFalse g=>rw[ag g]at g1;cases g1
 rename_i j;rw[ah j]at g1;split;case isFalse g=>rw[ag g]at g1;exact absurd g1 g
 exact⟨rfl,λ_=>rfl,rfl,rfl⟩
theorem ali{d}(h:(N' d).1=0):GR d (N' d).2:=by
 unfold N' at h ⊢;split;case isFalse g=>rw[ag g]at h;exact absurd h g
 rename_i g0;rw[ah g0]at h;split;case isFalse g=>rw[ag g]at h;cases h
 rename_i g1;rw[ah g1]at h;split;case isFalse g=>rw[ag g]at h;exact absurd h g
 rename_i j;unfold Vw at j ⊢
 have y:zW (bY d) (aY d) (cJ d) (ju d) (dv d) (ln d)=0:=by
  unfold BL at j;split at j
  .assumption
  .rename_i g;exact absurd j g
 have⟨_,⟨i,hi⟩,_⟩:=RX y;rw[X6 y hi]at j ⊢;split;case isFalse g=>rw[ag g]at j;cases j
 rename_i J;rw[ah J]at j;split;case isFalse g=>rw[ag g]at j;cases j
 rename_i H;rw[ah H]at j;unfold å at j ⊢;split;case isFalse g=>rw[ag g]at j;exact absurd j g
 rename_i G;rw[ah G]at j;split;case isFalse g=>rw[ag g]at j;exact absurd j g
 rename_i F;rw[ah F]at j;split;case isFalse g=>rw[ag g]at j;exact absurd j g
 rename_i C;exact⟨(Gr C).2,λ_=>rfl,rfl,rfl⟩
def YN(d:aM)(k:Int):Int:=if iM d=k then(if bJ d=17 then dv d else if bJ d=18 then -dv d else 0)else 0
def acU(k:Int)(r:dY):Int:=if k=0 then r.2.1 else ahS k r.2.2.1
def Aq(k:Int)(d:aM):Int:=if k=0 then cI xt (eZ d)else FY k (dJ d)
structure Cons(d e:aM):Prop where
 t:∀k,Aq k e+cI (acU k) (sj e)=Aq k d+YN d k
 a:bJ d=17\/bJ d=18->0<=iM d/\iM d<=4
 r:∀x∈sj e,(0<=x.2.1/\x.2.1<=9223372036854775807)/\tu x.2.2.1
 l:(sj e).length<=400
theorem af4{d e}(K:GR d e)(C:sj d=[])(y:bJ d≠17)(j:bJ d≠18):Cons d e:=by
 refine⟨λk=>?_,λh=>absurd h (by omega),λx F=>?_,?_⟩
 .have G:YN d k=0:=by unfold YN;rw[ag y,ag j];split<;>rfl
  rw[K.r,C,G];unfold Aq;rw[K.p,K.h];rfl
 .rw[K.r,C]at F;cases F
 .rw[K.r,C];exact br _
theorem T_{d}{n}(h:(xR d n).1=0):cI xt (eZ (xR d n).2)=cI xt (eZ d)+n/\dJ (xR d n).2=dJ d/\sj (xR d n).2=sj d/\yY (xR d n).2=yY d:=by
 unfold xR at h ⊢;split;case isFalse g=>rw[ag g]at h;exact absurd h g
 rename_i g;refine⟨?_,rfl,rfl,rfl⟩;have:=YM g;rw[cx]at this;exact this.trans (by show _+(n+0)=_;omega)
theorem alj{d}(L:zI (bY d))(C:sj d=[])(ho:bJ d=17)(h:(SP d).1=0):Cons d (SP d).2/\yY (SP d).2=yY d:=by
 unfold SP at h ⊢;split;case isFalse g=>rw[ag g]at h;exact absurd h g
 rename_i g0;rw[ah g0]at h;split;case isFalse g=>rw[ag g]at h;exact absurd h g
 rename_i g1;rw[ah g1]at h;split
 case isTrue g=>
  rw[ah g]at h;have⟨p1,p2,p3,p4⟩:=T_ h;refine⟨⟨λk=>?_,λ_=>by omega,λx y=>(by rw[p3,C]at y;cases y),by rw[p3,C];exact br _⟩,p4⟩;rw[p3,C];show Aq k _+0=_;unfold Aq YN;rw[p1,p2,g,ah ho];by_cases j:k=0
  .subst j;rw[ah rfl,ah rfl,ah rfl];omega
  .rw[ag j,ag j,ag (hZ j)]
 rename_i G;rw[ag G]at h;split;case isFalse g=>rw[ag g]at h;cases h
 rename_i F;rw[ah F]at h;split;case isFalse g=>rw[ag g]at h;exact absurd h g
 rename_i J;have⟨a,H,e⟩:=WM F;have K:=(ct.aO L a H).1;have e:a.1=iM d:=e;refine⟨⟨λk=>?_,λ_=>by omega,λx y=>?_,?_⟩,rfl⟩
 .show Aq k (GS d (tq (dJ d) (aY d) (qz d)).1)+cI (acU k) (sj d)=_;rw[C];show Aq k (GS d (tq (dJ d) (aY d) (qz d)).1)+0=_;unfold Aq YN;rw[ah ho];by_cases j:k=0
  .subst j;rw[ah rfl,ah rfl,ag G];rfl
  .rw[ag j,ag j];show FY k (tq (dJ d) (aY d) (qz d)).1+0=_;rw[Gx,Gx,(ako J).2];show _+(if iM d=k then(1:Int)else 0)*dv d+0=_;split<;>simp
 .have y:x∈sj d:=y;rw[C]at y;cases y
 .show(sj d).length<=400;rw[C];exact br _
theorem apw{d e}(F:sj d=[])(ho:bJ d=18)(h:WdR d e):Cons d e/\yY e=yY d:=by
 have⟨_,_,h⟩:=h;have j:(gq d).1=0:=by rw[h]
 have K:(gq d).2=e:=by rw[h]
 subst K;have G:¬bJ d=17:=by omega
 unfold gq at j ⊢;split
 case isTrue g=>
  rw[ah g]at j;split;case isTrue g1=>rw[ah g1]at j;cases j
  rename_i g1;rw[ag g1]at j;have⟨p1,p2,p3,p4⟩:=T_ j;refine⟨⟨λk=>?_,λ_=>by omega,λx C=>(by rw[p3,F]at C;cases C),by rw[p3,F];exact br _⟩,p4⟩;rw[p3,F];show Aq k _+0=_;unfold Aq YN;rw[p1,p2,g,ag G,ah ho];by_cases y:k=0
  .subst y;rw[ah rfl,ah rfl,ah rfl];omega
  .rw[ag y,ag y,ag (hZ y)]
 rename_i g;rw[ag g]at j;split;case isFalse g1=>rw[ag g1]at j;exact absurd j g1
 rename_i g1;have⟨w1,_,J⟩:=afg g1;have H:=w1.1;have H:1<=iM d/\iM d<=4:=H;refine⟨⟨λk=>?_,λ_=>by omega,λx C=>?_,?_⟩,rfl⟩
 .show Aq k (GS d (kS (dJ d) (aY d) (qz d)).1)+cI (acU k) (sj d)=_;rw[F];show Aq k (GS d (kS (dJ d) (aY d) (qz d)).1)+0=_;unfold Aq YN;rw[ag G,ah ho];by_cases y:k=0
  .subst y;rw[ah rfl,ah rfl,ag g];rfl
  .rw[ag y,ag y];show FY k (kS (dJ d) (aY d) (qz d)).1+0=_;rw[Gx,Gx,(J _).2];show _-(if iM d=k then(1:Int)else 0)*dv d+0=_;split<;>simp<;>omega
 .have C:x∈sj d:=C;rw[F]at C;cases C
 .show(sj d).length<=400;rw[F];exact br _
theorem apx{C}(W:pY (·.1) C){u:ar}{id:Int}(V:u∈j9 id C):qx C u=id:=by
 have⟨a,R,y⟩:=bQ.1 V;have⟨j,K⟩:=aI.1 R;unfold qx;cases F:C.find? (λa=>rB a u)with
 |none=>have:=kv.1 F a j;exact absurd (ap y) this
 |some b=>have J:=cf F;have H:=jS F;have G:=bA H;have:=L2 W J j ((Ib G).symm.trans (Ib y));rw[this];exact bA K
def FD(U:ar->Prop)(a:Ah):Prop:=∀p h,(a p h).2.2.2=0->∀d∈(a p h).2.2.1,U d.2.1
theorem YO{U}:∀(l:List Ah),(∀a∈l,FD U a)->∀(p:List aZ) (h:List bp) (d:List kA),(∀x∈d,U x.2.1)->(fD l p h d).2.2.2=0->∀x∈(fD l p h d).2.2.1,U x.2.1
 |[],_,p,h,d,I,_=>I
 |a::l,hl,p,h,d,I,he=>by
  rw[fD]at he ⊢;by_cases j:(a p h).2.2.2=0
  .rw[ah j]at he ⊢;exact YO l (λb hb=>hl b (by simp[hb])) _ _ _ (λx y=>(aQ.1 y).elim (I x) (hl a (by simp) p h j x)) he
  .rw[ag j]at he;exact absurd he j
theorem U_{as}{U}{b t:ar}{n:Int}(G:U t):FD U (λp h=>jl as p h b t n):=by
 intro p h y d j;dsimp only at y j;unfold jl at y j;split at y
 .rename_i g;rw[ah g]at j;cases j
 .rename_i g;rw[ag g]at j;split at y
  .rename_i F;rw[ah F]at j;split at y
   .rename_i C;rw[ah C]at j;rw[ay.1 j];exact G
   .rename_i C;rw[ag C]at j;cases j
  .rename_i F;rw[ag F]at j;cases j
theorem V_{as}{U}{b t:ar}(G:U t):FD U (λp h=>Ew as p h b t):=by
 intro p h y d j;dsimp only at y j;unfold Ew at y j;split at y
 .rename_i g;rw[ah g]at j;split at y
  .rename_i F;rw[ah F]at j;split at y
   .rename_i C;rw[ah C]at j;cases j
   .rename_i C;rw[ag C]at j;exact U_ G p h y d j
  .rename_i F;rw[ag F]at j;cases j
 .rename_i g;rw[ag g]at j;cases j
theorem alk{as}{U}{u:ar}(G:U u):FD U (λp h=>FX as p h u):=by
 intro p h y d j;dsimp only at y j;unfold FX at y j;split at y
 .rename_i g;rw[ah g]at j;split at y
  .rename_i F;rw[ah F]at j;split at y
   .rename_i C;rw[ah C]at j;cases j
   .rename_i C;rw[ag C]at j;rw[ay.1 j];exact G
  .rename_i F;rw[ag F]at j;cases j
 .rename_i g;rw[ag g]at j;cases j
theorem acV{as}{U}{l}(hl:∀u∈l,U u):FD U (pE as l):=by
 intro p h y d j;unfold pE at y j;split at y;case isFalse g=>rw[ag g]at j;cases j
 rename_i g;rw[ah g]at j;split at y;case isFalse F=>rw[ag F]at j;cases j
 rename_i F;rw[ah F]at j;refine YO _ (λa H=>?_) _ _ _ (λ_ h=>by cases h) y d j;obtain⟨x,G,rfl⟩:=aK.1 H;have⟨_,t,C,K⟩:=Rt _ _ _ (au _) x G;have J:U x.2.1:=by rw[<-K];exact hl _ (qk (show(t.1,t.2)∈_ from C)).1
 exact U_ J
theorem ahT{t}{id}(G:(fD (lP t id) (pu t) (ho t) []).2.2.2=0):∀d∈(fD (lP t id) (pu t) (ho t) []).2.2.1,d.2.1∈j9 id t.2.2.2.2.1:=by
 refine YO (U:=λu=>u∈j9 id t.2.2.2.2.1) _ (λa j=>?_) _ _ _ (λ_ h=>by cases h) G;unfold lP yG at j;rcases aQ.1 j with j|j
 .obtain⟨u,y,rfl⟩:=aK.1 j;exact alk y
 rcases aQ.1 j with j|j
 .obtain⟨x,F,rfl⟩:=aK.1 j;exact acV λu y=>bQ.2 ⟨x,(aI.1 F).1,y⟩
 rcases aQ.1 j with j|j
 .have⟨u,y,hb⟩:=bQ.1 j;obtain⟨b,C,rfl⟩:=aK.1 hb;exact V_ y
 .have⟨u,y,hb⟩:=bQ.1 j;obtain⟨b,C,rfl⟩:=aK.1 hb;exact V_ y
structure WW(s:aU)(id:Int)(ds:List kA):Prop where
 a:∀d∈ds,0<d.2.2.1/\cz d.2.2.1
 o:∀d∈ds,qx s.2.2.2.2.1 d.2.1=id
 m:∀d∈ds,ahz s id d.1 d.2.1
 p:∀d∈ds,kC d.2.1 ds+dr (pu s) d.2.1<=0
 l:ds.length<=10000
theorem ahU(d):eZ (Lr d).2=eZ d/\dJ (Lr d).2=dJ d/\bK (Lr d).2=bK d/\iR (Lr d).2=iR d/\sj (Lr d).2=sj d:=by
 unfold Lr tL;split
 .split<;>exact⟨rfl,rfl,rfl,rfl,rfl⟩
 .exact⟨rfl,rfl,rfl,rfl,rfl⟩
theorem ahV{d}(Z:wI d)(id):(j9 id (bK d)).length<=90:=by
 have h:=Gy (ahO (id:=id) (ct.cA Z.L) (ct.cO Z.L)) (U:=Ig (bK d)) λu y=>by have⟨a,C,j⟩:=bQ.1 y;exact bQ.2 ⟨a,(aI.1 C).1,j⟩
 exact cn h Z.u
theorem alm{e}(Z:wI e){id}(h:(yB e id).2.2.2=0):WW (bY e) id (yB e id).2.2.1/\cI xt (yB e id).1=cI xt (eZ e)/\∀w,wH w (yB e id).2.1=wH w (dJ e):=by
 have F:=acK Z.okS id h;have S:=akl Z.okS h;have W:=ahT h;refine⟨⟨λd j=>(F.may d j).1,λd j=>apx (ct.cA Z.L) (W d j),λd j=>(F.may d j).2,λd j=>?_,S.dl⟩,F.cash,F.ie⟩;have hu:rH (bK e) d.2.1:=by have⟨a,J,G⟩:=bQ.1 (W d j);exact bQ.2 ⟨a,(aI.1 J).1,G⟩
 have H:d.2.1≠tU/\d.2.1≠fU:=by
  have⟨a,J,G⟩:=bQ.1 hu;have C:=Ib G;have K:=(ct.cO Z.L a J).h.1.1;constructor
  .intro R;rw[R]at C;have C:(0:Int)=a.1:=C;omega
  .intro R;rw[R]at C;have C:(0:Int)=a.1:=C;omega
 have ow:=F.ow d.2.1 H.1 H.2
 have pos:0<kC d.2.1 (yB e id).2.2.1:=by
  have nn:∀l:List kA,(∀x∈l,0<x.2.2.1)->0<=kC d.2.1 l/\(d∈l->0<kC d.2.1 l):=by
   intro l;induction l with
   |nil=>intro _;exact⟨jT _,λh=>by cases h⟩
   |cons x l Y=>
    intro X;have⟨i1,V⟩:=Y λy hy=>X y (by simp[hy])
    have h0:=X x (by simp);unfold kC at i1 V ⊢;rw[cx];refine⟨by split<;>omega,λj=>?_⟩;rcases aB.1 j with rfl|j
    .rw[ah rfl];omega
    .have:=V j;split<;>omega
  exact(nn _ λx hx=>(F.may x hx).1.1).2 j
 have o1:0<=LQ (pu (bY e)) d.2.1:=(BP (ct.p Z.L).f d.2.1).2;have I:=Rw Z h;have o2:0<=LQ (yB e id).1 d.2.1:=(BP I.1.f d.2.1).2;have ow:LQ (pu (bY e)) d.2.1-LQ (yB e id).1 d.2.1=kC d.2.1 (yB e id).2.2.1:=ow
 have g:dr (pu (bY e)) d.2.1 <= - LQ (pu (bY e)) d.2.1:=by
  unfold LQ fb at *;by_cases C:dr (pu (bY e)) d.2.1 = -9223372036854775808
  .rw[ah C]at ow;have:=ow;omega
  .rw[ag C]at ow o1 ⊢;by_cases K:dr (pu (bY e)) d.2.1<0
   .rw[ah K];omega
   .rw[ag K]at ow;have:=ow;omega
 omega
theorem aln{d}(Z:wI d)(h0:sj d=[])(ho:bJ d=25)(h:(L5 d).1=0):Cons d (L5 d).2/\WW (bY d) (sw d) (yY (L5 d).2):=by
 unfold L5 at h ⊢;split;case isFalse g=>rw[ag g]at h;exact absurd h g
 rename_i j;rw[ah j]at h
 have R:wI (Lr d).2:=by
  unfold Lr at j ⊢;split
  .rename_i g;rw[ah g]at j;exact Z.apa j
  .rename_i g;rw[ag g]at j;exact absurd j g
 have H:(clM d).1.1=sw d:=by
  unfold Lr at j;split at j;case isFalse g=>exact absurd j g
  rename_i g;unfold clM at g ⊢;split;case isFalse g1=>rw[ag g1]at g;exact absurd g g1
  rename_i g1;rw[ah g1]at g;rw[(ale g).1,(w_ g1).2]
 have⟨c1,c2,c3,c4,c5⟩:=ahU d;rw[H]at h ⊢;generalize (Lr d).2=e at *;generalize sw d=id at *;unfold clR at h ⊢;split;case isFalse g=>rw[ag g]at h;cases h
 rename_i g1;rw[ah g1]at h;split;case isFalse g=>rw[ag g]at h;exact absurd h g
 rename_i K;rw[ah K]at h;split;case isFalse g=>rw[ag g]at h;exact absurd h g
 rename_i J;have⟨F,w1,X⟩:=alm R K;have I:=Rw R K;have G:=YP (j9 id (bK e)) [] (SX I.1.i I.1.f ⟨(bA I.2.i:Yo _).2,I.2.f⟩);rw[cS]at G
 have V:(clG e id).1=fV (fV (bY e) (yB e id).1 (yB e id).2.1) (jn (fV (bY e) (yB e id).1 (yB e id).2.1) (j9 id (bK e))).1 (jn (fV (bY e) (yB e id).1 (yB e id).2.1) (j9 id (bK e))).2.1/\
  (clG e id).2.1=(jn (fV (bY e) (yB e id).1 (yB e id).2.1) (j9 id (bK e))).2.2:=by
  unfold clG PB at J ⊢;split
  .exact⟨rfl,rfl⟩
  .rename_i g;rw[ag g]at J;cases J
 rw[V.1,V.2];have G:GOk (yB e id).1 (yB e id).2.1 (jn (fV (bY e) (yB e id).1 (yB e id).2.1) (j9 id (bK e))) (j9 id (bK e)):=G;have Y:=ahV R id;generalize jn (fV (bY e) (yB e id).1 (yB e id).2.1) (j9 id (bK e))=z at *;refine⟨⟨λk=>?_,λh=>absurd h (by omega),λx y=>?_,?_⟩,?_⟩
 .have hd:YN d k=0:=by unfold YN;rw[ag (show ¬bJ d=17 by omega),ag (show ¬bJ d=18 by omega)];split<;>rfl
  rw[hd,n9];show Aq k (afw e (fV (fV (bY e) (yB e id).1 (yB e id).2.1) z.1 z.2.1) (yB e id).2.2.1 z.2.2)+cI (acU k) z.2.2=_;unfold Aq;by_cases C:k=0
  .subst C;rw[ah rfl,ah rfl];have:cI (acU 0) z.2.2=cI (λr:dY=>r.2.1) z.2.2:=nz λr _=>ah rfl
   rw[this];show cI xt z.1+_=_;rw[G.cash,w1,c1]
  .rw[ag C,ag C];have:cI (acU k) z.2.2=cI (λr:dY=>ahS k r.2.2.1) z.2.2:=nz λr _=>ag C
   rw[this];show FY k z.2.1+_=_;rw[G.ie,Gx,X,<-Gx,c2]
 .have:=G.ret x y;exact⟨⟨this.1,this.2.1⟩,this.2.2⟩
 .have:=G.len;show z.2.2.length<=400;omega
 .show WW (bY d) id (yB e id).2.2.1;have W:(bY e).2.2.2.2.1=(bY d).2.2.2.2.1:=c3;have a2:pu (bY e)=pu (bY d):=c1;refine⟨F.a,λx y=>by rw[<-W];exact F.o x y,λx y=>?_,λx y=>by rw[<-a2];exact F.p x y,F.l⟩;have:=F.m x y;unfold ahz at this ⊢;rw[W]at this;exact this
theorem alo{d e}(Z:wI d)(F:sj d=[])(G:yY d=[])(h:acS d e):Cons d e/\(bJ d≠25->yY e=[])/\(bJ d=25->WW (bY d) (sw d) (yY e)):=by
 have L:=Z.L;have j:∀{f:Int×aM},f=(0,e)->f.1=0/\f.2=e:=λh=>by rw[h];exact⟨rfl,rfl⟩
 have put:GR d e->bJ d≠17->bJ d≠18->bJ d≠25->Cons d e/\(bJ d≠25->yY e=[])/\(bJ d=25->WW (bY d) (sw d) (yY e)):=λK a b c=>⟨af4 K F a b,λ_=>K.b.trans G,λh=>absurd h c⟩
 rcases h with⟨h1,h⟩|⟨h1,J,h⟩|⟨h1,J,h⟩|⟨h1,h⟩|⟨h1,J,h⟩|⟨h1,n,h⟩
 .obtain⟨a,rfl⟩:=j h;exact put (ahP d) (by omega) (by omega) (by omega)
 .obtain⟨a,rfl⟩:=j h;exact put (ahQ a) (by omega) (by omega) (by omega)
 .obtain⟨a,rfl⟩:=j h;unfold L_ at a put ⊢;split;case isTrue g=>rw[ah g]at put;exact put ⟨rfl,λ_=>rfl,rfl,rfl⟩ (by omega) (by omega) (by omega)
  rename_i g;rw[ag g]at a put;split;case isTrue g=>rw[ah g]at put;exact put ⟨rfl,λ_=>rfl,rfl,rfl⟩ (by omega) (by omega) (by omega)
  rename_i g;rw[ag g]at a put;split
  case isTrue g=>
   rw[ah g]at put a;refine put ?_ (by omega) (by omega) (by omega);unfold YH at a ⊢;split;case isTrue k=>exact GR.wF d
   rename_i V;rw[ag V]at a;split;case isFalse k=>exact GR.wF d
   rename_i H;rw[ah H]at a;split;case isFalse k=>rw[ag k]at a;exact absurd a k
   rename_i R;have S:GR d (G_ d):=⟨apu L H R,λ_=>rfl,rfl,rfl⟩;exact S.trans (SV _ _ _)
  rename_i g;rw[ag g]at a put;split;case isTrue g=>rw[ah g]at a;have⟨x,y⟩:=alj L F g a;exact⟨x,λ_=>y.trans G,λh=>by omega⟩
  rename_i g;rw[ag g]at a put;exact⟨af4 (GR.wF d) F g (by omega),λ_=>G,λh=>by omega⟩
 .have⟨x,y⟩:=apw F h1 h;exact⟨x,λ_=>y.trans G,λh=>by omega⟩
 .obtain⟨a,rfl⟩:=j h;unfold acR at a put ⊢;split
  case isTrue g=>
   rw[ah g]at put;refine put ?_ (by omega) (by omega) (by omega);unfold GM
   repeat' split
   all_goals exact⟨rfl,λ_=>rfl,rfl,rfl⟩
  rename_i g;rw[ag g]at a put;split
  case isTrue g=>
   rw[ah g]at put;refine put ?_ (by omega) (by omega) (by omega);unfold PD
   repeat' split
   all_goals exact⟨rfl,λ_=>rfl,rfl,rfl⟩
  rename_i g;rw[ag g]at a put;split
  case isTrue g=>
   rw[ah g]at put;refine put ?_ (by omega) (by omega) (by omega);unfold YE;split
   .split
    .exact GR.wF d
    .split
     .exact(S_ d).trans (SV _ _ _)
     .exact S_ d
   .exact GR.wF d
  rename_i g;rw[ag g]at a put;split;case isTrue g=>rw[ah g]at a put;exact put (alh a) (by omega) (by omega) (by omega)
  rename_i g;rw[ag g]at a put;split;case isTrue g=>rw[ah g]at a put;exact put (apv a) (by omega) (by omega) (by omega)
  rename_i g;rw[ag g]at a put;split;case isTrue g=>rw[ah g]at a put;exact put (ali a) (by omega) (by omega) (by omega)
  rename_i g;rw[ag g]at a put;have C:bJ d=25:=by omega
  have⟨x,y⟩:=aln Z F C a;exact⟨x,λh=>absurd C h,λ_=>y⟩
 .subst h;exact put ⟨rfl,λ_=>rfl,rfl,rfl⟩ (by omega) (by omega) (by omega)
def apy(k:Int)(s:aU):Int:=if k=0 then cI xt (pu s)else FY k (ho s)
def dlK(c:bX)(e k:Int):Int:=if e=0 then(if c.2.2.2.2.2.2.1=k then(if c.1=17 then c.2.2.2.2.2.2.2.2.2.1 else if c.1=18 then -c.2.2.2.2.2.2.2.2.2.1 else 0)else 0)else 0
structure Chg(s:aU)(c:bX)(t:aU)(r:Il):Prop where
 e:∀k,apy k t+cI (acU k) r.2.2.2.1=apy k s+dlK c r.1 k
 a:r.1=0->c.1=17\/c.1=18->0<=c.2.2.2.2.2.2.1/\c.2.2.2.2.2.2.1<=4
 b:∀x∈r.2.2.2.1,(0<=x.2.1/\x.2.1<=9223372036854775807)/\tu x.2.2.1
 l:r.2.2.2.1.length<=400
 n:r.1≠0\/c.1≠25->r.2.2.1=[]
 f:r.1=0->c.1=25->WW s c.2.2.1 r.2.2.1
 z:r.1≠0->r=noR r.1
theorem Reach.chg{i}{s}(R:Reach i s)(hi:i<=90){c:bX}(J:R9 c):∃t r,GQ s c=some (t,r,())/\Reach (i+1) t/\Chg s c t r:=by
 have⟨t,r,Y,X,y⟩:=R.step hi J;refine⟨t,r,Y,X,?_⟩;rcases y with⟨y,F,j⟩|⟨e,G,F,j⟩
 .rw[F,j];refine⟨λk=>?_,λh=>absurd h y,λx W=>(by cases W),br _,λ_=>rfl,λh=>absurd h y,λ_=>rfl⟩;show apy k s+0=apy k s+dlK c r.1 k;unfold dlK;rw[ag y]
 .have⟨C,V,K⟩:=alo (R.Z hi J) rfl rfl G.a;have H:r.1=0:=by rw[j];exact avB G
  rw[F];refine⟨λk=>?_,λ_=>C.a,?_,?_,λh=>?_,λ_ h=>?_,λh=>absurd H h⟩
  .have:=C.t k;unfold dlK;rw[ah H,j];exact this
  .rw[j];exact C.r
  .rw[j];exact C.l
  .rw[j];exact V (h.resolve_left λg=>g H)
  .rw[j];exact K h
def SY(z:Int):Prop := -1208925819614629174706176<=z/\z<=1208925819614629174706176
theorem alp{z}(h:cz z):SY z:=by unfold cz at h;unfold SY;omega
theorem apz{z}(h:SY z):ec z:=by unfold SY at h;unfold ec;omega
theorem avC{l:List Int}(h:∀x∈l,SY x) : -(1208925819614629174706176*(l.length:Int))<=l.sum/\l.sum<=1208925819614629174706176*(l.length:Int):=by have:=L8 (f:=λx:Int=>x) (B:=1208925819614629174706176) (l:=l) (λx j=>by have:=h x j;unfold SY at this;omega);simpa[cI]using this
theorem alq{l:List Int}(h:∀x∈l,SY x)(hl:l.length<=1000000):xK (l.map wide)=some (wide l.sum,0,()):=by have C:=avC h;rw[NW _ (λw y=>by obtain⟨x,j,rfl⟩:=aK.1 y;exact mT _ (apz (h x j))) (by rw[aW];omega),Oc];unfold fit;rw[ah (by unfold ec;omega)]
def CQ(x:Ar):Bool:=x.2.1.1==0
theorem at9{l}(hl:l.length<=1000):acW l=some (l.filter CQ):=by
 refine GU (N:=l.length) (by omega) (λi z=>z=((l.take i).filter CQ,())) (some (l.filter CQ)) rfl ?_ ?_
 .rintro _ j rfl;refine F8 ?_;rw[bs]
 .rintro i hi _ rfl j K;refine HX hi ?_;refine bz λC F=>?_
  have J:((l.take i).filter CQ).length<=i:=by have:=cp CQ (l.take i);rw[bf]at this;omega
  have e:=ahW CQ l i hi;have y:C ((l.take (i+1)).filter CQ,())=some (l.filter CQ):=by subst F;rw[cP i];exact K _ rfl
  rw[e]at y;show aj.aH l (i:Int) (λG=>aj.af (CQ G) (aj.bc (((l.take i).filter CQ).length+1) 208 (C (((l.take i).filter CQ)++[G],()))) (C ((l.take i).filter CQ,())))=_;rw[bO hi];cases H:CQ l[i]with
  |true=>rw[ah H]at y;rw[aT rfl,da];exact y
  |false=>rw[ag (by rw[H];decide),bZ]at y;rw[az rfl];exact y
theorem af5{t l}(h:t.length+l.length<=1000000):Dz t l=some ((),t++l,()):=by show gW aj t l=_;unfold gW;rw[da]
theorem af6{l:List Int}(h:∀x∈l,SY x)(hl:l.length<=1000000):wK (l.map wide)=some (wide l.sum,l.map wide,()):=by show iU aj (l.map wide)=_;unfold iU;rw[ai (alq h hl)]
theorem Reach.pl{i}{s:aU}(R:Reach i s)(hi:i<=91):(pu s).length<=93/\(ho s).length<=93:=by have⟨a,b,h,S⟩:=R.z;have S1:=S.1;have y:=ct.pL R.L;have j:=ct.oL R.L;exact⟨by show s.2.2.2.2.2.2.2.2.2.2.1.length<=93;omega,by show s.2.2.2.2.2.2.2.2.2.2.2.1.length<=93;omega⟩
theorem ap0:EJ aj=some true:=by kernel_rfl
theorem SZ{x}(hl:x.2.1.2.2.1.length<=10000):YQ [x]=some (if CQ x=true then x.2.1.2.2.1 else[]):=by
 show qq aj [x]=_;unfold qq;rw[ai (at9 (l:=[x]) (by simp))];cases h:CQ x with
 |true=>
  have e:[x].filter CQ=[x]:=by rw[bi,ah h];rfl
  rw[e];refine lQ (N:=1) (by omega) (λi=>((i:Int),[x],if i=0 then[]else x.2.1.2.2.1,())) _ rfl ?_ ?_
  .intro j;rfl
  .intro i hi j y;have:i=0:=by omega
   subst this;refine(da (by simp;omega) (by simp;omega) _).trans ?_;exact y
 |false=>
  have e:[x].filter CQ=[]:=by rw[bi,ag (by rw[h];decide)];rfl
  rw[e];refine lQ (N:=0) (by omega) (λi=>((i:Int),([]:List Ar),([]:List dp),())) _ rfl ?_ ?_
  .intro j;rfl
  .intro i hi;omega
theorem alr{a}{d}(h:a.2.2.2.1.length<=1000):acX a d=some (rB a d.1&&(decide (a.2.2.1=1)||(decide (a.2.2.1=2)&&rB a d.2.1))):=by
 show xT aj a d=_;unfold xT;rw[ai (Js h)];cases rB a d.1 with
 |false=>rfl
 |true=>
  refine(az (c:=!true) rfl _ _).trans ?_;refine dM (λj=>?_) λj=>?_
  .simp[j]
  .refine dM (λy=>?_) λy=>?_
   .rw[ai (Js h)];simp[j,y]
   .simp[j,y]
theorem S5(u v:ar):cX false ((u.1==v.1)&&(u.2.1==v.2.1))=decide (u=v):=by rw[PG];exact eqA u v
theorem ap1{s}(h:qP s.2.2.2.2.1){id}{d}(h1:0<d.2.2.1)(h2:qx s.2.2.2.2.1 d.2.1=id)(y:ahz s id d.1 d.2.1):ahX s id d=some true:=by
 refine bz λK H=>?_
 have X:K (false,())=some true:=by
  subst H;refine(az rfl _ _).trans ?_;refine bz λJ G=>?_
  have Y:J (true,())=some true:=by subst G;exact aT rfl _ _
  have e1:=S5 d.1 d.2.1;have e2:cX false ((d.1.1==0)&&(d.1.2.1==0))=decide (d.1=fU):=S5 d.1 fU;rw[e1,e2];by_cases g1:d.1=d.2.1
  .rw[eG g1];exact Y
  rw[cV g1];by_cases W:d.1=fU
  .rw[ap W];exact Y
  rw[an W];subst G;refine(az rfl _ _).trans ((ai (Wn h) _).trans ?_)
  have hx:∃a∈s.2.2.2.2.1.filter (po id),(rB a d.1&&(decide (a.2.2.1=1)||(decide (a.2.2.1=2)&&rB a d.2.1)))=true:=by
   rcases y with y|y|⟨a,j,ho,y⟩
   .exact absurd y g1
   .exact absurd y W
   .refine⟨a,aI.2 ⟨j,ap ho⟩,?_⟩;rcases y with⟨V,R⟩|⟨V,R,h6⟩
    .simp[rB,V,R]
    .simp[rB,V,R,h6]
  have hF:∀a∈s.2.2.2.2.1.filter (po id),a.2.2.2.1.length<=1000:=λa j=>h.1 a (aI.1 j).1
  have hFl:(s.2.2.2.2.1.filter (po id)).length<=1000:=cn (cp _ _) h.2;generalize s.2.2.2.2.1.filter (po id)=F at *;refine(gQ (l:=F) (S:=List aN×Unit) (by omega) (λ_ z=>z=(F,())) (λt _=>some (t.any λa=>rB a d.1&&(decide (a.2.2.1=1)||(decide (a.2.2.1=2)&&rB a d.2.1)))) rfl ?_ ?_).trans ?_
  .rintro _ C rfl;refine F8 ?_;rfl
  .rintro i hi _ rfl C j;refine HX hi ?_;rw[bO hi,ij hi,ai (alr (hF _ (aE hi))),Db];cases(rB F[i] d.1&&(decide (F[i].2.2.1=1)||(decide (F[i].2.2.1=2)&&rB F[i] d.2.1)))with
   |true=>rw[aT rfl];rfl
   |false=>rw[az rfl,cP i,Dc];exact j _ rfl
  .have⟨a,j,hp⟩:=hx;rw[jt.2 ⟨a,j,hp⟩]
 rw[cV (by omega),ai (L9 h)];have:(qx s.2.2.2.2.1 d.2.1 != id)=false:=by simpa using h2
 rw[this];exact X
def Od(u:ar)(j:List dp):List Int:=(j.filter λd=>decide (d.2.1=u)).map λd=>d.2.2.1
theorem W_(u):∀j:List dp,(Od u j).sum=kC u j
 |[]=>rfl
 |d::j=>by
  have y:=W_ u j;unfold Od kC at *;rw[bi,cx,<-y];by_cases h:d.2.1=u
  .rw[ah (by simpa using h),ah h,bI,fG]
  .rw[ag (by simpa using h),ag h];omega
theorem avD{x}(hx:CQ x=true)(hl:x.2.1.2.2.1.length<=10000)(Y:∀d∈x.2.1.2.2.1,cz d.2.2.1)(u):ahY [x] u=some (wide (kC u x.2.1.2.2.1)):=by
 show As aj [x] u=_;unfold As
 have e:BD u.1 u.2.1 [x]=some (wide (kC u x.2.1.2.2.1),u.1,u.2.1,()):=by
  show ik aj u.1 u.2.1 [x]=_;unfold ik;rw[ai (SZ hl),ah hx];generalize x.2.1.2.2.1=j at *;have X:∀z∈Od u j,SY z:=λz hz=>by obtain⟨d,W,rfl⟩:=aK.1 hz;exact alp (Y d (aI.1 W).1)
  have C:∀t:List dp,(Od u t).length<=t.length:=λt=>by unfold Od;rw[aW];exact cp _ _
  refine lQ (N:=j.length) (by omega) (λi=>((i:Int),u.1,u.2.1,j,(Od u (j.take i)).map wide,())) _ rfl ?_ ?_
  .intro F;show aj.af (decide ((j.length:Int)<(j.length:Int))) _ (aj.ae (wK ((Od u (j.take j.length)).map wide)) λJ=>some (J.1,u.1,u.2.1,()))=_;have:=C j;rw[dV,bs,ai (af6 X (by omega)),W_]
  .intro i hi F ha;have W:=Y _ (aE hi);have V:=C (j.take i);rw[bf]at V
   have e1:Od u (j.take (i+1))=Od u (j.take i)++(if j[i].2.1=u then[j[i].2.2.1]else[]):=by
    unfold Od;rw[ax hi,eU,cw];congr 1;by_cases y:j[i].2.1=u
    .rw[ah y,bi,ah (by simpa using y)];rfl
    .rw[ag y,bi,ag (by simpa using y)];rfl
   refine HX hi ?_;refine bz λR G=>?_
   have H:R (u.1,u.2.1,j,(Od u (j.take (i+1))).map wide,())=some (wide (kC u j),u.1,u.2.1,()):=by subst G;rw[cP i (by omega)];exact ha
   rw[e1]at H;refine(bO hi _).trans ((ij hi _).trans ?_);have ee:cX false ((j[i].2.1.1==u.1)&&(j[i].2.1.2.1==u.2.1))=decide (j[i].2.1=u):=S5 _ _;show aj.af (cX false ((j[i].2.1.1==u.1)&&(j[i].2.1.2.1==u.2.1))) (aj.ae (Yk j[i].2.2.1) λv9=>aj.ae (Dz ((Od u (j.take i)).map wide) [v9]) λK=>R (u.1,u.2.1,j,K.2)) (R (u.1,u.2.1,j,(Od u (j.take i)).map wide,()))=_;rw[ee];by_cases y:j[i].2.1=u
   .rw[ah y,cw]at H;rw[aT (ap y),ai (Gm _ W),ai (af5 (by rw[aW];simp;omega))];exact H
   .rw[ag y,bZ]at H;rw[az (an y)];exact H
 rw[ai e]
theorem ap2(x y):L' x y=some (yF x y):=by
 show oq aj x y=_;unfold oq yF;have e:∀z:Int,JN z=some false:=by intro z;show some (z != z)=_;simp
 rw[ai (e x),ai (e y),az rfl,az rfl];refine de (λC=>?_) λC=>?_
 .rw[ah C]
 .rw[ag C];refine de (λj=>?_) λj=>?_
  .rw[ah j]
  .rw[ag j]
theorem ap3(x y):Ma x y=some (yF x y):=by
 show ot aj x y=_;unfold ot yF;have e:∀z:Int,JO z=some false:=by intro z;show some (z != z)=_;simp
 rw[ai (e x),ai (e y),az rfl,az rfl];refine de (λC=>?_) λC=>?_
 .rw[ah C]
 .rw[ag C];refine de (λj=>?_) λj=>?_
  .rw[ah j]
  .rw[ag j]
theorem atA{z}(h:z<=0):∃n,ahZ (wide z)=some n/\¬0<n:=by
 show ∃n,Au aj (wide z)=some n/\_;unfold Au
 have e:∃n,S7 (wide z) (0,0,())=some n/\¬0<n:=by
  show ∃n,tN aj (wide z) (0,0,())=some n/\_;unfold tN;rw[ai (ap2 _ _),ai (ap3 _ _),ai (axB (by simp))];refine⟨_,rfl,?_⟩;unfold orL orL orL yF wide;simp only;by_cases y:z / 18446744073709551616<0
  .rw[ah y,ag (show ¬(-1:Int)=0 by decide)];decide
  .have j:z=0:=by omega
   subst j;decide
 have⟨n,F,C⟩:=e;exact⟨n,by rw[ai F],C⟩
theorem atB{i}{s t}{c}{r:Il}(R:Reach i s)(hi:i<=90)(C:Chg s c t r):acY s (c,r,())=some true:=by
 show BV aj s (c,r,())=_;have⟨pl,_⟩:=R.pl (by omega);have hA:qP s.2.2.2.2.1:=ct.qP R.L;have hpf:=(ct.p R.L).f;by_cases H:r.1=0/\c.1=25
 .have F:=C.f H.1 H.2;have h0:CQ (c,r,())=true:=by unfold CQ;simpa using H.1
  refine(ai (SZ (x:=(c,r,())) F.l) _).trans ?_;rw[ah h0];have fl:=F.l;refine bz λK y=>?_
  have W:K (false,r.2.2.1,())=some true:=by
   subst y;refine(az rfl _ _).trans ?_;refine lQ (N:=r.2.2.1.length) (by omega) (λj=>((j:Int),r.2.2.1,())) _ rfl ?_ ?_
   .intro G;exact F8 rfl
   .intro j V G ha;have J:=aE V;have m1:=ap1 (s:=s) hA (F.a _ J).1 (F.o _ J) (F.m _ J);have m2:=avD (x:=(c,r,())) h0 F.l (λd J=>(F.a d J).2) r.2.2.1[j].2.1;have m3:nl s.2.2.2.2.2.2.2.2.2.2.1 r.2.2.1[j].2.1=some (dr (pu s) r.2.2.1[j].2.1):=Gl (by show(pu s).length<=1000000;omega);have X:=BO hpf r.2.2.1[j].2.1;have X:cz (dr (pu s) r.2.2.1[j].2.1):=X
    have hp:SY (kC r.2.2.1[j].2.1 r.2.2.1):=by
     have:=L8 (f:=λd:kA=>if d.2.1=r.2.2.1[j].2.1 then d.2.2.1 else 0) (B:=9223372036854775808) (l:=r.2.2.1) λd J=>by have:=(F.a d J).2;unfold cz at this;show _<=(if d.2.1=r.2.2.1[j].2.1 then d.2.2.1 else 0)/\(if d.2.1=r.2.2.1[j].2.1 then d.2.2.1 else 0)<=_;split<;>omega
     unfold SY kC;omega
    have hle:=F.p _ J
    have m4:wK [wide (kC r.2.2.1[j].2.1 r.2.2.1),wide (dr (pu s) r.2.2.1[j].2.1)]=some (wide (kC r.2.2.1[j].2.1 r.2.2.1+dr (pu s) r.2.2.1[j].2.1),[wide (kC r.2.2.1[j].2.1 r.2.2.1),wide (dr (pu s) r.2.2.1[j].2.1)],()):=by
     have:=af6 (l:=[kC r.2.2.1[j].2.1 r.2.2.1,dr (pu s) r.2.2.1[j].2.1]) (λx H=>by
      simp only[aB,dD,kO]at H;rcases H with rfl|rfl
      .exact hp
      .exact alp X) (by simp)
     simp only[fG,vB,n9]at this;exact this
    have⟨n,m5,m6⟩:=atA hle;refine HX V ?_;rw[bO V,ij V];refine(ai m1 _).trans ((az (c:=!true) rfl _ _).trans ((ai m2 _).trans ((ai m3 _).trans ((ai (Gm _ X) _).trans ((ai (af5 (t:=[]) (by simp)) _).trans ((ai m4 _).trans ((ai m5 _).trans ((az (an m6) _ _).trans ?_))))))));rw[cP j (by omega)];exact ha
  clear y;have:(c.1 != 25)=false:=by simpa using H.2
  rw[this];refine de (λY=>?_) λY=>?_
  .exact W
  .exact W
 .have hn:r.2.2.1=[]:=C.n (by
   by_cases Y:r.1=0
   .exact .inr λh2=>H ⟨Y,h2⟩
   .exact .inl Y)
  have e:(if CQ (c,r,())=true then((c,r,()):Ar).2.1.2.2.1 else[])=[]:=by rw[hn];split<;>rfl
  refine(ai (SZ (x:=(c,r,())) (by rw[hn];exact br _)) _).trans ?_;rw[e];refine bz λK y=>?_
  refine(az rfl _ _).trans ?_;subst y;refine(az rfl _ _).trans ?_;refine lQ (N:=0) (by omega) (λj=>((j:Int),([]:List dp),())) _ rfl ?_ ?_
  .intro G;rfl
  .intro j V;omega
theorem acZ{l:List bX}(hl:DT.N4 (.slc jJ) l):uN aj l=some true:=by
 have J:=hl.2;refine bz λH j=>?_
 have G:∀s,H s=some true:=λs=>by subst j;exact(ai ap0 _)
 refine oY (X:=Int×aU) (λo=>o=some true) (λz=>100-z.1.toNat) (λz=>∃i:Nat,z.1=(i:Int)/\i<=90/\i<=l.length/\Reach i z.2) ⟨0,rfl,by omega,by omega,aps⟩ (by decide) ?_;rintro⟨_,s⟩ ⟨i,rfl,hi,K,R⟩ F W;by_cases y:i<l.length;case neg=>rw[cV (by omega)];exact G s
 rw[dx y];by_cases h2:i<90;case neg=>rw[cV (show ¬((i:Int)<90)by omega)];exact G s
 rw[eG (show(i:Int)<90 by omega),bO y,ai apr];have V:=avA (hl.1 _ (aE y));generalize shC l[i]=c at *;have⟨t,r,Y,R1,C⟩:=R.chg (by omega) V;rw[ai Y];refine(ai (atB R (by omega) C) _).trans ((az (c:=!true) rfl _ _).trans ?_);rw[cP i];exact W _ ⟨i+1,rfl,by omega,by omega,R1⟩ (by omega)
end Go.Proofs.YthghpahghjppjaaGreat