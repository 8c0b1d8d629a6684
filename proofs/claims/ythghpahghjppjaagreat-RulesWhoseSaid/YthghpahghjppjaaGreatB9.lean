import Derived.Test.YthghpahghjppjaaGreatB8
import Derived.Laws.Externs
import Derived.WalkKit
import Derived.ProofKit
import Derived.OpenShut
import Derived.ShutString
import Derived.ChangeOld
import Derived.Below
import Derived.Lib.SmallJoins
namespace Go.Vc
open Go Go.RowKit
theorem aca{P}{f}{s}(h:∀x q,s.fn x=some q->∀(E:Env) (vs:List Value),hL E (zO s.P x) vs->∃v,(∀w,(callFunc f vs.toArray).run P w=.ok (.value v) w)/\(s.Q.mk q []).2=[]/\∀E,(s.Q.mk q []).1.h E v):anl P f s:=by intro x q hx U0 B A vs w m hargs;obtain⟨v,h1,h2,h3⟩:=h x q hx _ vs hargs;refine⟨.inr ⟨v,w,h1 w,B,A,(s.Q.mk q []).1,[],[],m,h3 _,λi hi=>(by obtain⟨b,hb⟩:=hi;simp at hb),rfl,?_⟩⟩;exact jd rfl h2.symm
open Go.ChangeShapes Go.WideShapes
def noU:Nat->Prop:=λ_=>False
def DT.Oi:(t:DT)->t.den->Prop
 | .int k,n=>(Lit.int k n).wf=true
 | .bool,_=>True
 | .str,s=>s.size<=maxLen
 | .slc t,l=>(∀x∈l,t.Oi x)/\l.length<=maxLen
 | .unit,_=>True
 | .pair a b,x=>a.Oi x.1/\b.Oi x.2
 | .set,_=>False
theorem wf_i64{n}(h:(Lit.int .i64 n).wf=true) : -9223372036854775808<=n/\n<=9223372036854775807:=by simp[Lit.wf,IntKind.min,IntKind.max,IntKind.signed,IntKind.bits]at h;omega
def lay(P:Program):DT->(TypeId->Bool)×(List Field->Nat->Bool)
 | .int k=>(λt=>match P.underlying t with|some (.int k')=>eqk k' k|_=>false,λ_ _=>false)
 | .bool=>(λt=>match P.underlying t with|some .bool=>true|_=>false,λ_ _=>false)
 | .set=>(λ_=>false,λ_ _=>false)
 | .str=>(λt=>match P.underlying t with|some .string=>true|_=>false,λ_ _=>false)
 | .slc d=>(λt=>match P.underlying t with|some (.slice e)=>(lay P d).1 e&&Nat.beq (P.cellsOf e) d.size|_=>false,λ_ _=>false)
 | .unit=>(λt=>match P.underlying t with|some (.struct fs)=>fs.toList.isEmpty&&Nat.beq (P.cellsOf t) 0|_=>false,λfl _=>fl.isEmpty)
 | .pair a b=>
  (λt=>match P.underlying t with
   |some (.struct fs)=>(match fs.toList with
    |f::fl=>Nat.beq f.offset 0&&Nat.beq (P.cellsOf f.type) a.size&&(lay P a).1 f.type&&(lay P b).2 fl a.size
    |[]=>false)&&Nat.beq (fs.toList.foldl (λs f=>s+P.cellsOf f.type) 0) (P.cellsOf t)
   |_=>false,
  λfl off=>match fl with
   |f::fl=>Nat.beq f.offset off&&Nat.beq (P.cellsOf f.type) a.size&&(lay P a).1 f.type&&(lay P b).2 fl (off+a.size)
   |[]=>false)
def anm(P:Program)(t:TypeId)(d:DT):Prop:=∀(H:Type) (enc:TypeId×Value->H) (w:World) (base:Nat) (spare:Nat->Bool) (held:Bool) (Eu:Nat) (cs:List Value) (x:DataW H×List MemPlace),DataW.trod enc P w base spare held Eu t cs=some x->∃a,d.Oi a/\d.h noU w a cs
def akc(P:Program)(fl:List Field)(off:Nat)(d:DT):Prop:=∀(H:Type) (enc:TypeId×Value->H) (w:World) (base:Nat) (spare:Nat->Bool) (held:Bool) (Eu:Nat) (cs:List Value) (n:Nat),cs.length=n->fl.foldl (λs f=>s+P.cellsOf f.type) off=n->(∀f∈fl,∃x,DataW.trod enc P w base spare held Eu f.type ((cs.drop f.offset).take (P.cellsOf f.type))=some x)->∃a,d.Oi a/\d.h noU w a (cs.drop off)
theorem PT{α}{Q:Nat->α->Prop}:∀(n:Nat),(∀i,i<n->∃a,Q i a)->∃l:List α,l.length=n/\∀i a,l[i]?=some a->Q i a
 |0,_=>⟨[],rfl,by simp⟩
 |n+1,h=>by
  obtain⟨l,hl,hq⟩:=PT n λi hi=>h i (by omega)
  obtain⟨a,ha⟩:=h n (by omega);refine⟨l++[a],by simp[hl],λi b hb=>?_⟩;rcases dS i n with hi|hi
  .rw[bB (by omega)]at hb;exact hq i b hb
  .rw[dz (by omega),hl]at hb;rcases Nat.eq_or_lt_of_le hi with e|e
   .subst e;simp at hb;subst hb;exact ha
   .rw[bH (by simp;omega)]at hb;cases hb
theorem akd{w:World}{base:Nat}{a:Addr}{n:Nat}{cs:List Value}(h:w.cells? base a n=some cs):cs.length=n/\∀j u,cs[j]?=some u->w.cell? (a.add j)=some u:=by
 unfold World.cells? at h;split at h
 .have hl:=mapM_some_length h;refine⟨by simpa using hl,λj u hj=>?_⟩;have hlt:j<n:=by have:=(ay.1 hj).1;simp at hl;omega
  have:=mapM_some_get h j j (by simp[hlt]);rw[this,hj]
 .cases h
theorem ake{P:Program}{t e:TypeId}{d:DT}(ht:P.underlying t=some (.slice e))(hk:P.cellsOf e=d.size)(he:anm P e d):anm P t (.slc d):=by
 intro H enc w base spare held Eu cs x h;rcases DataW.trod_slice ht h with⟨rfl,_⟩|⟨a,len,cap,atO,rest,n,_,rfl,_,hb,hl,hm,hlen,hel,_,_⟩
 .exact⟨[],⟨by simp,bE _⟩,none,0,rfl,au _,bE _,by simp⟩
 .have hq:∀i,i<len->∃b:d.den,d.Oi b/\∃us,d.h noU w b us/\∀j u,us[j]?=some u->w.cell? (a.add (i*d.size+j))=some u:=by
   intro i hi;have h1:=hel i hi;have h2:atO[i]?=some atO[i]:=aw (by omega);rw[h2,Option.bind_eq_some_iff]at h1;obtain⟨us,h3,h4⟩:=h1;obtain⟨b,hb1,hb2⟩:=he H enc w base spare held n us _ h4;obtain⟨_,g2⟩:=akd h3;refine⟨b,hb1,us,hb2,λj u hj=>?_⟩;have:=g2 j u hj
   rwa [oH,hk]at this
  obtain⟨l,Wx,hl2⟩:=PT len hq;refine⟨l,⟨λb hb=>?_,by omega⟩,some a,cap,by rw[Wx],by omega,hm,λi x hi=>?_⟩
  .obtain⟨i,hi⟩:=rc.1 hb;exact(hl2 i b hi).1
  .obtain⟨_,us,g2,g3⟩:=hl2 i x hi;refine⟨us,g2,λj u hj=>⟨a,rfl,λh=>h,?_,g3 j u hj⟩⟩;have:=World.block_lt_of_cell? w _ (g3 j u hj)
   rwa [jH]at this
theorem Tc{P}{t}{fs:Array Field}{d:DT}(ht:P.underlying t=some (.struct fs))(hs:fs.toList.foldl (λs f=>s+P.cellsOf f.type) 0=P.cellsOf t)(h:akc P fs.toList 0 d):anm P t d:=by
 intro H enc w base spare held Eu cs x hx;obtain⟨xs,n,_,_,hl,hxl,hf⟩:=DataW.trod_struct ht hx;have:=h H enc w base spare held n cs _ hl hs λf hf'=>by obtain⟨i,hi⟩:=rc.1 hf';have h1:=hf i f (by simpa using hi);have hlt:=(ay.1 hi).1;rw[aw (by rw[hxl];simpa using hlt)]at h1;exact⟨_,h1⟩
 simpa using this
theorem ahA{P}{off}:akc P [] off .unit:=by intro H enc w base spare held Eu cs n hl hn _;simp at hn;exact⟨(),trivial,by simp only[DT.h];simp;omega⟩
theorem ann{P}{f}{fl}{off:Nat}{a b:DT}(ho:f.offset=off)(hk:P.cellsOf f.type=a.size)(h1:anm P f.type a)(h2:akc P fl (off+a.size) b):akc P (f::fl) off (.pair a b):=by
 intro H enc w base spare held Eu cs n hl hn hf;subst ho;obtain⟨x,hx⟩:=hf f (by simp);obtain⟨y,a1,a2⟩:=h1 H enc w base spare held Eu _ x hx;obtain⟨z,b1,b2⟩:=h2 H enc w base spare held Eu cs n hl (by rw[<-hk];simpa using hn) λg hg=>hf g (by simp[hg])
 refine⟨(y,z),⟨a1,b1⟩,_,_,?_,a2,b2⟩;rw[<-na,hk,nk]
theorem Zb(P:Program):∀d:DT,(∀t,(lay P d).1 t=true->anm P t d)/\∀fl off,(lay P d).2 fl off=true->akc P fl off d
 | .set=>⟨λ_ h=>by simp[lay]at h,λ_ _ h=>by simp[lay]at h⟩
 | .int k=>by
  refine⟨λt h=>?_,λfl off h=>?_⟩;case refine_2=>simp[lay]at h
  simp only[lay]at h;split at h
  .rename_i k' ht;have:=Td h;subst this;intro H enc w base spare held Eu cs x hx;obtain⟨n,rfl,_,hw⟩:=DataW.trod_int ht hx;exact⟨n,hw,rfl⟩
  .cases h
 | .bool=>by
  refine⟨λt h=>?_,λfl off h=>?_⟩;case refine_2=>simp[lay]at h
  simp only[lay]at h;split at h
  .rename_i ht;intro H enc w base spare held Eu cs x hx;obtain⟨n,rfl,_⟩:=DataW.trod_bool ht hx;exact⟨n,trivial,rfl⟩
  .cases h
 | .str=>by
  refine⟨λt h=>?_,λfl off h=>?_⟩;case refine_2=>simp[lay]at h
  simp only[lay]at h;split at h
  .rename_i ht;intro H enc w base spare held Eu cs x hx;obtain⟨n,rfl,_,hl⟩:=DataW.trod_string ht hx;exact⟨n,hl,rfl⟩
  .cases h
 | .slc d=>by
  refine⟨λt h=>?_,λfl off h=>?_⟩;case refine_2=>simp[lay]at h
  simp only[lay]at h;split at h
  .rename_i e ht;simp only[aB]at h;exact ake ht (aE h.2) ((Zb P d).1 _ h.1)
  .cases h
 | .unit=>by
  refine⟨λt h=>?_,λfl off h=>?_⟩;case refine_2=>simp only[lay,xW]at h;subst h;exact ahA
  simp only[lay]at h;split at h
  .rename_i fs ht;simp only[aB,xW]at h;refine Tc ht (by rw[h.1,aE h.2];rfl) ?_;rw[h.1];exact ahA
  .cases h
 | .pair a b=>by
  have hF:∀fl off,(lay P (.pair a b)).2 fl off=true->akc P fl off (.pair a b):=λfl off h=>by
   simp only[lay]at h;split at h
   .simp only[aB]at h;obtain⟨⟨⟨h1,h2⟩,h3⟩,h4⟩:=h;exact ann (aE h1) (aE h2) ((Zb P a).1 _ h3) ((Zb P b).2 _ _ h4)
   .cases h
  refine⟨λt h=>?_,hF⟩;simp only[lay]at h;split at h
  .rename_i fs ht;simp only[aB]at h;refine Tc ht (aE h.2) (hF _ _ ?_);have h1:=h.1;simp only[lay];split at h1
   .rename_i f fl hfs;rw[cg];exact h1
   .cases h1
  .cases h
theorem G5{P}{t}{d}(hl:(lay P d).1 t=true){H}{enc}{w}{re}{b0 base:Nat}{spare:Nat->Bool}{held:Bool}{v:Value}{D:DataW H}{p:List MemPlace}
 (hv:Value.okWide P w re b0 t v) (h:DataW.Trod enc P w base spare held t v D p):∃a,d.Oi a/\d.hv noU w a v:=by
 have ho:=(Zb P d).1 t hl;obtain⟨Eu,h⟩:=h;obtain⟨a,h1,h2⟩:=ho H enc w base spare held Eu _ _ h;refine⟨a,h1,_,h2,?_⟩;cases d with
 |set=>simp[lay]at hl
 |int k=>
  simp only[lay]at hl;split at hl
  .rename_i ht;obtain⟨s,rfl⟩:=okWide_int ht hv;rfl
  .cases hl
 |bool=>
  simp only[lay]at hl;split at hl
  .rename_i ht;obtain⟨s,rfl⟩:=okWide_bool ht hv;rfl
  .cases hl
 |str=>
  simp only[lay]at hl;split at hl
  .rename_i ht;obtain⟨s,rfl⟩:=okWide_string ht hv;rfl
  .cases hl
 |slc d=>
  simp only[lay]at hl;split at hl
  .rename_i ht;obtain⟨x,n,c,rfl⟩:=okWide_slice ht hv;rfl
  .cases hl
 |unit=>
  simp only[lay]at hl;split at hl
  .rename_i ht;obtain⟨cs,rfl,_⟩:=okWide_struct ht hv;simp[DT.agg,Value.cells]
  .cases hl
 |pair a b=>
  simp only[lay]at hl;split at hl
  .rename_i ht;obtain⟨cs,rfl,_⟩:=okWide_struct ht hv;simp[DT.agg,Value.cells]
  .cases hl
def akf(w:World):Env:=⟨noU,w,λ_=>0,λ_=>(none,0),[],[]⟩
theorem avE{w}:hL (akf w) (zO .unit ()) []:=by simp only[zO,hL]
theorem arx{w}{a b}{x:a.den}{y:b.den}{v}{vs}(h:a.hv noU w x v)(k:hL (akf w) (zO b y) vs):hL (akf w) (zO (.pair a b) (x,y)) (v::vs):=by simp only[zO,hL];exact⟨v,vs,rfl,a.acb (E:=akf w) h,k⟩
theorem ayc{P}{f}{A}{F}(h:anl P f ⟨A,.v .bool,F⟩){x:A.den}(hx:F x=some true){vs:List Value}{w:World}(hv:hL (akf w) (zO A x) vs)(hb:qj P f):
 Calls P f vs.toArray w λe w'=>e=.returned (.bool true)/\Below w.heap.size w w':=by
 have NX:∀b,¬Ow (λ_=>0) (λ_=>(none,0)) [] [] b:=by
  rintro b ⟨k,i,h⟩;cases k with
  |false=>obtain⟨⟨_,h⟩,_⟩:=h;simp at h
  |true=>obtain⟨r,ad,h,_⟩:=h;simp at h
 have m:Mem w noU (Ow (λ_=>0) (λ_=>(none,0)) [] []) (λ_=>0) (λ_=>(none,0)) [] [] w:=⟨rfl,rfl,rfl,au _,λ_ _ _=>rfl,λb h=>h.elim,λk i b h=>(NX b ⟨k,i,h⟩).elim,λk i k' i' b h=>(NX b ⟨k,i,h⟩).elim,λi b h=>by simp at h,λj e t l h=>by simp at h,λj d h=>by simp at h⟩;have hU:∀b,Us noU (λ_=>0) (λ_=>(none,0)) [] [] b->noU b:=λb h=>h.elim id λh=>(NX b h).elim
 have s:Sub Ix (akf w) (env noU (λ_=>0) (λ_=>(none,0)) [] [] w):=⟨⟨λ_ _ _=>rfl,au _,λb _ h=>hU b h⟩,λi h=>⟨h,rfl⟩,λj e t l _ h=>⟨l,h,rfl,rfl⟩,λj d _ h=>⟨⟨d,h,rfl⟩,rfl⟩,λj q e t l h=>(by cases h),λj p d ad h=>(by cases h)⟩;refine((h x true hx noU _ _ vs w m (nS s hv)).calls hb).mono ?_;rintro e w' ⟨v,rfl,B',A',r,pb',rw',m',hr,_,_,hq⟩;simp only[QT.mk,bV]at hq;obtain⟨rfl,_⟩:=hq;simp only[DT.val,DV.h]at hr;subst hr;exact⟨rfl,m'.os,m'.tape,m'.output,m'.size,λb hb=>m'.same b hb (NX b)⟩
end Go.Vc
namespace Go.Proofs.YthghpahghjppjaaGreat
open Go Go.Vc Go.RowKit Lot Ay Az AA AB AD
set_option synthInstance.maxSize 100000
def shC(c:cm):cm:=avd c ((nv c).take 40)
theorem arn{c}:abS c=some (shC c):=by
 show vz aj c=_;unfold vz;refine bw λk hk=>?_
 have kk:∀l:List Int,k (U3 c (c.2.2.2.1.1,c.2.2.2.1.2.1,c.2.2.2.2.1.1,c.2.2.2.2.1.2.1,U6 c.2.2.2.2.2 (l,())))=some (avd c l):=λl=>by subst hk;rfl
 by_cases h:(40:Int)<((nv c).length:Int)
 .refine(eR h _ _).trans ?_;refine(Jo (i:=40) (n:=(nv c).length) (by omega) (by omega) _).trans ?_;exact kk ((nv c).take 40)
 .refine(cY h _ _).trans ?_;have e:shC c=avd c (nv c):=by unfold shC;rw[lZ (by omega)]
  rw[e];exact kk (nv c)
theorem axQ {c} (h : DT.Oi j5 c) : VB (shC c) := by
  obtain ⟨h1, h2, h3, ⟨h4, h5, _⟩, ⟨h6, h7, _⟩, h8, h9, h10, h11, Sg, h13, ⟨h14, _⟩, _⟩ := h
  refine ⟨wf_i64 h1, wf_i64 h2, λL x hx => ?_, ?_⟩
  · cases L with
    | M => rw [aC.1 hx]; exact wf_i64 h3
    | U => rcases aF.1 hx with rfl | hx
           · exact wf_i64 h4
           · rw [aC.1 hx]; exact wf_i64 h5
    | O => rcases aF.1 hx with rfl | hx
           · exact wf_i64 h6
           · rw [aC.1 hx]; exact wf_i64 h7
    | I => rw [aC.1 hx]; exact wf_i64 h8
    | A => rw [aC.1 hx]; exact wf_i64 h9
    | T => rw [aC.1 hx]; exact wf_i64 h10
    | D => rw [aC.1 hx]; exact wf_i64 h11
    | Q => rw [aC.1 hx]; exact wf_i64 Sg
    | P => rw [aC.1 hx]; exact wf_i64 h13
    | N => rcases aF.1 hx with rfl | hx
           · have : ((nv c).take 40).length <= 40 := by rw [aX]; omega
             show uO (((nv c).take 40).length : Int)
             unfold uO; omega
           · exact wf_i64 (h14 x (fh hx))
  · show ((nv c).take 40).length <= 1000
    rw [aX]; omega
structure Reach(i:Nat)(s:aV):Prop where
 L:Co s
 z:∃a b,a+b<=i/\Siz a b s
def av9:aV:=(0,[],[],[],[],[],[],[],[],[],[],[],())
theorem aro:Reach 0 av9:=by
 refine⟨?_,0,0,au _,au _,au _⟩;have nA:∀{α:Type} (f:α->Int),qU f []:=λf=>List.Pairwise.nil
 have nB:∀N K,LW N K []:=λN K=>⟨aq ⟨λ_ h=>(by cases h),List.Pairwise.nil⟩,λ_ h=>(by cases h),λ_ h=>(by cases h),λ_ h=>(by cases h)⟩
 exact { dy:=by show(0:Int)<=0/\(0:Int)<=1048576;omega,mA:=nA _,mO:=λ_ h=>(by cases h),iA:=nA _,iO:=λ_ h=>(by cases h),aA:=nA _,aO:=λ_ h=>(by cases h),cA:=nA _,cO:=λ_ h=>(by cases h),cM:=λ_ h=>(by cases h),hO:=λ_ h=>(by cases h),hS:=List.Pairwise.nil,gI:=ahz _,gO:=λ_ h=>(by cases h),gL:=bE _,vI:=ahz _,vO:=λ_ h=>(by cases h),vL:=bE _,b:=nB _ _,s:=nB _ _,p:=QN.nil _,h:=⟨aq ⟨λ_ h=>(by cases h),List.Pairwise.nil⟩,λ_ h=>(by cases h),λ_ h=>(by cases h),λ_ h=>(by cases h)⟩,bal:=λ_=>rfl }
theorem Reach.Z{i}{s}(R:Reach i s)(hi:i<=90){c:cm}(hc:VB c):zM (mkD s c):=by obtain⟨a,b,h,S⟩:=R.z;exact zM.of (d:=mkD s c) (a:=a) (b:=b) R.L S (by omega) (by have:=hc.2.2.1 .Q _ (aC.2 rfl);exact this) hc.2.2.2
theorem Reach.act{i}{s:aV}(R:Reach i s)(hi:i<=90){c:cm}(hc:VB c){e:aK}(h:amS (mkD s c) e):Reach (i+1) (cK e):=by
 obtain⟨a,b,hab,S⟩:=R.z;rcases arm (R.Z hi hc) h with K|K
 .exact⟨K.1,a+1,b,by omega,cp K.2.1 (Nat.add_le_add_right S.1 1),cp K.2.2 (by have:=S.2;show(bk s).length+(sa s).length+2*0<=2*b;omega)⟩
 .exact⟨K.1,a,b+1,by omega,cp K.2.1 (by have:=S.1;show(I4 s.2.2.2.2.1).length+0<=a;omega),cp K.2.2 (by have:=S.2;show(bk s).length+(sa s).length+2*1<=2*(b+1);omega)⟩
theorem Reach.up{i}{s:aV}(R:Reach i s):Reach (i+1) s:=by obtain⟨a,b,h,S⟩:=R.z;exact⟨R.L,a,b,by omega,S⟩
theorem Reach.step{i}{s:aV}(R:Reach i s)(hi:i<=90){c:cm}(hc:VB c):∃t r,PR s c=some (t,r,())/\Reach (i+1) t/\((r.1≠0/\t=s/\r=noR r.1)\/∃e,GoR s c e/\t=cK e/\r=atK e):=by
 obtain⟨t,r,h1,h2⟩:=amW hc (R.Z hi hc);refine⟨t,r,h1,?_,h2⟩;rcases h2 with⟨_,e,_⟩|⟨e,G,h3,_⟩
 .rw[e];exact R.up
 .rw[h3];exact R.act hi hc G.a
set_option maxRecDepth 1000000
theorem arp:FA aj=some true:=by kernel_rfl
theorem ajZ{l}{id}(hl:l.length<=1000000):afg l id=some (match gP l id with|some a=>(a,true,())|none=>(wU,false,())):=by
 show yL aj l id=_;unfold yL;refine ib (l:=l) (S:=Unit) (by omega) (λ_ _=>True) (λt _=>some (match gP t id with|some a=>(a,true,())|none=>(wU,false,()))) trivial ?_ ?_
 .rintro _ again _;refine IZ ?_;rfl
 .rintro i hi _ _ again ha;refine Jp hi ?_;rw[bO hi,JJ];refine dQ (λh=>?_) λh=>?_
  .rw[bO hi,ah h]
  .rw[ag h,cU i (by omega)];exact ha () trivial
def YT(s:aV)(u:ar)(id:Int):Bool:=match gP s.2.2.2.2.1 u.1 with|some a=>a.2.1==id|none=>false
theorem atL{s}{u}{id}(h:rC s.2.2.2.2.1):Xc s u id=some (YT s u id):=by show oP aj s u id=_;unfold oP YT;rw[ai (ajZ (by have:=h.2;omega))];cases gP s.2.2.2.2.1 u.1<;>rfl
theorem amX{C}(h:qU (·.1) C){a:aD}(ha:a∈C):gP C a.1=some a:=by
 cases hf:gP C a.1 with
 |none=>exact absurd rfl (xt (f:=λa:aD=>a.1) hf a ha)
 |some b=>obtain⟨hb,e⟩:=Ei hf;rw[Mo h hb ha e]
theorem aka{s}(h:qU (·.1) s.2.2.2.2.1){u:ar}{id:Int}(h0:id≠0)(ho:ud s.2.2.2.2.1 u=id):YT s u id=true:=by
 unfold ud at ho;cases hf:s.2.2.2.2.1.find? (λa=>AN a u)with
 |none=>rw[hf]at ho;exact absurd ho.symm h0
 |some a=>rw[hf]at ho;have ha:=bT hf;have h2:=jP hf;have hu:=bM h2;unfold YT;rw[aqK hu,amX h ha];simpa using ho
theorem abT{s}{c}{u}(h:Bi (mkD s c) u.1=true):YT s u (Bj (mkD s c))=true:=by
 unfold Bi at h;unfold YT;cases hf:gP s.2.2.2.2.1 u.1 with
 |none=>have hf:gP (bR (mkD s c)) u.1=none:=hf;rw[hf]at h;exact h
 |some a=>have hf:gP (bR (mkD s c)) u.1=some a:=hf;rw[hf]at h;exact h
structure axR(s:aV)(c:cm):Prop where
 al:s.2.1.any (λm=>m.1==c.2.1&&m.2.2.1==0)=true
 op:c.1=5\/c.1=7\/c.1=8\/c.1=9\/c.1=10\/c.1=11\/c.1=12\/c.1=13\/c.1=17\/c.1=18\/c.1=19\/c.1=20\/c.1=26\/c.1=27\/c.1=28\/c.1=29\/c.1=31
 un:c.1=8\/c.1=12\/c.1=17\/c.1=18\/c.1=19\/c.1=26\/c.1=27\/c.1=28\/c.1=29->YT s c.2.2.2.1 c.2.1=true
 ot:c.1=20->YT s c.2.2.2.2.1 c.2.1=true
 me:c.1=31->c.2.2.1=c.2.1
theorem amY{i}{s}{c}{e:aK}(R:Reach i s)(G:GoR s c e)(hb:c.2.1≠0):axR s c:=by
 have hcA:=cn.cA R.L
 have hm:Mu (mkD s c)=true:=by
  have h:=G.al;unfold En at h;split at h
  .rename_i g;rcases g with g|g
   .exact absurd g hb
   .exact g
  .cases h
 have hs:=G.sn;unfold Iu at hs;rw[ag (show ¬Bj (mkD s c)=0 from hb)]at hs
 have al:s.2.1.any (λm=>m.1==c.2.1&&m.2.2.1==0)=true:=by
  cases hf:mG (fi (mkD s c)) (Bj (mkD s c))with
  |none=>rw[hf]at hs;cases hs
  |some m=>
   rw[hf]at hs;dsimp only at hs;split at hs
   .rename_i g;obtain⟨h1,h2⟩:=WW hf;exact jr.2 ⟨m,h1,by rw[aB];exact⟨fP.2 h2,fP.2 g⟩⟩
   .cases hs
 have un:∀u,Ah (mkD s c) u=true->YT s u c.2.1=true:=λu hu=>by unfold Ah at hu;exact aka hcA hb (fP.1 hu)
 have e1:bS (mkD s c)=c.1:=rfl;unfold Mu at hm;rw[e1]at hm;refine⟨al,?_,λh=>?_,λh=>?_,λh=>?_⟩
 .refine cQ λhn=>?_
  simp only[not_or]at hn;rw[ag (by omega),ag (by omega),ag (by omega),ag (by omega),ag (by omega),ag (by omega),ag (by omega),ag (by omega)]at hm;cases hm
 .by_cases h1:c.1=28\/c.1=29
  .rw[ah (by omega)]at hm;exact abT (u:=c.2.2.2.1) hm
  .rw[ag (by omega),ag (by omega),ah (by omega)]at hm;exact un _ hm
 .rw[ag (by omega),ag (by omega),ag (by omega),ag (by omega),ag (by omega),ag (by omega),ah (by omega)]at hm;exact un _ hm
 .rw[ag (by omega),ag (by omega),ag (by omega),ag (by omega),ag (by omega),ag (by omega),ag (by omega),ah (by omega)]at hm;have hm:(c.2.2.1==c.2.1)=true:=hm;simpa using hm
theorem afh{l:List cm}(hl:DT.Oi (.slc j5) l):ri aj l=some true:=by
 unfold ri;have hl2:=hl.2;refine bw λk3 hk3=>?_
 have K3:∀s,k3 s=some true:=λs=>by subst hk3;exact(ai arp _)
 refine po (X:=Int×aV) (λo=>o=some true) (λz=>100-z.1.toNat) (λz=>∃i:Nat,z.1=(i:Int)/\i<=90/\i<=l.length/\Reach i z.2) ⟨0,rfl,by omega,by omega,aro⟩ (by decide) ?_;rintro⟨_,s⟩ ⟨i,rfl,hi,PS,R⟩ again ha;by_cases h1:i<l.length;case neg=>rw[cY (by omega)];exact K3 s
 rw[dE h1];by_cases h2:i<90;case neg=>rw[cY (show ¬((i:Int)<90)by omega)];exact K3 s
 rw[eR (show(i:Int)<90 by omega),bO h1,ai arn];have hc:=axQ (hl.1 _ (aG h1));generalize shC l[i]=c at *;obtain⟨t,r,e1,R1,e2⟩:=R.step (by omega) hc;rw[ai e1];refine bw λva OA=>?_
 have K10:va ()=some true:=by subst OA;rw[cU i (by omega)];exact ha _ ⟨i+1,rfl,by omega,by omega,R1⟩ (by omega)
 refine bw λk32 axS=>?_
 have KF:k32 (false,())=some true:=by subst axS;exact(az rfl _ _).trans K10
 by_cases h3:r.1=0;case neg=>rw[py h3];exact KF
 rw[oO h3];by_cases h4:c.2.1=0
 case pos=>
  have:(c.2.1 != 0)=false:=by simpa using h4
  rw[this];exact KF
 have h5:(c.2.1 != 0)=true:=by simpa using h4
 rw[h5];rcases e2 with⟨e2,_⟩|⟨e,G,_⟩
 .exact absurd h3 e2
 have Wh:=amY R G h4;have hA:=cn.rC R.L;subst axS;refine(aQ rfl _ _).trans ?_;have hml:s.2.1.length<=8:=cn.mL R.L;refine qi (N:=s.2.1.length) (by omega) (λj=>((s.2.1.take j).any λm=>m.1==c.2.1&&m.2.2.1==0,(j:Int),())) _ rfl ?_ ?_
 .intro bp;refine IZ ?_;rw[br,Wh.al];refine bw λk31 a0c=>?_
  have K31:k31 (false,())=some true:=by
   subst a0c;refine bw λk30 a0d=>?_
   have K30:k30 (false,())=some true:=by
    subst a0d;refine(az rfl _ _).trans ?_;refine bw λk24 a0e=>?_
    have K24:k24 (false,())=some true:=by
     subst a0e;refine(az rfl _ _).trans ?_;refine bw λXd arq=>?_
     have K22:Xd (false,())=some true:=by subst arq;exact(az rfl _ _).trans K10
     clear arq
     have c31:aj.af (c.1==31) (Xd (c.2.2.1 != c.2.1,())) (Xd (false,()))=some true:=by
      by_cases h31:c.1=31
      .have:(c.2.2.1 != c.2.1)=false:=by simpa using Wh.me h31
       rw[oO h31,this];exact K22
      .rw[py h31];exact K22
     refine dQ (λh20=>?_) λh20=>?_
     .rw[ai (atL hA),Wh.ot h20];exact(az (c:=!true) rfl _ _).trans c31
     .exact c31
    by_cases hu:c.1=8\/c.1=12\/c.1=17\/c.1=18\/c.1=19\/c.1=26\/c.1=27\/c.1=28\/c.1=29
    .have ow:=Wh.un hu;have Ko:(aj.ae (Xc s c.2.2.2.1 c.2.1) λv=>k24 (!v,()))=some true:=by rw[ai (atL hA),ow];exact K24
     rcases hu with h|h|h|h|h|h|h|h|h<;>rw[h]<;>exact Ko
    .have nu:∀x:Int,(x=8\/x=12\/x=17\/x=18\/x=19\/x=26\/x=27\/x=28\/x=29)->(c.1==x)=false:=λx hx=>by
      have:c.1≠x:=λe=>hu (by rw[e];exact hx)
      simpa using this
     rcases Wh.op with h|h|h|h|h|h|h|h|h|h|h|h|h|h|h|h|h<;>first|(exfalso;omega)|(rw[h];exact K24)
   exact(az rfl _ _).trans K30
  rcases Wh.op with h|h|h|h|h|h|h|h|h|h|h|h|h|h|h|h|h<;>rw[h]<;>exact K31
 .intro j hj bp ha2;refine Jp hj ?_;refine bw λW4 av0=>?_
  have K15:W4 ((s.2.1.take (j+1)).any λm=>m.1==c.2.1&&m.2.2.1==0,())=some true:=by subst av0;rw[<-cU j (by omega)]at ha2;exact ha2
  have e3:(s.2.1.take (j+1)).any (λm=>m.1==c.2.1&&m.2.2.1==0)=((s.2.1.take j).any (λm=>m.1==c.2.1&&m.2.2.1==0)||(s.2.1[j].1==c.2.1&&s.2.1[j].2.2.1==0)):=by rw[ax hj,Gs];simp
  rw[e3]at K15;cases h6:(s.2.1.take j).any (λm=>m.1==c.2.1&&m.2.2.1==0)with
  |true=>rw[h6]at K15;rw[aQ rfl];exact K15
  |false=>
   rw[h6,DQ]at K15;rw[az rfl,bO hj];cases h7:(s.2.1[j].1==c.2.1)with
   |true=>rw[h7,yp]at K15;rw[aQ rfl,bO hj];exact K15
   |false=>rw[h7,Bool.false_and]at K15;rw[az rfl];exact K15
end Go.Proofs.YthghpahghjppjaaGreat